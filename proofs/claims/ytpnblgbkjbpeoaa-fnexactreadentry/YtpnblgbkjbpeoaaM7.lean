/- Part 7 of the proof of FnExactReadEntrySaid: what it leans on. -/
import Derived.Test.YtpnblgbkjbpeoaaM1
import Derived.Test.YtpnblgbkjbpeoaaM2
import Derived.Test.YtpnblgbkjbpeoaaM3
import Derived.Test.YtpnblgbkjbpeoaaM4
import Derived.Test.YtpnblgbkjbpeoaaM5
import Derived.Test.YtpnblgbkjbpeoaaM6

/- Plain laws of entries: valid, and their forms: the program's and the reference's come to one function. -/
namespace Go.Proofs.Ytpnblgbkjbpeoaa.Q
open Go.RowKit Go.Proofs.Ytpnblgbkjbpeoaa.P Go.Proofs.YtpnblgbkjbpeoaaW.PrintWords Go.Proofs.YtpnblgbkjbpeoaaW.PrintLast Go.Proofs.YtpnblgbkjbpeoaaW.PrintMore
set_option linter.unusedVariables false

theorem Ev.ite' {α : Type} {c : Prop} [Decidable c] {g f : Nat → Option α} {r : α} (h1 : c → Ev g r) (h2 : ¬ c → Ev f r) : Ev (fun k => if c then g k else f k) r := by
  by_cases h : c
  · exact Ev.congr (fun k => if_pos h) (h1 h)
  · exact Ev.congr (fun k => if_neg h) (h2 h)
theorem Ev.ret {α : Type} {a r : α} (h : a = r) : Ev (fun _ => some a) r := by rw [h]; exact Ev.now r
theorem Ev.pos {α : Type} {c : Prop} [Decidable c] {g f : Nat → Option α} {r : α} (h : c) (e : Ev g r) : Ev (fun k => if c then g k else f k) r := Ev.congr (fun _ => if_pos h) e
theorem Ev.neg {α : Type} {c : Prop} [Decidable c] {g f : Nat → Option α} {r : α} (h : ¬ c) (e : Ev f r) : Ev (fun k => if c then g k else f k) r := Ev.congr (fun _ => if_neg h) e
/-! ### names -/
def nameFrom (s : ByteArray) : Nat → Nat → Bool
  | 0, _ => decide (1 ≤ s.size ∧ s.size ≤ 40)
  | n + 1, i => if bt s (i : Int) < 33 then false else if bt s (i : Int) > 126 then false else nameFrom s n (i + 1)
def nameB (s : ByteArray) : Bool := nameFrom s s.size 0
theorem nameEnd (s : ByteArray) : (if (s.size : Int) ≥ 1 then some (decide ((s.size : Int) ≤ 40)) else some false) = some (decide (1 ≤ s.size ∧ s.size ≤ 40)) := by
  by_cases h : (s.size : Int) ≥ 1
  · rw [if_pos h]; congr 1; rw [Bool.eq_iff_iff, decide_eq_true_eq, decide_eq_true_eq]; omega
  · rw [if_neg h]; congr 1; symm; rw [decide_eq_false_iff_not]; omega
theorem sName_loop (s : ByteArray) (hs : s.size ≤ 140737488351232) (n : Nat) : ∀ (i : Nat), s.size - i = n → i ≤ s.size → Ev (fun k => spec_l3NameOk.l0 k s (i : Int)) (nameFrom s n i) := by
  induction n with
  | zero =>
    intro i hn hi
    refine Ev.step (f := fun _ => some (nameFrom s 0 i)) (fun k => ?_) (Ev.now _)
    simp only [spec_l3NameOk.l0]; rw [if_neg (by omega), nameEnd]; rfl
  | succ n ih =>
    intro i hn hi
    have hlt : i < s.size := by omega
    refine Ev.step (fun k => by simp only [spec_l3NameOk.l0]; rw [if_pos (by omega), if_pos (by omega), wsucc hlt hs]) ?_
    unfold nameFrom
    refine Ev.ite' (fun h => ?_) (fun h => ?_)
    · rw [if_pos h]; exact Ev.now _
    · rw [if_neg h]
      refine Ev.ite' (fun h2 => ?_) (fun h2 => ?_)
      · rw [if_pos h2]; exact Ev.now _
      · rw [if_neg h2]; exact ih (i + 1) (by omega) (by omega)
theorem sName_ev (s : ByteArray) (hs : s.size ≤ 140737488351232) : Ev (fun k => spec_l3NameOk.f k s) (nameB s) :=
  Ev.congr (fun k => by unfold spec_l3NameOk.f; rfl) (sName_loop s hs s.size 0 (by omega) (by omega))
theorem iName_loop (s : ByteArray) (hs : s.size ≤ 140737488351232) (n : Nat) : ∀ (i : Nat), s.size - i = n → i ≤ s.size → Ev (fun k => impl_nameOk.l0 k s (s.size : Int) (i : Int)) (nameFrom s n i) := by
  induction n with
  | zero =>
    intro i hn hi
    refine Ev.step (f := fun _ => some (nameFrom s 0 i)) (fun k => ?_) (Ev.now _)
    simp only [impl_nameOk.l0]; rw [if_neg (by omega), nameEnd]; rfl
  | succ n ih =>
    intro i hn hi
    have hlt : i < s.size := by omega
    refine Ev.step (fun k => by simp only [impl_nameOk.l0]; rw [if_pos (by omega), if_pos (by omega), if_pos (by omega), wsucc hlt hs]) ?_
    unfold nameFrom
    refine Ev.ite' (fun h => ?_) (fun h => ?_)
    · rw [if_pos h]; exact Ev.now _
    · rw [if_neg h]
      refine Ev.ite' (fun h2 => ?_) (fun h2 => ?_)
      · rw [if_pos h2]; exact Ev.now _
      · rw [if_neg h2]; exact ih (i + 1) (by omega) (by omega)
theorem iName_ev (s : ByteArray) (hs : s.size ≤ 140737488351232) : Ev (fun k => impl_nameOk.f k s) (nameB s) :=
  Ev.congr (fun k => by unfold impl_nameOk.f; rfl) (iName_loop s hs s.size 0 (by omega) (by omega))
/-! ### valid entries -/
def uS (k : Int) : Bool := if k = 2 then true else if k = 4 then true else k == 7
def uN (k : Int) : Bool := if k = 2 then true else k == 3
def numB (k n : Int) : Bool := if k = 1 ∨ k = 4 ∨ k = 6 then decide (1 ≤ n ∧ n ≤ 100000) else if k = 5 then decide (1 ≤ n ∧ n ≤ 1000000000) else n == 0
def sumOkB (k : Int) (s : ByteArray) (w : Int) : Bool := if uS k = true then decide ((s.size : Int) = w) else decide (s.size = 0)
def nmOkB (k : Int) (s : ByteArray) : Bool := if uN k = true then nameB s else decide (s.size = 0)
def thOkB (b : Bool) (t : ByteArray) (l : List ByteArray) (w : Int) : Bool := if b = true then thingB t l w else decide (t.size = 0 ∧ l.length = 0)
def entB (k : Int) (s n : ByteArray) (m : Int) (t : ByteArray) (l : List ByteArray) (w : Int) : Bool :=
  if widB w = true then (if 1 ≤ k ∧ k ≤ 7 then (if sumOkB k s w = true then (if numB k m = true then (if nmOkB k n = true then thOkB (k == 1) t l w else false) else false) else false) else false) else false
theorem nil_b {s : ByteArray} : (s.toList != ([] : List UInt8)) = !decide (s.size = 0) := by
  by_cases h : s.size = 0
  · rw [toList_nil.2 h, decide_eq_true h]; rfl
  · have h2 : s.toList ≠ [] := fun e => h (toList_nil.1 e)
    rw [decide_eq_false h]; simpa using h2
theorem endB (t : ByteArray) (l : List ByteArray) : (if t.toList = ([] : List UInt8) then some ((l.length : Int) == 0) else some false) = some (decide (t.size = 0 ∧ l.length = 0)) := by
  by_cases h : t.size = 0
  · rw [if_pos (toList_nil.2 h)]; congr 1; rw [Bool.eq_iff_iff]; simp [h]
  · rw [if_neg (fun e => h (toList_nil.1 e))]; congr 1; simp [h]
section
theorem sOk2 (w : Int) (b x : Bool) (a0 : Int) (a1 a2 : ByteArray) (a3 : Int) (t : ByteArray) (l : List ByteArray) (hl : l.length ≤ 140737488351232) :
    Ev (fun k => spec_l3Ok.j2 k w b x a0 a1 a2 a3 t l) (if x = true then false else thOkB b t l w) := by
  refine Ev.step (fun k => by simp only [spec_l3Ok.j2]; rfl) ?_
  refine Ev.ite' (fun h => by rw [if_pos h]; exact Ev.now _) (fun h => ?_)
  rw [if_neg h]
  unfold thOkB
  refine Ev.ite' (fun h2 => ?_) (fun h2 => ?_)
  · rw [if_pos h2]; exact Ev.bind (sOk_ev t l w hl) (Ev.now _)
  · rw [if_neg h2]; exact Ev.congr (fun k => endB t l) (Ev.now _)
theorem sOk1 (w : Int) (c b x : Bool) (a0 : Int) (a1 a2 : ByteArray) (a3 : Int) (t : ByteArray) (l : List ByteArray) (hl : l.length ≤ 140737488351232) (h2 : a2.size ≤ 140737488351232) :
    Ev (fun k => spec_l3Ok.j1 k w c b x a0 a1 a2 a3 t l) (if x = true then false else if (if c = true then nameB a2 else decide (a2.size = 0)) = true then thOkB b t l w else false) := by
  refine Ev.step (fun k => by simp only [spec_l3Ok.j1]; rfl) ?_
  refine Ev.ite' (fun h => by rw [if_pos h]; exact Ev.now _) (fun h => ?_)
  rw [if_neg h]
  refine Ev.ite' (fun hc => ?_) (fun hc => ?_)
  · rw [if_pos hc]
    refine Ev.bind (sName_ev a2 h2) (Ev.ite' (fun hn => ?_) (fun hn => ?_))
    · rw [if_pos hn]; exact sOk2 w b false a0 a1 a2 a3 t l hl
    · rw [if_neg hn]; exact sOk2 w b true a0 a1 a2 a3 t l hl
  · rw [if_neg hc, nil_b]
    have := sOk2 w b (!decide (a2.size = 0)) a0 a1 a2 a3 t l hl
    cases hd : decide (a2.size = 0) <;> rw [hd] at this <;> exact this
theorem sNum (k m : Int) : ∃ a b c d, spec_l3Uses.f k = some (a, b, c, d) ∧ (1 ≤ k → k ≤ 7 → a = uS k ∧ b = uN k ∧ d = (k == 1) ∧ spec_l3NumberOk.f m c = some (numB k m)) ∧ ∃ q, spec_l3NumberOk.f m c = some q := by
  have hq : ∀ c, ∃ q, spec_l3NumberOk.f m c = some q := fun c => by unfold spec_l3NumberOk.f; repeat (first | exact ⟨_, rfl⟩ | split)
  have e1 : (if m ≥ 1 then some (decide (m ≤ 100000)) else some false) = some (decide (1 ≤ m ∧ m ≤ 100000)) := by
    by_cases h : m ≥ 1
    · rw [if_pos h]; congr 1; rw [Bool.eq_iff_iff, decide_eq_true_eq, decide_eq_true_eq]; omega
    · rw [if_neg h]; congr 1; symm; rw [decide_eq_false_iff_not]; omega
  have e2 : (if m ≥ 1 then some (decide (m ≤ 1000000000)) else some false) = some (decide (1 ≤ m ∧ m ≤ 1000000000)) := by
    by_cases h : m ≥ 1
    · rw [if_pos h]; congr 1; rw [Bool.eq_iff_iff, decide_eq_true_eq, decide_eq_true_eq]; omega
    · rw [if_neg h]; congr 1; symm; rw [decide_eq_false_iff_not]; omega
  unfold spec_l3Uses.f
  by_cases h1 : k = 1
  · subst h1; exact ⟨_, _, _, _, rfl, fun _ _ => ⟨rfl, rfl, rfl, by unfold spec_l3NumberOk.f numB; rw [if_pos rfl, e1, if_pos (.inl rfl)]⟩, hq _⟩
  by_cases h2 : k = 2
  · subst h2; exact ⟨_, _, _, _, rfl, fun _ _ => ⟨rfl, rfl, rfl, by unfold spec_l3NumberOk.f numB; rw [if_neg (by omega), if_neg (by omega), if_neg (by omega), if_neg (by omega)]⟩, hq _⟩
  by_cases h3 : k = 3
  · subst h3; exact ⟨_, _, _, _, rfl, fun _ _ => ⟨rfl, rfl, rfl, by unfold spec_l3NumberOk.f numB; rw [if_neg (by omega), if_neg (by omega), if_neg (by omega), if_neg (by omega)]⟩, hq _⟩
  by_cases h4 : k = 4
  · subst h4; exact ⟨_, _, _, _, rfl, fun _ _ => ⟨rfl, rfl, rfl, by unfold spec_l3NumberOk.f numB; rw [if_pos rfl, e1, if_pos (by omega)]⟩, hq _⟩
  by_cases h5 : k = 5
  · subst h5; exact ⟨_, _, _, _, rfl, fun _ _ => ⟨rfl, rfl, rfl, by unfold spec_l3NumberOk.f numB; rw [if_neg (by omega), if_pos rfl, e2, if_neg (by omega), if_pos rfl]⟩, hq _⟩
  by_cases h6 : k = 6
  · subst h6; exact ⟨_, _, _, _, rfl, fun _ _ => ⟨rfl, rfl, rfl, by unfold spec_l3NumberOk.f numB; rw [if_pos rfl, e1, if_pos (by omega)]⟩, hq _⟩
  by_cases h7 : k = 7
  · subst h7; exact ⟨_, _, _, _, rfl, fun _ _ => ⟨rfl, rfl, rfl, by unfold spec_l3NumberOk.f numB; rw [if_neg (by omega), if_neg (by omega), if_neg (by omega), if_neg (by omega)]⟩, hq _⟩
  rw [if_neg h1, if_neg h2, if_neg h3, if_neg h4, if_neg h5, if_neg h6, if_neg h7]
  exact ⟨_, _, _, _, rfl, fun _ _ => by omega, hq _⟩
theorem sOk0 (w : Int) (x : Bool) (a0 : Int) (a1 a2 : ByteArray) (a3 : Int) (t : ByteArray) (l : List ByteArray) (hl : l.length ≤ 140737488351232) (h2 : a2.size ≤ 140737488351232) (hx : x = false → 1 ≤ a0 ∧ a0 ≤ 7) :
    Ev (fun k => spec_l3Ok.j0 k w x a0 a1 a2 a3 t l) (if x = true then false else if sumOkB a0 a1 w = true then (if numB a0 a3 = true then (if nmOkB a0 a2 = true then thOkB (a0 == 1) t l w else false) else false) else false) := by
  refine Ev.step (fun k => by simp only [spec_l3Ok.j0]; rfl) ?_
  refine Ev.ite' (fun h => by rw [if_pos h]; exact Ev.now _) (fun h => ?_)
  rw [if_neg h]
  obtain ⟨a, b, c, d, hu, hk, _⟩ := sNum a0 a3
  have hr := hx (by simpa using h)
  obtain ⟨rfl, rfl, rfl, hn⟩ := hk hr.1 hr.2
  refine Ev.bind (g := fun _ => spec_l3Uses.f a0) (a := (uS a0, uN a0, c, (a0 == 1))) (Ev.congr (fun _ => hu) (Ev.now _)) ?_
  have key : ∀ y : Bool, Ev (fun k => spec_l3Ok.j1 k w (uN a0) (a0 == 1) y a0 a1 a2 a3 t l) (if y = true then false else if nmOkB a0 a2 = true then thOkB (a0 == 1) t l w else false) := fun y => sOk1 w _ _ y a0 a1 a2 a3 t l hl h2
  unfold sumOkB
  refine Ev.ite' (fun hs => ?_) (fun hs => ?_)
  · rw [if_pos hs]
    refine Ev.ite' (fun hz => ?_) (fun hz => ?_)
    · rw [if_pos (decide_eq_true hz)]
      refine Ev.bind (g := fun _ => spec_l3NumberOk.f a3 c) (Ev.congr (fun _ => hn) (Ev.now _)) ?_
      have := key (!numB a0 a3)
      cases hb : numB a0 a3 <;> rw [hb] at this <;> exact this
    · rw [if_neg (by simpa using hz)]; exact key true
  · rw [if_neg hs]
    refine Ev.ite' (fun hz => ?_) (fun hz => ?_)
    · rw [if_pos (decide_eq_true (toList_nil.1 hz))]
      refine Ev.bind (g := fun _ => spec_l3NumberOk.f a3 c) (Ev.congr (fun _ => hn) (Ev.now _)) ?_
      have := key (!numB a0 a3)
      cases hb : numB a0 a3 <;> rw [hb] at this <;> exact this
    · rw [if_neg (by simpa using fun e => hz (toList_nil.2 e))]; exact key true
theorem sEnt_ev (a0 : Int) (a1 a2 : ByteArray) (a3 : Int) (t : ByteArray) (l : List ByteArray) (w : Int) (hl : l.length ≤ 140737488351232) (h2 : a2.size ≤ 140737488351232) :
    Ev (fun k => spec_l3Ok.f k a0 a1 a2 a3 t l w) (entB a0 a1 a2 a3 t l w) := by
  unfold entB
  refine Ev.bind (g := fun _ => spec_l1Width.f w) (Ev.congr (fun _ => l1W w) (Ev.now _)) (Ev.ite' (fun hw => ?_) (fun hw => ?_))
  · rw [if_pos hw]
    refine Ev.ite' (fun h1 => ?_) (fun h1 => ?_)
    · rw [if_neg (by omega)]; exact sOk0 w true a0 a1 a2 a3 t l hl h2 (fun h => by cases h)
    · by_cases h7 : a0 > 7
      · rw [if_neg (by omega)]; exact Ev.congr (fun k => by rw [decide_eq_true h7]) (sOk0 w true a0 a1 a2 a3 t l hl h2 (fun h => by cases h))
      · rw [if_pos (by omega)]; exact Ev.congr (fun k => by rw [decide_eq_false h7]) (sOk0 w false a0 a1 a2 a3 t l hl h2 (fun h => by omega))
  · rw [if_neg hw]; exact sOk0 w true a0 a1 a2 a3 t l hl h2 (fun h => by cases h)
/-! the program's -/
theorem iUS (k : Int) : impl_usesSum.f k = some (uS k) := by unfold impl_usesSum.f uS; split <;> (try rfl); split <;> rfl
theorem iUN (k : Int) : impl_usesName.f k = some (uN k) := by unfold impl_usesName.f uN; split <;> rfl
theorem iOk5 (w : Int) (x : Bool) (a0 : Int) (a1 a2 : ByteArray) (a3 : Int) (t : ByteArray) (l : List ByteArray) (hl : l.length ≤ 140737488351232) :
    Ev (fun k => impl_entryOk.j5 k w x a0 a1 a2 a3 t l) (if x = true then false else thOkB (a0 == 1) t l w) := by
  refine Ev.step (fun k => by simp only [impl_entryOk.j5]; rfl) ?_
  refine Ev.ite' (fun h => by rw [if_pos h]; exact Ev.now _) (fun h => ?_)
  rw [if_neg h]
  unfold thOkB
  refine Ev.ite' (fun h2 => ?_) (fun h2 => ?_)
  · rw [if_pos (show (a0 == 1) = true by simpa using h2)]; exact Ev.bind (iOk_ev t l w hl) (Ev.now _)
  · rw [if_neg (show ¬ ((a0 == 1) = true) by simpa using h2)]; exact Ev.congr (fun k => endB t l) (Ev.now _)
theorem iOk4 (w lo hi : Int) (a0 : Int) (a1 a2 : ByteArray) (a3 : Int) (t : ByteArray) (l : List ByteArray) (hl : l.length ≤ 140737488351232) :
    Ev (fun k => impl_entryOk.j4 k w lo hi a0 a1 a2 a3 t l) (if lo ≤ a3 ∧ a3 ≤ hi then thOkB (a0 == 1) t l w else false) := by
  refine Ev.step (fun k => by simp only [impl_entryOk.j4]; rfl) ?_
  refine Ev.ite' (fun h => ?_) (fun h => ?_)
  · rw [if_neg (by omega)]; exact iOk5 w true a0 a1 a2 a3 t l hl
  · by_cases h2 : a3 > hi
    · rw [if_neg (by omega)]; exact Ev.congr (fun k => by rw [decide_eq_true h2]) (iOk5 w true a0 a1 a2 a3 t l hl)
    · rw [if_pos (by omega)]; exact Ev.congr (fun k => by rw [decide_eq_false h2]) (iOk5 w false a0 a1 a2 a3 t l hl)
theorem iOk3 (w : Int) (a0 : Int) (b : Bool) (a1 a2 : ByteArray) (a3 : Int) (t : ByteArray) (l : List ByteArray) (hl : l.length ≤ 140737488351232) (hb : b = decide (a0 = 1 ∨ a0 = 4 ∨ a0 = 6)) :
    Ev (fun k => impl_entryOk.j3 k w 0 0 a0 b a0 a1 a2 a3 t l) (if numB a0 a3 = true then thOkB (a0 == 1) t l w else false) := by
  refine Ev.step (fun k => by simp only [impl_entryOk.j3]; rfl) ?_
  unfold numB
  refine Ev.ite' (fun h => ?_) (fun h => ?_)
  · have h' : a0 = 1 ∨ a0 = 4 ∨ a0 = 6 := of_decide_eq_true (hb ▸ h)
    rw [if_pos h']
    have := iOk4 w 1 100000 a0 a1 a2 a3 t l hl
    simpa using this
  · have h' : ¬ (a0 = 1 ∨ a0 = 4 ∨ a0 = 6) := fun e => h (by rw [hb]; exact decide_eq_true e)
    rw [if_neg h']
    refine Ev.ite' (fun h5 => ?_) (fun h5 => ?_)
    · rw [if_pos h5]
      have := iOk4 w 1 1000000000 a0 a1 a2 a3 t l hl
      simpa using this
    · rw [if_neg h5]
      have := iOk4 w 0 0 a0 a1 a2 a3 t l hl
      have e : (0 ≤ a3 ∧ a3 ≤ 0) ↔ (a3 == 0) = true := by rw [beq_iff_eq]; omega
      simp only [e] at this
      exact this
theorem iOk2 (w : Int) (x : Bool) (a0 : Int) (a1 a2 : ByteArray) (a3 : Int) (t : ByteArray) (l : List ByteArray) (hl : l.length ≤ 140737488351232) :
    Ev (fun k => impl_entryOk.j2 k w x a0 a1 a2 a3 t l) (if x = true then false else if numB a0 a3 = true then thOkB (a0 == 1) t l w else false) := by
  refine Ev.step (fun k => by simp only [impl_entryOk.j2]; rfl) ?_
  refine Ev.ite' (fun h => by rw [if_pos h]; exact Ev.now _) (fun h => ?_)
  rw [if_neg h]
  refine Ev.ite' (fun h1 => ?_) (fun h1 => Ev.ite' (fun h4 => ?_) (fun h4 => ?_))
  · exact iOk3 w a0 _ a1 a2 a3 t l hl (by rw [Bool.eq_iff_iff]; simp [h1])
  · exact iOk3 w a0 _ a1 a2 a3 t l hl (by rw [Bool.eq_iff_iff]; simp [h4])
  · exact iOk3 w a0 _ a1 a2 a3 t l hl (by rw [Bool.eq_iff_iff]; simp [h1, h4])
theorem iOk1 (w : Int) (x : Bool) (a0 : Int) (a1 a2 : ByteArray) (a3 : Int) (t : ByteArray) (l : List ByteArray) (hl : l.length ≤ 140737488351232) (hz : a2.size ≤ 140737488351232) :
    Ev (fun k => impl_entryOk.j1 k w x a0 a1 a2 a3 t l) (if x = true then false else if nmOkB a0 a2 = true then (if numB a0 a3 = true then thOkB (a0 == 1) t l w else false) else false) := by
  refine Ev.step (fun k => by simp only [impl_entryOk.j1]; rfl) ?_
  refine Ev.ite' (fun h => by rw [if_pos h]; exact Ev.now _) (fun h => ?_)
  rw [if_neg h]
  have key := fun y => iOk2 w y a0 a1 a2 a3 t l hl
  have eu : Ev (fun _ => impl_usesName.f a0) (uN a0) := Ev.congr (fun _ => iUN a0) (Ev.now _)
  unfold nmOkB
  refine Ev.bind eu (Ev.ite' (fun hu => ?_) (fun hu => ?_))
  · rw [if_pos hu]
    refine Ev.bind (iName_ev a2 hz) (Ev.ite' (fun hn => ?_) (fun hn => ?_))
    · rw [if_pos hn]; exact Ev.bind eu (Ev.ite' (fun _ => key false) (fun h => absurd hu h))
    · rw [if_neg hn]; exact key true
  · rw [if_neg hu]
    refine Ev.bind eu (Ev.ite' (fun h => absurd h hu) (fun _ => ?_))
    have := key (!decide (a2.size = 0))
    cases hd : decide (a2.size = 0) <;> rw [hd] at this <;> rw [nil_b, hd] <;> exact this
theorem iOk0 (w : Int) (x : Bool) (a0 : Int) (a1 a2 : ByteArray) (a3 : Int) (t : ByteArray) (l : List ByteArray) (hl : l.length ≤ 140737488351232) (hz : a2.size ≤ 140737488351232) :
    Ev (fun k => impl_entryOk.j0 k w x a0 a1 a2 a3 t l) (if x = true then false else if sumOkB a0 a1 w = true then (if nmOkB a0 a2 = true then (if numB a0 a3 = true then thOkB (a0 == 1) t l w else false) else false) else false) := by
  refine Ev.step (fun k => by simp only [impl_entryOk.j0]; rfl) ?_
  refine Ev.ite' (fun h => by rw [if_pos h]; exact Ev.now _) (fun h => ?_)
  rw [if_neg h]
  have key := fun y => iOk1 w y a0 a1 a2 a3 t l hl hz
  have eu : Ev (fun _ => impl_usesSum.f a0) (uS a0) := Ev.congr (fun _ => iUS a0) (Ev.now _)
  unfold sumOkB
  refine Ev.bind eu (Ev.ite' (fun hu => ?_) (fun hu => ?_))
  · rw [if_pos hu]
    refine Ev.ite' (fun hs => ?_) (fun hs => ?_)
    · rw [if_pos (decide_eq_true hs)]; exact Ev.bind eu (Ev.ite' (fun _ => key false) (fun h => absurd hu h))
    · rw [if_neg (by simpa using hs)]; exact key true
  · rw [if_neg hu]
    refine Ev.bind eu (Ev.ite' (fun h => absurd h hu) (fun _ => ?_))
    have := key (!decide (a1.size = 0))
    cases hd : decide (a1.size = 0) <;> rw [hd] at this <;> rw [nil_b, hd] <;> exact this
theorem swapB (a b c d : Bool) : (if a = true then (if b = true then (if c = true then d else false) else false) else false) = (if a = true then (if c = true then (if b = true then d else false) else false) else false) := by
  cases a <;> cases b <;> cases c <;> cases d <;> rfl
theorem iEnt_ev (a0 : Int) (a1 a2 : ByteArray) (a3 : Int) (t : ByteArray) (l : List ByteArray) (w : Int) (hl : l.length ≤ 140737488351232) (h2 : a2.size ≤ 140737488351232) :
    Ev (fun k => impl_entryOk.f k a0 a1 a2 a3 t l w) (entB a0 a1 a2 a3 t l w) := by
  have key := fun y => iOk0 w y a0 a1 a2 a3 t l hl h2
  unfold entB
  rw [swapB]
  have ef : ∀ b : Bool, (if b = true then (false : Bool) else false) = false := fun b => by cases b <;> rfl
  refine Ev.ite' (fun h1 => ?_) (fun h1 => Ev.ite' (fun h7 => ?_) (fun h7 => ?_))
  · rw [if_neg (show ¬ (1 ≤ a0 ∧ a0 ≤ 7) by omega), ef]; exact key true
  · rw [if_neg (show ¬ (1 ≤ a0 ∧ a0 ≤ 7) by omega), ef]; exact key true
  · rw [if_pos (show 1 ≤ a0 ∧ a0 ≤ 7 by omega)]
    refine Ev.bind (g := fun _ => impl_widthOk.f w) (Ev.congr (fun _ => wOk w) (Ev.now _)) ?_
    have := key (!widB w)
    cases hb : widB w <;> rw [hb] at this <;> exact this
end
/-! ### entries' forms -/
def head6 (k m n : Int) : List Int := [k % 256, m / 16777216 % 256, m / 65536 % 256, m / 256 % 256, m % 256, n % 256]
def formE (k : Int) (s n : ByteArray) (m : Int) (t : ByteArray) (l : List ByteArray) (w : Int) : ByteArray :=
  if entB k s n m t l w = true then (if k = 1 then strOfNums (head6 k m (n.size : Int)) ++ n ++ s ++ formB t l else strOfNums (head6 k m (n.size : Int)) ++ n ++ s) else ⟨#[]⟩
theorem entB_le {k : Int} {s n : ByteArray} {m : Int} {t : ByteArray} {l : List ByteArray} {w : Int} (h : entB k s n m t l w = true) :
    1 ≤ k ∧ k ≤ 7 ∧ 0 ≤ m ∧ m ≤ 1000000000 ∧ s.size ≤ 8 ∧ n.size ≤ 40 ∧ 1 ≤ w ∧ w ≤ 8 ∧ (k = 1 → thingB t l w = true) := by
  unfold entB at h
  split at h
  · rename_i hw
    have hw' := widB_iff.1 hw
    split at h
    · rename_i hk
      split at h
      · rename_i hs
        split at h
        · rename_i hm
          split at h
          · rename_i hn
            refine ⟨hk.1, hk.2, ?_, ?_, ?_, ?_, hw'.1, hw'.2, fun e => ?_⟩
            · unfold numB at hm; split at hm
              · have := of_decide_eq_true hm; omega
              · split at hm
                · have := of_decide_eq_true hm; omega
                · have := beq_iff_eq.1 hm; omega
            · unfold numB at hm; split at hm
              · have := of_decide_eq_true hm; omega
              · split at hm
                · have := of_decide_eq_true hm; omega
                · have := beq_iff_eq.1 hm; omega
            · unfold sumOkB at hs; split at hs
              · have := of_decide_eq_true hs; omega
              · have := of_decide_eq_true hs; omega
            · unfold nmOkB at hn; split at hn
              · have key : ∀ j i, nameFrom n j i = true → n.size ≤ 40 := by
                  intro j
                  induction j with
                  | zero => intro i h; exact (of_decide_eq_true h).2
                  | succ j ih =>
                    intro i h
                    unfold nameFrom at h
                    split at h
                    · cases h
                    · split at h
                      · cases h
                      · exact ih _ h
                exact key _ _ hn
              · have := of_decide_eq_true hn; omega
            · subst e
              have : thOkB true t l w = true := h
              unfold thOkB at this
              rwa [if_pos rfl] at this
          · cases h
        · cases h
      · cases h
    · cases h
  · cases h
theorem form_size {t : ByteArray} {l : List ByteArray} {w : Int} (h : thingB t l w = true) : (formB t l).size ≤ 2241 := by
  have hs := thing_small h
  have h1 : (headB l.length).size = 1 := by unfold headB; rw [son_size]; rfl
  unfold formB
  rw [ByteArray.size_append, ByteArray.size_append, h1, catB_size]
  omega
theorem sFE_ev (k : Int) (s n : ByteArray) (m : Int) (t : ByteArray) (l : List ByteArray) (w : Int) (hl : l.length ≤ 140737488351232) (h2 : n.size ≤ 140737488351232) : Ev (fun f => spec_FormEntry.f f k s n m t l w) (formE k s n m t l w) := by
  refine Ev.bind (sEnt_ev k s n m t l w hl h2) ?_
  unfold formE
  by_cases c : entB k s n m t l w = true
  · obtain ⟨k1, k7, m0, m9, hs, hn, _, _, hT⟩ := entB_le c
    have e1 : wrap64 (Int.tdiv m 16777216) % 256 = m / 16777216 % 256 := by rw [Int.tdiv_eq_ediv_of_nonneg m0, w64_small (by omega) (by omega)]
    have e2 : Int.tmod (wrap64 (Int.tdiv m 65536)) 256 % 256 = m / 65536 % 256 := by rw [Int.tdiv_eq_ediv_of_nonneg m0, w64_small (by omega) (by omega), Int.tmod_eq_emod_of_nonneg (by omega)]; omega
    have e3 : Int.tmod (wrap64 (Int.tdiv m 256)) 256 % 256 = m / 256 % 256 := by rw [Int.tdiv_eq_ediv_of_nonneg m0, w64_small (by omega) (by omega), Int.tmod_eq_emod_of_nonneg (by omega)]; omega
    have e4 : Int.tmod m 256 % 256 = m % 256 := by rw [Int.tmod_eq_emod_of_nonneg m0]; omega
    rw [if_pos c]
    refine Ev.pos c (Ev.bind (Ev.now _) (Ev.pos (by simp; omega) (Ev.bind (Ev.now _) (Ev.pos (by simp [bytes_length]; omega) (Ev.bind (Ev.now _) (Ev.ite' (fun hk => ?_) (fun hk => ?_)))))))
    · rw [if_pos hk]
      have hf : formT t l w = formB t l := by unfold formT; rw [if_pos (hT hk)]
      refine Ev.bind (sFormT_ev t l w hl) ?_
      rw [hf]
      have := form_size (hT hk)
      refine Ev.pos (by simp [bytes_length]; omega) (Ev.ret ?_)
      simp only [son_append, son_bytes, e1, e2, e3, e4]; rfl
    · rw [if_neg hk]
      refine Ev.ret ?_
      simp only [son_append, son_bytes, e1, e2, e3, e4]; rfl
  · rw [if_neg c]
    exact Ev.congr (fun f => if_neg c) (Ev.now _)
end Go.Proofs.Ytpnblgbkjbpeoaa.Q

/- Plain laws of forms that are read back: a thing's form and an entry's, byte by byte. -/
namespace Go.Proofs.Ytpnblgbkjbpeoaa.Q
open Go.RowKit Go.Proofs.Ytpnblgbkjbpeoaa.P Go.Proofs.YtpnblgbkjbpeoaaW.PrintWords Go.Proofs.YtpnblgbkjbpeoaaW.PrintLast Go.Proofs.YtpnblgbkjbpeoaaW.PrintMore
set_option linter.unusedVariables false

theorem cat_ext (s : ByteArray) (a b c : Nat) (h1 : a ≤ b) (h2 : b ≤ c) : s.extract a b ++ s.extract b c = s.extract a c := by
  rw [ByteArray.extract_append_extract, Nat.min_eq_left h1, Nat.max_eq_right h2]
theorem ext_all (s : ByteArray) : s.extract 0 s.size = s := ByteArray.extract_zero_size
theorem ba_len {s : ByteArray} (h : s.size = 0) : s = ⟨#[]⟩ := by
  apply ByteArray.ext; exact Array.eq_empty_of_size_eq_zero h
theorem toList_inj {a b : ByteArray} (h : a.toList = b.toList) : a = b := by
  rw [toList_data, toList_data] at h
  exact ByteArray.ext (Array.ext' h)
theorem bytesOf_ext (s : ByteArray) (a c : Nat) : bytesOf (s.extract a c) = ((bytesOf s).drop a).take (c - a) := by
  unfold bytesOf
  rw [ByteArray.data_extract, Array.toList_extract, List.extract_eq_take_drop, List.map_take, List.map_drop]
theorem bytesOf_app (a b : ByteArray) : bytesOf (a ++ b) = bytesOf a ++ bytesOf b := by
  unfold bytesOf
  rw [ByteArray.data_append, Array.toList_append, List.map_append]
theorem bytesOf_son (xs : List Int) (h : ∀ x ∈ xs, 0 ≤ x ∧ x < 256) : bytesOf (strOfNums xs) = xs := by
  induction xs with
  | nil => rfl
  | cons x xs ih =>
    have e : strOfNums (x :: xs) = strOfNums [x] ++ strOfNums xs := by rw [← son_append]; rfl
    rw [e, bytesOf_app, ih (fun y hy => h y (List.mem_cons_of_mem _ hy))]
    have hx := h x (List.mem_cons_self)
    have e1 : bytesOf (strOfNums [x]) = [x] := by
      obtain ⟨n, rfl⟩ : ∃ n : Nat, x = (n : Int) := ⟨x.toNat, by omega⟩
      have hn : n < 256 := by omega
      simp only [bytesOf, strOfNums, List.map_cons, List.map_nil, List.cons.injEq, and_true]
      first
      | omega
      | (simp; omega)
    rw [e1]; rfl
theorem bt_ext (s : ByteArray) (a c i : Nat) (h : a + i < c) (hc : c ≤ s.size) : bt (s.extract a c) (i : Int) = bt s ((a + i : Nat) : Int) := by
  rw [← rd_bytesOf, ← rd_bytesOf, bytesOf_ext]
  unfold rd
  have hl : (bytesOf s).length = s.size := bytes_length s
  have h1 : i < ((bytesOf s).drop a |>.take (c - a)).length := by rw [List.length_take, List.length_drop]; omega
  rw [Int.toNat_natCast, Int.toNat_natCast, List.getD_eq_getElem?_getD, List.getD_eq_getElem?_getD, List.getElem?_take, if_pos (by omega), List.getElem?_drop]
theorem bt_app (a b : ByteArray) (h : 0 < a.size) : bt (a ++ b) 0 = bt a 0 := by
  rw [← rd_bytesOf, ← rd_bytesOf, bytesOf_app]
  have : 0 < (bytesOf a).length := by rw [bytes_length]; exact h
  cases hb : bytesOf a with
  | nil => rw [hb] at this; cases this
  | cons x l => rfl
/-- The first six bytes. -/
theorem six (s : ByteArray) (h : 6 ≤ s.size) : strOfNums [bt s 0, bt s 1, bt s 2, bt s 3, bt s 4, bt s 5] = s.extract 0 6 := by
  have hl : (bytesOf (s.extract 0 6)).length = 6 := by rw [bytes_length, ByteArray.size_extract]; omega
  have hb : ∀ i : Nat, i < 6 → rd (bytesOf (s.extract 0 6)) (i : Int) = bt s (i : Int) := fun i hi => by rw [rd_bytesOf, bt_ext s 0 6 i (by omega) h, Nat.zero_add]
  rw [← son_bytes (s.extract 0 6)]
  congr 1
  have h0 := hb 0 (by omega); have h1 := hb 1 (by omega); have h2 := hb 2 (by omega); have h3 := hb 3 (by omega); have h4 := hb 4 (by omega); have h5 := hb 5 (by omega)
  generalize bytesOf (s.extract 0 6) = l at *
  match l, hl with
  | [a, b, c, d, e, f], _ =>
    simp only [rd, Int.toNat_natCast, List.getD_cons_zero, List.getD_cons_succ] at h0 h1 h2 h3 h4 h5
    rw [h0, h1, h2, h3, h4, h5]; rfl
/-! ### things -/
theorem catB_pieces (s : ByteArray) (W n : Nat) : ∀ p, p + n * W ≤ s.size → catB (pieces s W n p) = s.extract p (p + n * W) := by
  induction n with
  | zero => intro p h; simp only [pieces, catB, Nat.zero_mul, Nat.add_zero]; exact (ba_len (by rw [ByteArray.size_extract]; omega)).symm
  | succ n ih =>
    intro p h
    have e : (n + 1) * W = n * W + W := Nat.succ_mul n W
    have e2 : p + W + n * W = p + (n + 1) * W := by omega
    simp only [pieces, catB]
    rw [ih (p + W) (by omega), e2, cat_ext s p (p + W) _ (by omega) (by omega)]
theorem readT_cases (x : ByteArray) (w : Int) : readT x w = noT ∨ (readT x w).2.2 = true ∧ thingB (readT x w).1 (readT x w).2.1 w = true ∧ formB (readT x w).1 (readT x w).2.1 = x := by
  unfold readT
  by_cases c : widB w = true
  · rw [if_pos c]
    by_cases c1 : x.size = 0
    · rw [if_pos c1]; exact .inl rfl
    · rw [if_neg c1]
      by_cases c2 : (x.size : Int) < 1 + bt x 0 * w
      · rw [if_pos c2]; exact .inl rfl
      · rw [if_neg c2]
        unfold endT
        by_cases c3 : thingB (x.extract (1 + (bt x 0).toNat * w.toNat) x.size) (pieces x w.toNat (bt x 0).toNat 1) w = true
        · rw [if_pos c3]
          refine .inr ⟨rfl, c3, ?_⟩
          have hw := widB_iff.1 c
          obtain ⟨n, hn, hn5⟩ := bt_nat x 0
          obtain ⟨W, rfl⟩ : ∃ W : Nat, w = (W : Int) := ⟨w.toNat, by omega⟩
          have hm : (n : Int) * (W : Int) = ((n * W : Nat) : Int) := (Int.natCast_mul n W).symm
          rw [hn, hm] at c2
          rw [hn, Int.toNat_natCast, Int.toNat_natCast]
          show headB (pieces x W n 1).length ++ (catB (pieces x W n 1) ++ x.extract (1 + n * W) x.size) = x
          rw [pieces_length, catB_pieces x W n 1 (by omega), cat_ext x 1 _ _ (by omega) (by omega)]
          have e1 : headB n = x.extract 0 1 := by
            rw [← son_bytes (x.extract 0 1)]
            unfold headB
            congr 1
            have hl : (bytesOf (x.extract 0 1)).length = 1 := by rw [bytes_length, ByteArray.size_extract]; omega
            have h0 : rd (bytesOf (x.extract 0 1)) ((0 : Nat) : Int) = bt x ((0 : Nat) : Int) := by rw [rd_bytesOf, bt_ext x 0 1 0 (by omega) (by omega), Nat.zero_add]
            generalize bytesOf (x.extract 0 1) = l at *
            match l, hl with
            | [a], _ =>
              simp only [rd, Int.toNat_natCast, List.getD_cons_zero] at h0
              have h0' : a = bt x 0 := h0
              rw [h0', hn]
              have : (n : Int) % 256 = (n : Int) := by omega
              rw [this]
          rw [e1, cat_ext x 0 1 _ (by omega) (by omega), ext_all]
        · rw [if_neg c3]; exact .inl rfl
  · rw [if_neg c]; exact .inl rfl
theorem refs_all (w : Int) (l : List ByteArray) (n : Nat) : ∀ i, l.length - i = n → i ≤ l.length → refsFrom w l n i = true → ∀ x ∈ l.drop i, (x.size : Int) = w := by
  induction n with
  | zero => intro i hn hi h; rw [List.drop_of_length_le (by omega)]; intro x hx; cases hx
  | succ n ih =>
    intro i hn hi h
    unfold refsFrom at h
    have hlt : i < l.length := by omega
    rw [rd_drop ByteArray.empty l i hlt]
    split at h
    · rename_i c1
      have hr : refsFrom w l n (i + 1) = true := by
        split at h
        · split at h
          · exact h
          · cases h
        · exact h
      intro x hx
      rcases List.mem_cons.1 hx with rfl | hx
      · exact c1
      · exact ih (i + 1) (by omega) (by omega) hr x hx
    · cases h
theorem pieces_cat (W : Nat) (t : ByteArray) (l : List ByteArray) : ∀ pre : ByteArray, (∀ x ∈ l, x.size = W) → pieces (pre ++ (catB l ++ t)) W l.length pre.size = l := by
  induction l with
  | nil => intro pre h; rfl
  | cons x l ih =>
    intro pre h
    have hx := h x List.mem_cons_self
    have e : pre ++ (catB (x :: l) ++ t) = (pre ++ x) ++ (catB l ++ t) := by simp only [catB, ba_assoc]
    have e2 : (pre ++ x).size = pre.size + W := by rw [ByteArray.size_append, hx]
    have e3 := ih (pre ++ x) (fun y hy => h y (List.mem_cons_of_mem _ hy))
    rw [e2] at e3
    have e4 : (pre ++ (catB (x :: l) ++ t)).extract pre.size (pre.size + W) = x := by
      have : pre ++ (catB (x :: l) ++ t) = pre ++ (x ++ (catB l ++ t)) := by simp only [catB, ba_assoc]
      rw [this]
      have := ByteArray.extract_append_size_add (a := pre) (b := x ++ (catB l ++ t)) (i := 0) (j := W)
      rw [Nat.add_zero] at this
      rw [this, ByteArray.extract_append_eq_left hx.symm]
    show (pre ++ (catB (x :: l) ++ t)).extract pre.size (pre.size + W) :: pieces (pre ++ (catB (x :: l) ++ t)) W l.length (pre.size + W) = x :: l
    rw [e4, e, e3]
theorem form_readT {t : ByteArray} {l : List ByteArray} {w : Int} (h : thingB t l w = true) : readT (formB t l) w = (t, l, true) := by
  obtain ⟨_, h30, w1, w8, hr⟩ := thingB_le h
  have hall := refs_all w l l.length 0 (by omega) (by omega) hr
  rw [List.drop_zero] at hall
  obtain ⟨W, rfl⟩ : ∃ W : Nat, w = (W : Int) := ⟨w.toNat, by omega⟩
  have hall' : ∀ x ∈ l, x.size = W := fun x hx => by have := hall x hx; omega
  have h1 : (headB l.length).size = 1 := by unfold headB; rw [son_size]; rfl
  have hsz : (szAll l : Int) = (l.length : Int) * (W : Int) := by have := refs_sizes (W : Int) l l.length 0 (by omega) (by omega) hr; rwa [List.drop_zero] at this
  have hm : (l.length : Int) * (W : Int) = ((l.length * W : Nat) : Int) := (Int.natCast_mul l.length W).symm
  have hsz' : szAll l = l.length * W := by omega
  have hz : (formB t l).size = 1 + l.length * W + t.size := by unfold formB; rw [ByteArray.size_append, ByteArray.size_append, h1, catB_size]; omega
  have hb : bt (formB t l) 0 = (l.length : Int) := by
    unfold formB
    rw [bt_app _ _ (by omega), ← rd_bytesOf]
    unfold headB
    rw [bytesOf_son _ (fun x hx => by rcases List.mem_cons.1 hx with rfl | hx; · omega
                                      · cases hx)]
    show (l.length : Int) % 256 = _
    omega
  unfold readT
  rw [if_pos (widB_iff.2 ⟨w1, w8⟩), if_neg (by omega), hb, hm, if_neg (by omega), Int.toNat_natCast, Int.toNat_natCast, hz]
  have hp : pieces (formB t l) W l.length 1 = l := by have := pieces_cat W t l (headB l.length) hall'; rwa [h1] at this
  have ht : (formB t l).extract (1 + l.length * W) (1 + l.length * W + t.size) = t := by
    have e : formB t l = (headB l.length ++ catB l) ++ t := by unfold formB; rw [ba_assoc]
    rw [e]
    exact ByteArray.extract_append_eq_right (by rw [ByteArray.size_append, h1, catB_size]; omega) (by rw [ByteArray.size_append, h1, catB_size]; omega)
  rw [hp, ht]
  unfold endT
  rw [if_pos h]
/-! ### entries -/
def noE : Int × ByteArray × ByteArray × Int × ByteArray × List ByteArray × Bool := (0, ⟨#[]⟩, ⟨#[]⟩, 0, ⟨#[]⟩, [], false)
def numE (s : ByteArray) : Int := bt s 1 * 16777216 + bt s 2 * 65536 + bt s 3 * 256 + bt s 4
def restE (s : ByteArray) : ByteArray := s.extract (6 + (bt s 5).toNat) s.size
def nameE (s : ByteArray) : ByteArray := s.extract 6 (6 + (bt s 5).toNat)
def endE (k : Int) (s n : ByteArray) (m : Int) (t : ByteArray) (l : List ByteArray) (w : Int) : Int × ByteArray × ByteArray × Int × ByteArray × List ByteArray × Bool := if entB k s n m t l w = true then (k, s, n, m, t, l, true) else noE
def bodyE (s : ByteArray) (w : Int) : Int × ByteArray × ByteArray × Int × ByteArray × List ByteArray × Bool :=
  if bt s 0 = 1 then (if (readT (restE s) w).2.2 = true then endE (bt s 0) ⟨#[]⟩ (nameE s) (numE s) (readT (restE s) w).1 (readT (restE s) w).2.1 w else noE) else endE (bt s 0) (restE s) (nameE s) (numE s) ⟨#[]⟩ [] w
def readE (s : ByteArray) (w : Int) : Int × ByteArray × ByteArray × Int × ByteArray × List ByteArray × Bool :=
  if (s.size : Int) < 6 then noE else if widB w = true then (if (s.size : Int) < 6 + bt s 5 then noE else bodyE s w) else noE
theorem numE_range (s : ByteArray) : 0 ≤ numE s ∧ numE s < 4294967296 := by
  have h1 := bt_range s 1; have h2 := bt_range s 2; have h3 := bt_range s 3; have h4 := bt_range s 4
  unfold numE; omega
theorem head_six (s : ByteArray) (h : 6 ≤ s.size) (hn : (s.size : Int) ≥ 6 + bt s 5) : strOfNums (head6 (bt s 0) (numE s) ((nameE s).size : Int)) = s.extract 0 6 := by
  have h0 := bt_range s 0; have h1 := bt_range s 1; have h2 := bt_range s 2; have h3 := bt_range s 3; have h4 := bt_range s 4; have h5 := bt_range s 5
  have hz : ((nameE s).size : Int) = bt s 5 := by unfold nameE; rw [ByteArray.size_extract]; omega
  rw [← six s h, hz]
  unfold head6 numE
  have e0 : bt s 0 % 256 = bt s 0 := by omega
  have e1 : (bt s 1 * 16777216 + bt s 2 * 65536 + bt s 3 * 256 + bt s 4) / 16777216 % 256 = bt s 1 := by omega
  have e2 : (bt s 1 * 16777216 + bt s 2 * 65536 + bt s 3 * 256 + bt s 4) / 65536 % 256 = bt s 2 := by omega
  have e3 : (bt s 1 * 16777216 + bt s 2 * 65536 + bt s 3 * 256 + bt s 4) / 256 % 256 = bt s 3 := by omega
  have e4 : (bt s 1 * 16777216 + bt s 2 * 65536 + bt s 3 * 256 + bt s 4) % 256 = bt s 4 := by omega
  have e5 : bt s 5 % 256 = bt s 5 := by omega
  rw [e0, e1, e2, e3, e4, e5]
/-- What is read is written the same. -/
theorem whole (s : ByteArray) (h : 6 ≤ s.size) (hn : (s.size : Int) ≥ 6 + bt s 5) : s.extract 0 6 ++ nameE s ++ restE s = s := by
  have h5 := bt_range s 5
  unfold nameE restE
  rw [cat_ext s 0 6 _ (by omega) (by omega), cat_ext s 0 _ _ (by omega) (by omega), ext_all]
theorem ba_nil' (a : ByteArray) : a ++ (⟨#[]⟩ : ByteArray) = a := by apply ByteArray.ext; simp [ByteArray.data_append]
/-- The reference's check by writing again comes to the program's. -/
theorem again (s : ByteArray) (w : Int) (h : 6 ≤ s.size) (hn : (s.size : Int) ≥ 6 + bt s 5) :
    (if bt s 0 = 1 then (if entB (bt s 0) ⟨#[]⟩ (nameE s) (numE s) (readT (restE s) w).1 (readT (restE s) w).2.1 w = true then (if formE (bt s 0) ⟨#[]⟩ (nameE s) (numE s) (readT (restE s) w).1 (readT (restE s) w).2.1 w = s then (bt s 0, (⟨#[]⟩ : ByteArray), nameE s, numE s, (readT (restE s) w).1, (readT (restE s) w).2.1, true) else noE) else noE)
      else (if entB (bt s 0) (restE s) (nameE s) (numE s) ⟨#[]⟩ [] w = true then (if formE (bt s 0) (restE s) (nameE s) (numE s) ⟨#[]⟩ [] w = s then (bt s 0, restE s, nameE s, numE s, (⟨#[]⟩ : ByteArray), ([] : List ByteArray), true) else noE) else noE)) = bodyE s w := by
  have hw := whole s h hn
  have hh := head_six s h hn
  unfold bodyE
  by_cases c : bt s 0 = 1
  · rw [if_pos c, if_pos c]
    rcases readT_cases (restE s) w with e | ⟨e1, e2, e3⟩
    · rw [e]
      show _ = noE
      by_cases c2 : entB (bt s 0) ⟨#[]⟩ (nameE s) (numE s) noT.1 noT.2.1 w = true
      · rw [if_pos c2, if_neg]
        intro hf
        obtain ⟨_, _, _, _, _, _, _, _, hT⟩ := entB_le c2
        have ht := hT c
        unfold formE at hf
        rw [if_pos c2, if_pos c, hh, ba_nil'] at hf
        have e4 : formB noT.1 noT.2.1 = restE s := by
          have e5 : s.extract 0 6 ++ nameE s ++ formB noT.1 noT.2.1 = s.extract 0 6 ++ nameE s ++ restE s := by rw [hf, hw]
          have := congrArg ByteArray.data e5
          rw [ByteArray.data_append (l := s.extract 0 6 ++ nameE s), ByteArray.data_append (l := s.extract 0 6 ++ nameE s)] at this
          exact ByteArray.ext (Array.append_right_inj _ |>.1 this)
        have e6 := form_readT ht
        rw [e4, e] at e6
        cases e6
      · rw [if_neg c2]
    · rw [if_pos e1]
      unfold endE
      by_cases c2 : entB (bt s 0) ⟨#[]⟩ (nameE s) (numE s) (readT (restE s) w).1 (readT (restE s) w).2.1 w = true
      · rw [if_pos c2, if_pos c2, if_pos]
        unfold formE
        rw [if_pos c2, if_pos c, hh, ba_nil', e3, hw]
      · rw [if_neg c2, if_neg c2]
  · rw [if_neg c, if_neg c]
    unfold endE
    by_cases c2 : entB (bt s 0) (restE s) (nameE s) (numE s) ⟨#[]⟩ [] w = true
    · rw [if_pos c2, if_pos c2, if_pos]
      unfold formE
      rw [if_pos c2, if_neg c, hh, hw]
    · rw [if_neg c2, if_neg c2]
end Go.Proofs.Ytpnblgbkjbpeoaa.Q

/- Plain laws of ReadEntry: the program's and the reference's come to one function. -/
namespace Go.Proofs.Ytpnblgbkjbpeoaa.Q
open Go.RowKit Go.Proofs.Ytpnblgbkjbpeoaa.P Go.Proofs.YtpnblgbkjbpeoaaW.PrintWords Go.Proofs.YtpnblgbkjbpeoaaW.PrintLast Go.Proofs.YtpnblgbkjbpeoaaW.PrintMore
set_option linter.unusedVariables false

theorem or_u32 (a b i : Nat) (hb : b < 2 ^ i) (h : 2 ^ i * a + b < 4294967296) : Go.bits .or .u32 ((b : Nat) : Int) ((2 ^ i * a : Nat) : Int) = ((2 ^ i * a + b : Nat) : Int) := by
  have h1 : b < 2 ^ 32 := by have := Nat.le_add_left b (2 ^ i * a); omega
  have h2 : 2 ^ i * a < 2 ^ 32 := by omega
  have e : b ||| 2 ^ i * a = 2 ^ i * a + b := by rw [Nat.or_comm]; exact (Nat.two_pow_add_eq_or_of_lt hb a).symm
  have key : (BitVec.ofNat 32 b ||| BitVec.ofNat 32 (2 ^ i * a)).toNat = 2 ^ i * a + b := by
    rw [BitVec.toNat_or, BitVec.toNat_ofNat, BitVec.toNat_ofNat, Nat.mod_eq_of_lt h1, Nat.mod_eq_of_lt h2, e]
  have hx : Go.bits .or .u32 ((b : Nat) : Int) ((2 ^ i * a : Nat) : Int) = IntKind.u32.wrap (((BitVec.ofNat 32 b ||| BitVec.ofNat 32 (2 ^ i * a)).toNat : Nat) : Int) := by
    unfold Go.bits
    simp only [BitVec.ofInt_natCast]
    rfl
  have hu : ∀ x : Int, IntKind.u32.wrap x = x % 4294967296 := fun x => by simp [IntKind.wrap, IntKind.bits, IntKind.signed]
  rw [hx, key, hu]
  exact Int.emod_eq_of_lt (Int.natCast_nonneg _) (by omega)
theorem uint32 (x : ByteArray) (h : x.size = 4) : binary_bigEndian_Uint32.f (bytesOf x) = some (bt x 0 * 16777216 + bt x 1 * 65536 + bt x 2 * 256 + bt x 3) := by
  have hl : (bytesOf x).length = 4 := by rw [bytes_length, h]
  obtain ⟨b0, e0, h0⟩ := bt_nat x 0
  obtain ⟨b1, e1, h1⟩ := bt_nat x 1
  obtain ⟨b2, e2, h2⟩ := bt_nat x 2
  obtain ⟨b3, e3, h3⟩ := bt_nat x 3
  unfold binary_bigEndian_Uint32.f
  rw [if_pos (by omega), if_pos (by omega), if_pos (by omega), if_pos (by omega), rd_bytesOf, rd_bytesOf, rd_bytesOf, rd_bytesOf, e0, e1, e2, e3]
  have f3 : (b3 : Int) % 4294967296 = ((b3 : Nat) : Int) := by omega
  have f2 : (b2 : Int) % 4294967296 * 256 % 4294967296 = ((2 ^ 8 * b2 : Nat) : Int) := by omega
  have f1 : (b1 : Int) % 4294967296 * 65536 % 4294967296 = ((2 ^ 16 * b1 : Nat) : Int) := by omega
  have f0 : (b0 : Int) % 4294967296 * 16777216 % 4294967296 = ((2 ^ 24 * b0 : Nat) : Int) := by omega
  rw [f3, f2, f1, f0, or_u32 b2 b3 8 (by omega) (by omega), or_u32 b1 _ 16 (by omega) (by omega), or_u32 b0 _ 24 (by omega) (by omega)]
  congr 1
  omega
theorem iRE_ev (s : ByteArray) (w : Int) (hs : s.size ≤ 140737488351232) : Ev (fun k => impl_ReadEntry.f k s w) (readE s w) := by
  have hT : Ev (fun k => impl_ReadEntry.j0 k s w true) noE := Ev.step (f := fun _ => some noE) (fun k => by simp only [impl_ReadEntry.j0]; rfl) (Ev.now _)
  unfold readE
  refine Ev.ite' (fun c => by rw [if_pos c]; exact hT) (fun c => ?_)
  rw [if_neg c]
  have h0 := bt_range s 0; have h5 := bt_range s 5
  have e0 : wrap64 (bt s 0) = bt s 0 := w64_small (by omega) (by omega)
  have e5 : wrap64 (bt s 5) = bt s 5 := w64_small (by omega) (by omega)
  have ez : (s.extract 6 s.size).size = s.size - 6 := ext_size s 6
  have er : bt s 5 + 6 ≤ (s.size : Int) → (s.extract 6 s.size).extract (bt s 5).toNat (s.extract 6 s.size).size = restE s := fun h => by rw [ext_tail s 6 _ (by omega)]; rfl
  have en : bt s 5 + 6 ≤ (s.size : Int) → (s.extract 6 s.size).extract 0 (bt s 5).toNat = nameE s := fun h => by rw [ext_ext s 6 0 _ (by omega)]; rfl
  have hr := numE_range s
  have em : wrap64 (numE s) = numE s := w64_small (by omega) (by omega)
  have eu : binary_bigEndian_Uint32.f (bytesOf (s.extract 1 5)) = some (numE s) := by
    rw [uint32 _ (by rw [ByteArray.size_extract]; omega)]
    have g0 := bt_ext s 1 5 0 (by omega) (by omega); have g1 := bt_ext s 1 5 1 (by omega) (by omega); have g2 := bt_ext s 1 5 2 (by omega) (by omega); have g3 := bt_ext s 1 5 3 (by omega) (by omega)
    have g0' : bt (s.extract 1 5) 0 = bt s 1 := g0
    have g1' : bt (s.extract 1 5) 1 = bt s 2 := g1
    have g2' : bt (s.extract 1 5) 2 = bt s 3 := g2
    have g3' : bt (s.extract 1 5) 3 = bt s 4 := g3
    rw [g0', g1', g2', g3']; rfl
  refine Ev.bind (g := fun _ => impl_widthOk.f w) (Ev.congr (fun _ => wOk w) (Ev.now _)) ?_
  by_cases cw : widB w = true
  · rw [if_pos cw, cw]
    refine Ev.step (f := fun k => impl_ReadEntry.j1 k (s.extract 6 s.size) w (bt s 5) (bt s 0) ⟨#[]⟩ ⟨#[]⟩ (numE s) ⟨#[]⟩) (fun k => by simp only [impl_ReadEntry.j0]; rw [if_neg (by simp), if_pos (by omega), if_pos (by omega)]; first | rw [if_pos (by omega), if_pos (by omega), eu, Option.bind_some, if_pos (by omega), e0, e5, em] | (rw [if_pos (by omega), eu, Option.bind_some, if_pos (by omega), e0, e5, em])) ?_
    refine Ev.step (fun k => by simp only [impl_ReadEntry.j1]; rfl) ?_
    refine Ev.ite' (fun c2 => by rw [if_pos (by omega)]; exact Ev.now _) (fun c2 => ?_)
    rw [if_neg (by omega)]
    refine Ev.pos (by omega) (Ev.pos (by omega) ?_)
    rw [er (by omega), en (by omega)]
    refine Ev.step (fun k => by simp only [impl_ReadEntry.j2]; rfl) ?_
    unfold bodyE
    have hrest : (restE s).size ≤ 140737488351232 := by unfold restE; rw [ext_size]; omega
    have hname : (nameE s).size ≤ 140737488351232 := by unfold nameE; rw [ByteArray.size_extract]; omega
    refine Ev.ite' (fun c1 => ?_) (fun c1 => ?_)
    · rw [if_pos c1]
      refine Ev.bind (iRT_ev _ w hrest) (Ev.ite' (fun c3 => ?_) (fun c3 => ?_))
      · rw [if_pos c3]
        refine Ev.bind (iEnt_ev _ _ _ _ _ _ _ (by have := readT_le (restE s) w; omega) hname) ?_
        unfold endE
        exact Ev.ite' (fun c4 => by rw [if_pos c4]; exact Ev.now _) (fun c4 => by rw [if_neg c4]; exact Ev.now _)
      · rw [if_neg c3]; exact Ev.now _
    · rw [if_neg c1]
      refine Ev.bind (iEnt_ev _ _ _ _ _ _ _ (by simp) hname) ?_
      unfold endE
      exact Ev.ite' (fun c4 => by rw [if_pos c4]; exact Ev.now _) (fun c4 => by rw [if_neg c4]; exact Ev.now _)
  · have cw' : widB w = false := by simpa using cw
    rw [if_neg cw, cw']; exact hT
theorem sRE_ev (s : ByteArray) (w : Int) (hs : s.size ≤ 140737488351232) : Ev (fun k => spec_ReadEntry.f k s w) (readE s w) := by
  have hT : Ev (fun k => spec_ReadEntry.j0 k s w true) noE := Ev.step (f := fun _ => some noE) (fun k => by simp only [spec_ReadEntry.j0]; rfl) (Ev.now _)
  have h0 := bt_range s 0; have h1 := bt_range s 1; have h2 := bt_range s 2; have h3 := bt_range s 3; have h4 := bt_range s 4; have h5 := bt_range s 5
  have f0 : wrap64 (bt s 0) = bt s 0 := w64_small (by omega) (by omega)
  have f1 : wrap64 (bt s 1) = bt s 1 := w64_small (by omega) (by omega)
  have f2 : wrap64 (bt s 2) = bt s 2 := w64_small (by omega) (by omega)
  have f3 : wrap64 (bt s 3) = bt s 3 := w64_small (by omega) (by omega)
  have f4 : wrap64 (bt s 4) = bt s 4 := w64_small (by omega) (by omega)
  have f5 : wrap64 (bt s 5) = bt s 5 := w64_small (by omega) (by omega)
  have f6 : wrap64 (6 + bt s 5) = 6 + bt s 5 := w64_small (by omega) (by omega)
  have g1 : wrap64 (bt s 1 * 16777216) = bt s 1 * 16777216 := w64_small (by omega) (by omega)
  have g2 : wrap64 (bt s 2 * 65536) = bt s 2 * 65536 := w64_small (by omega) (by omega)
  have g3 : wrap64 (bt s 3 * 256) = bt s 3 * 256 := w64_small (by omega) (by omega)
  have g4 : wrap64 (bt s 1 * 16777216 + bt s 2 * 65536) = bt s 1 * 16777216 + bt s 2 * 65536 := w64_small (by omega) (by omega)
  have g5 : wrap64 (bt s 1 * 16777216 + bt s 2 * 65536 + bt s 3 * 256) = bt s 1 * 16777216 + bt s 2 * 65536 + bt s 3 * 256 := w64_small (by omega) (by omega)
  have g6 : wrap64 (bt s 1 * 16777216 + bt s 2 * 65536 + bt s 3 * 256 + bt s 4) = numE s := w64_small (by omega) (by omega)
  have en : (6 + bt s 5).toNat = 6 + (bt s 5).toNat := by omega
  have j1 : ∀ (k0 : Int) (s' n : ByteArray) (m : Int) (t : ByteArray) (l : List ByteArray), l.length ≤ 140737488351232 → n.size ≤ 140737488351232 → Ev (fun k => spec_ReadEntry.j1 k s w k0 s' n m t l) (if entB k0 s' n m t l w = true then (if formE k0 s' n m t l w = s then (k0, s', n, m, t, l, true) else noE) else noE) := by
    intro k0 s' n m t l hl hn
    refine Ev.step (fun k => by simp only [spec_ReadEntry.j1]; rfl) ?_
    refine Ev.bind (sEnt_ev k0 s' n m t l w hl hn) (Ev.ite' (fun c => ?_) (fun c => by rw [if_neg c]; exact Ev.now _))
    rw [if_pos c]
    refine Ev.bind (sFE_ev k0 s' n m t l w hl hn) (Ev.ite' (fun c2 => ?_) (fun c2 => ?_))
    · rw [if_pos (toList_inj c2)]; exact Ev.now _
    · rw [if_neg (fun h => c2 (congrArg _ h))]; exact Ev.now _
  have hF : 6 ≤ s.size → (s.size : Int) ≥ 6 + bt s 5 → Ev (fun k => spec_ReadEntry.j0 k s w false) (bodyE s w) := by
    intro h6 hn
    rw [← again s w h6 hn]
    have hrest : (restE s).size ≤ 140737488351232 := by unfold restE; rw [ext_size]; omega
    have hname : (nameE s).size ≤ 140737488351232 := by unfold nameE; rw [ByteArray.size_extract]; omega
    refine Ev.step (fun k => by simp only [spec_ReadEntry.j0]; rw [if_neg (by simp)]) ?_
    simp only [f0, f1, f2, f3, f4, f5, f6, g1, g2, g3, g4, g5, g6, en]
    refine Ev.pos (by omega) (Ev.pos (by omega) (Ev.pos (by omega) (Ev.pos (by omega) (Ev.pos (by omega) (Ev.pos (by omega) (Ev.pos (by omega) (Ev.pos (by omega) (Ev.pos (by omega) ?_))))))))
    refine Ev.ite' (fun c1 => ?_) (fun c1 => ?_)
    · rw [if_pos c1]
      exact Ev.bind (sRT_ev (restE s) w hrest) (j1 _ _ _ _ _ _ (Nat.le_trans (readT_le (restE s) w) (by omega)) hname)
    · rw [if_neg c1]
      exact j1 _ _ _ _ _ _ (by simp) hname
  unfold readE
  refine Ev.bind (g := fun _ => spec_l1Width.f w) (Ev.congr (fun _ => l1W w) (Ev.now _)) ?_
  by_cases cw : widB w = true
  · refine Ev.pos cw (Ev.ite' (fun c => by rw [if_pos c]; exact hT) (fun c => ?_))
    rw [if_neg c, if_pos cw]
    refine Ev.pos (by omega) ?_
    rw [f5, f6]
    by_cases c2 : (s.size : Int) < 6 + bt s 5
    · rw [if_pos c2]; exact Ev.congr (fun k => by rw [decide_eq_true c2]) hT
    · rw [if_neg c2]; exact Ev.congr (fun k => by rw [decide_eq_false c2]) (hF (by omega) (by omega))
  · refine Ev.neg cw ?_
    by_cases c : (s.size : Int) < 6
    · rw [if_pos c]; exact hT
    · rw [if_neg c, if_neg cw]; exact hT
end Go.Proofs.Ytpnblgbkjbpeoaa.Q

/- Plain laws of the marks: what a list of texts holds behind markStringS, heldStringS finds. -/
namespace Go.Proofs.Ytpnblgbkjbpeoaa.Q
open Go.RowKit Go.Proofs.Ytpnblgbkjbpeoaa.P Go.Proofs.YtpnblgbkjbpeoaaW.PrintWords Go.Proofs.YtpnblgbkjbpeoaaW.PrintLast Go.Proofs.YtpnblgbkjbpeoaaW.PrintMore
set_option linter.unusedVariables false

theorem strOfNums_one (x : Int) : (strOfNums [x]).size = 1 := by simp [strOfNums, ByteArray.size]
theorem mt_loop (n : Nat) : ∀ (a : Int) (s : ByteArray), 0 ≤ a → a.toNat = n → (s.size : Int) + a ≤ 4503599627370496 → ∃ b, Ev (fun k => laws_markText.l0 k a s) b := by
  induction n using Nat.strongRecOn with
  | _ n ih =>
    intro a s h0 hn hb
    by_cases hp : a > 0
    · have hd : Int.tdiv a 10 = a / 10 := Int.tdiv_eq_ediv_of_nonneg h0
      have hw : wrap64 (Int.tdiv a 10) = a / 10 := by rw [hd]; unfold wrap64; omega
      have hsz : ∀ x : Int, ((strOfNums [x] ++ s).size : Int) = 1 + (s.size : Int) := fun x => by rw [ByteArray.size_append, strOfNums_one]; omega
      obtain ⟨b, hb⟩ := ih (a / 10).toNat (by omega) (a / 10) (strOfNums [(wrap64 (48 + (Int.tmod a 10))) % 256] ++ s) (by omega) rfl (by rw [hsz]; omega)
      refine ⟨b, Ev.step (f := fun k => laws_markText.l0 k (a / 10) (strOfNums [(wrap64 (48 + (Int.tmod a 10))) % 256] ++ s)) (fun k => ?_) hb⟩
      simp only [laws_markText.l0]
      rw [if_pos hp]
      simp only [Option.bind_some]
      rw [if_pos (by rw [strOfNums_one]; omega), hw]
    · refine ⟨(⟨#[109]⟩ : ByteArray) ++ s, Ev.step (f := fun _ => some ((⟨#[109]⟩ : ByteArray) ++ s)) (fun k => ?_) (Ev.now _)⟩
      simp only [laws_markText.l0]
      rw [if_neg hp, if_pos (by omega)]
theorem mt_ex (a : Int) (h : a ≤ 4503599627370496) : ∃ b, Ev (fun k => laws_markText.f k a) b := by
  by_cases hp : a ≤ 0
  · exact ⟨_, Ev.congr (fun k => by unfold laws_markText.f; rw [if_pos hp]) (Ev.now (⟨#[109, 48]⟩ : ByteArray))⟩
  · obtain ⟨b, hb⟩ := mt_loop a.toNat a (⟨#[]⟩ : ByteArray) (by omega) rfl (by have : (⟨#[]⟩ : ByteArray).size = 0 := rfl; omega)
    exact ⟨b, Ev.congr (fun k => by unfold laws_markText.f; rw [if_neg hp]) hb⟩
/-- The text of a mark. -/
noncomputable def mt (a : Int) : ByteArray := @dite _ (∃ b, Ev (fun k => laws_markText.f k a) b) (Classical.propDecidable _) (fun h => h.choose) (fun _ => ByteArray.empty)
theorem mt_ev (a : Int) (h : a ≤ 4503599627370496) : Ev (fun k => laws_markText.f k a) (mt a) := by
  unfold mt
  rw [dif_pos (mt_ex a h)]
  exact (mt_ex a h).choose_spec
/-- The marks from a on. -/
noncomputable def marks (a : Int) : Nat → List ByteArray
  | 0 => []
  | n + 1 => mt a :: marks (a + 1) n
theorem marks_length (n : Nat) : ∀ a, (marks a n).length = n := by
  induction n with
  | zero => intro a; rfl
  | succ n ih => intro a; simp [marks, ih]
theorem wadd1 {a : Int} (h0 : -9223372036854775808 ≤ a) (h : a ≤ 9223372036854775806) : wrap64 (a + 1) = a + 1 := by unfold wrap64; omega
theorem markS_loop (n : Nat) : ∀ (i : Nat) (x : List ByteArray) (a : Int), x.length ≤ 140737488351232 → x.length - i = n → i ≤ x.length → 0 ≤ a → a + (n : Int) ≤ 4503599627370496 →
    Ev (fun k => laws_markStringS.l0 k x a (i : Int)) (a + (n : Int), x.take i ++ marks a n) := by
  induction n with
  | zero =>
    intro i x a hx hn hi h0 h1
    refine Ev.step (f := fun _ => some (a, x)) (fun k => ?_) ?_
    · simp only [laws_markStringS.l0]; rw [if_neg (by omega)]
    · rw [List.take_of_length_le (by omega)]
      simp only [marks, List.append_nil]
      have e : a + ((0 : Nat) : Int) = a := by omega
      rw [e]; exact Ev.now _
  | succ n ih =>
    intro i x a hx hn hi h0 h1
    have hlt : i < x.length := by omega
    have ih2 := ih (i + 1) (x.set i (mt a)) (a + 1) (by simpa using hx) (by simp; omega) (by simp; omega) (by omega) (by omega)
    have e : ((a + 1) + (n : Int), (x.set i (mt a)).take (i + 1) ++ marks (a + 1) n) = (a + ((n + 1 : Nat) : Int), x.take i ++ marks a (n + 1)) := by
      have e1 : (a + 1) + (n : Int) = a + ((n + 1 : Nat) : Int) := by omega
      rw [e1, List.take_add_one, List.take_set_of_le (by omega), List.getElem?_set_self (by omega)]
      simp [marks]
    rw [e] at ih2
    refine Ev.step (f := fun k => (laws_markText.f k a).bind fun t => if 0 ≤ (i : Int) then laws_markStringS.l0 k (x.set ((i : Int)).toNat t) (wrap64 (a + 1)) (wrap64 ((i : Int) + 1)) else none) (fun k => ?_) (Ev.bind (mt_ev a (by omega)) (Ev.congr (fun k => ?_) ih2))
    · simp only [laws_markStringS.l0]; rw [if_pos (by omega)]
    · rw [if_pos (by omega), wsucc hlt hx, wadd1 (by omega) (by omega), Int.toNat_natCast]
theorem markS_ev (x : List ByteArray) (a : Int) (hx : x.length ≤ 140737488351232) (h0 : 0 ≤ a) (h1 : a + (x.length : Int) ≤ 4503599627370496) : Ev (fun k => laws_markStringS.f k x a) (a + (x.length : Int), marks a x.length) := by
  have := markS_loop x.length 0 x a hx (by omega) (by omega) h0 h1
  simp only [List.take_zero, List.nil_append] at this
  exact Ev.congr (fun k => by unfold laws_markStringS.f; rfl) this
theorem heldS_loop (x : List ByteArray) (hx : x.length ≤ 140737488351232) (n : Nat) : ∀ (i : Nat) (a : Int), x.length - i = n → i ≤ x.length → 0 ≤ a → a + (n : Int) ≤ 4503599627370496 → x.drop i = marks a n →
    Ev (fun k => laws_heldStringS.l0 k x a (i : Int)) (a + (n : Int)) := by
  induction n with
  | zero =>
    intro i a hn hi h0 h1 hd
    have e : a + ((0 : Nat) : Int) = a := by omega
    rw [e]
    refine Ev.step (f := fun _ => some a) (fun k => ?_) (Ev.now _)
    simp only [laws_heldStringS.l0]; rw [if_neg (by omega)]
  | succ n ih =>
    intro i a hn hi h0 h1 hd
    have hlt : i < x.length := by omega
    rw [rd_drop ByteArray.empty x i hlt] at hd
    simp only [marks, List.cons.injEq] at hd
    have ih2 := ih (i + 1) (a + 1) (by omega) (by omega) (by omega) (by omega) hd.2
    have e1 : (a + 1) + (n : Int) = a + ((n + 1 : Nat) : Int) := by omega
    rw [e1] at ih2
    refine Ev.step (f := fun k => (laws_markText.f k a).bind fun t => if (rdOf ByteArray.empty x (i : Int)).toList = t.toList then laws_heldStringS.l0 k x (wrap64 (a + 1)) (wrap64 ((i : Int) + 1)) else some (-1)) (fun k => ?_) (Ev.bind (mt_ev a (by omega)) (Ev.congr (fun k => ?_) ih2))
    · simp only [laws_heldStringS.l0]; rw [if_pos (by omega), if_pos (by omega)]
    · rw [if_pos (by rw [hd.1]), wsucc hlt hx, wadd1 (by omega) (by omega)]
theorem heldS_ev (n : Nat) (a : Int) (hn : n ≤ 140737488351232) (h0 : 0 ≤ a) (h1 : a + (n : Int) ≤ 4503599627370496) : Ev (fun k => laws_heldStringS.f k (marks a n) a) (a + (n : Int)) := by
  have := heldS_loop (marks a n) (by rw [marks_length]; exact hn) n 0 a (by rw [marks_length]; omega) (by omega) h0 h1 rfl
  exact Ev.congr (fun k => by unfold laws_heldStringS.f; rfl) this
end Go.Proofs.Ytpnblgbkjbpeoaa.Q

/- What the exact laws of things share. -/
namespace Go.Proofs.Ytpnblgbkjbpeoaa.Q
open Go.RowKit Go.Proofs.Ytpnblgbkjbpeoaa.P Go.Proofs.YtpnblgbkjbpeoaaW.PrintWords Go.Proofs.YtpnblgbkjbpeoaaW.PrintLast Go.Proofs.YtpnblgbkjbpeoaaW.PrintMore
set_option linter.unusedVariables false

theorem eqT_ev (t : ByteArray) (l : List ByteArray) (hl : l.length ≤ 140737488351232) : Ev (fun k => laws_eqThing.f k t l t l) true :=
  Ev.congr (fun k => by unfold laws_eqThing.f; rw [if_pos rfl]) (Ev.bind (eqS_ev l hl) (Ev.congr (fun k => if_pos rfl) (Ev.now _)))
theorem markT_ev (t : ByteArray) (x : List ByteArray) (hx : x.length ≤ 140737488351232) : Ev (fun k => laws_markThing.f k t x 1) (1 + (x.length : Int), marks 1 x.length) :=
  Ev.bind (markS_ev x 1 hx (by omega) (by omega)) (Ev.now _)
theorem heldT_ev (t : ByteArray) (n : Nat) (hn : n ≤ 140737488351232) : Ev (fun k => laws_heldThing.f k t (marks 1 n) 1) (1 + (n : Int)) :=
  Ev.bind (heldS_ev n 1 hn (by omega) (by omega)) (Ev.congr (fun k => if_neg (by omega)) (Ev.now _))
end Go.Proofs.Ytpnblgbkjbpeoaa.Q

/- The exact law of ReadEntry comes to true. -/
namespace Go.Proofs.Ytpnblgbkjbpeoaa.Q
open Go.RowKit Go.Proofs.Ytpnblgbkjbpeoaa.P Go.Proofs.YtpnblgbkjbpeoaaW.PrintWords Go.Proofs.YtpnblgbkjbpeoaaW.PrintLast Go.Proofs.YtpnblgbkjbpeoaaW.PrintMore
set_option linter.unusedVariables false

theorem eqEn_ev (k : Int) (s n : ByteArray) (m : Int) (t : ByteArray) (l : List ByteArray) (hl : l.length ≤ 140737488351232) : Ev (fun f => laws_eqEntry.f f k s n m t l k s n m t l) true :=
  Ev.pos rfl (Ev.pos rfl (Ev.pos rfl (Ev.pos rfl (Ev.bind (eqT_ev t l hl) (Ev.pos rfl (Ev.now _))))))
theorem markEn_ev (k : Int) (s n : ByteArray) (m : Int) (t : ByteArray) (l : List ByteArray) (hl : l.length ≤ 140737488351232) : Ev (fun f => laws_markEntry.f f k s n m t l 1) (1 + (l.length : Int), marks 1 l.length) :=
  Ev.bind (markT_ev t l hl) (Ev.now _)
theorem heldEn_ev (k : Int) (s n : ByteArray) (m : Int) (t : ByteArray) (c : Nat) (hl : c ≤ 140737488351232) : Ev (fun f => laws_heldEntry.f f k s n m t (marks 1 c) 1) (1 + (c : Int)) :=
  Ev.bind (heldT_ev t c hl) (Ev.neg (by omega) (Ev.now _))
theorem readE_le (s : ByteArray) (w : Int) : (readE s w).2.2.2.2.2.1.length ≤ 30 := by
  have h := readT_le (restE s) w
  unfold readE
  split
  · exact Nat.zero_le _
  · split
    · split
      · exact Nat.zero_le _
      · unfold bodyE endE
        split
        · split
          · split
            · exact h
            · exact Nat.zero_le _
          · exact Nat.zero_le _
        · split
          · exact Nat.zero_le _
          · exact Nat.zero_le _
    · exact Nat.zero_le _
theorem readEntry_pure (s : ByteArray) (w : Int) (hs : s.size ≤ 140737488351232) : Ev (fun k => laws_FnExactReadEntry.f k s w) true := by
  refine Ev.ite' (fun c => Ev.now _) (fun c => ?_)
  refine Ev.bind (sRE_ev s w hs) (Ev.bind (iRE_ev s w hs) ?_)
  have hl := readE_le s w
  have hi := iRE_ev s w hs
  generalize readE s w = r at hl hi ⊢
  obtain ⟨r0, r1, r2, r3, r4, r5, r6⟩ := r
  have e : (r6 != r6) = false := by simp
  have hl' : r5.length ≤ 140737488351232 := Nat.le_trans hl (by omega)
  refine Ev.bind (eqEn_ev r0 r1 r2 r3 r4 r5 hl') (Ev.pos rfl ?_)
  refine Ev.step (fun k => by simp only [laws_FnExactReadEntry.j0]; rw [if_neg (by simp)]) ?_
  refine Ev.bind (markEn_ev r0 r1 r2 r3 r4 r5 hl') (Ev.bind (heldEn_ev r0 r1 r2 r3 r4 r5.length hl') (Ev.neg (by omega) (Ev.pos rfl ?_)))
  refine Ev.bind hi (Ev.bind (eqEn_ev r0 r1 r2 r3 r4 r5 hl') (Ev.pos rfl ?_))
  refine Ev.step (fun k => by simp only [laws_FnExactReadEntry.j1]; rw [if_neg (by simp)]) ?_
  exact Ev.bind (heldEn_ev r0 r1 r2 r3 r4 r5.length hl') (Ev.neg (by omega) (Ev.pos rfl (Ev.now _)))
theorem FnExactReadEntry : laws_FnExactReadEntry.Pure := fun s w hs _ => (readEntry_pure s w hs).rounds
end Go.Proofs.Ytpnblgbkjbpeoaa.Q

/- The plain statement of the exact law of ReadEntry. -/
namespace Go.Proofs.Ytpnblgbkjbpeoaa.Pure
theorem FnExactReadEntry : P.laws_FnExactReadEntry.Pure := Q.FnExactReadEntry
end Go.Proofs.Ytpnblgbkjbpeoaa.Pure
