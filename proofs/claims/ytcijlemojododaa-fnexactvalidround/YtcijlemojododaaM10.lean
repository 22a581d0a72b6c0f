/- Part 10 of the proof of FnExactValidRound: what it leans on. -/
import Derived.Test.YtcijlemojododaaM1
import Derived.Test.YtcijlemojododaaM2
import Derived.Test.YtcijlemojododaaM3
import Derived.Test.YtcijlemojododaaM4
import Derived.Test.YtcijlemojododaaM5
import Derived.Test.YtcijlemojododaaM6
import Derived.Test.YtcijlemojododaaM7
import Derived.Test.YtcijlemojododaaM8
import Derived.Test.YtcijlemojododaaM9

/- Plain laws of the laws' own helpers over states: how large, a copy, a state equals itself. (Printed by gen_u.py.) -/
namespace Go.Proofs.Ytcijlemojododaa.Q
open Go.RowKit Go.Proofs.Ytcijlemojododaa.P Go.Proofs.Ytcijlemojododaa.S Go.Proofs.YtcijlemojododaaW.PrintWords Go.Proofs.YtcijlemojododaaW.PrintLast Go.Proofs.YtcijlemojododaaW.PrintMore
set_option linter.unusedVariables false

/-- It comes to something of which p holds. -/
def EP {α : Type} (g : Nat → Option α) (p : α → Prop) : Prop := ∃ r, Ev g r ∧ p r
theorem EP.of {α : Type} {g : Nat → Option α} {r : α} {p : α → Prop} (h : Ev g r) (hp : p r) : EP g p := ⟨r, h, hp⟩
theorem EP.ret {α : Type} {r : α} {p : α → Prop} (hp : p r) : EP (fun _ => some r) p := ⟨r, Ev.now r, hp⟩
theorem EP.bind {α β : Type} {g : Nat → Option α} {f : Nat → α → Option β} {p : α → Prop} {q : β → Prop} (h : EP g p) (hf : ∀ a, p a → EP (fun k => f k a) q) : EP (fun k => (g k).bind (f k)) q := by
  obtain ⟨a, ha, hp⟩ := h
  obtain ⟨b, hb, hq⟩ := hf a hp
  exact ⟨b, Ev.bind ha hb, hq⟩
theorem EP.ite {α : Type} {c : Prop} [Decidable c] {g f : Nat → Option α} {p : α → Prop} (h1 : c → EP g p) (h2 : ¬ c → EP f p) : EP (fun k => if c then g k else f k) p := by
  by_cases h : c
  · obtain ⟨r, hr, hp⟩ := h1 h; exact ⟨r, Ev.pos h hr, hp⟩
  · obtain ⟨r, hr, hp⟩ := h2 h; exact ⟨r, Ev.neg h hr, hp⟩
theorem EP.step {α : Type} {g f : Nat → Option α} {p : α → Prop} (hg : ∀ k, g (k + 1) = f k) (h : EP f p) : EP g p := by
  obtain ⟨r, hr, hp⟩ := h; exact ⟨r, Ev.step hg hr, hp⟩
theorem EP.congr {α : Type} {g f : Nat → Option α} {p : α → Prop} (hg : ∀ k, g k = f k) (h : EP f p) : EP g p := by
  obtain ⟨r, hr, hp⟩ := h; exact ⟨r, Ev.congr hg hr, hp⟩
theorem EP.mono {α : Type} {g : Nat → Option α} {p q : α → Prop} (h : EP g p) (hq : ∀ a, p a → q a) : EP g q := by
  obtain ⟨r, hr, hp⟩ := h; exact ⟨r, hr, hq r hp⟩
abbrev KA := S130
abbrev PA := S132
abbrev LA := S134
def cvK (x : KA) : KT := ⟨x.f0, x.f1, ⟨x.f2.f0, x.f2.f1⟩⟩
def cvP (x : PA) : PT := ⟨x.f0, x.f1⟩
def cvL (x : LA) : LT := ⟨x.f0, x.f1, x.f2⟩
theorem w_sub {a : Int} {n : Nat} (h0 : 0 ≤ a) (h1 : a ≤ 1048576) (hn : n ≤ 140737488351232) : wrap64 (a - (n : Int)) = a - (n : Int) := by unfold wrap64; omega
/-- What is left: less than before, or -1. -/
def left (a r : Int) : Prop := -1 ≤ r ∧ r ≤ a
theorem left.neg {a : Int} (h : 0 ≤ a) : left a (-1) := ⟨Int.le_refl _, by omega⟩
theorem szT_ep (t : ByteArray) (l : List ByteArray) (a : Int) (h0 : 0 ≤ a) (h1 : a ≤ 1048576) (ht : t.size ≤ 140737488351232) (hl : l.length ≤ 140737488351232) (hs : ∀ x ∈ l, x.size ≤ 140737488351232) :
    EP (fun k => laws_szThing.f k t l a) (fun r => left a r ∧ (0 ≤ r → (t.size : Int) ≤ 1048576 ∧ (l.length : Int) ≤ 1048576)) := by
  refine EP.congr (fun k => by unfold laws_szThing.f; rw [w_sub h0 h1 ht]) ?_
  refine EP.ite (fun c => EP.ret ⟨left.neg h0, fun h => by omega⟩) (fun c => ?_)
  refine EP.bind (EP.of (p := fun r => r = szS l (a - (t.size : Int))) (szS_ev l hl hs (a - (t.size : Int)) (by omega) (by omega)) rfl) (fun r hr => ?_)
  subst hr
  refine EP.ite (fun c2 => EP.ret ⟨left.neg h0, fun h => by omega⟩) (fun c2 => ?_)
  have h2 := szS_le (l := l) (a := a - (t.size : Int)) (by omega)
  exact EP.ret ⟨⟨by omega, by omega⟩, fun _ => ⟨by omega, by omega⟩⟩
theorem szK_ep (x : KA) (a : Int) (h0 : 0 ≤ a) (h1 : a ≤ 1048576) (hx : x.f0.size ≤ 140737488351232 ∧ x.f2.f0.size ≤ 140737488351232 ∧ x.f2.f1.length ≤ 140737488351232 ∧ ∀ y ∈ x.f2.f1, y.size ≤ 140737488351232) :
    EP (fun k => laws_szKept.f k x.f0 x.f1 x.f2.f0 x.f2.f1 a) (fun r => left a r ∧ (0 ≤ r → (x.f2.f1.length : Int) ≤ 1048576)) := by
  refine EP.congr (fun k => by unfold laws_szKept.f; rw [w_sub h0 h1 hx.1]) ?_
  refine EP.ite (fun c => EP.ret ⟨left.neg h0, fun h => by omega⟩) (fun c => ?_)
  refine EP.bind (szT_ep x.f2.f0 x.f2.f1 (a - (x.f0.size : Int)) (by omega) (by omega) hx.2.1 hx.2.2.1 hx.2.2.2) (fun r hr => ?_)
  obtain ⟨⟨g1, g2⟩, g3⟩ := hr
  refine EP.ite (fun c2 => EP.ret ⟨left.neg h0, fun h => by omega⟩) (fun c2 => ?_)
  exact EP.ret ⟨⟨g1, by omega⟩, fun h => (g3 h).2⟩
theorem szP_ep (x : PA) (a : Int) (h0 : 0 ≤ a) (h1 : a ≤ 1048576) (hx : x.f0.size ≤ 140737488351232 ∧ x.f1.size ≤ 140737488351232) : EP (fun _ => laws_szPin.f x.f0 x.f1 a) (fun r => left a r ∧ (0 ≤ r → (x.f0.size : Int) ≤ 1048576)) := by
  by_cases c : a - (x.f0.size : Int) < 0
  · exact EP.congr (f := fun _ => some (-1)) (fun k => by unfold laws_szPin.f; rw [w_sub h0 h1 hx.1, if_pos c]) (EP.ret ⟨left.neg h0, fun h => by omega⟩)
  · by_cases c2 : a - (x.f0.size : Int) - (x.f1.size : Int) < 0
    · exact EP.congr (f := fun _ => some (-1)) (fun k => by unfold laws_szPin.f; rw [w_sub h0 h1 hx.1, if_neg c, w_sub (by omega) (by omega) hx.2, if_pos c2]) (EP.ret ⟨left.neg h0, fun h => by omega⟩)
    · exact EP.congr (f := fun _ => some (a - (x.f0.size : Int) - (x.f1.size : Int))) (fun k => by unfold laws_szPin.f; rw [w_sub h0 h1 hx.1, if_neg c, w_sub (by omega) (by omega) hx.2, if_neg c2]) (EP.ret ⟨⟨by omega, by omega⟩, fun h => by omega⟩)
theorem szL_ep (x : LA) (a : Int) (h0 : 0 ≤ a) (h1 : a ≤ 1048576) (hx : x.f1.size ≤ 140737488351232) : EP (fun _ => laws_szLease.f x.f0 x.f1 x.f2 a) (fun r => left a r ∧ (0 ≤ r → True)) := by
  by_cases c : a - (x.f1.size : Int) < 0
  · exact EP.congr (f := fun _ => some (-1)) (fun k => by unfold laws_szLease.f; rw [w_sub h0 h1 hx, if_pos c]) (EP.ret ⟨left.neg h0, fun h => trivial⟩)
  · exact EP.congr (f := fun _ => some (a - (x.f1.size : Int))) (fun k => by unfold laws_szLease.f; rw [w_sub h0 h1 hx, if_neg c]) (EP.ret ⟨⟨by omega, by omega⟩, fun h => trivial⟩)
theorem eqK_ev (x : KT) (hl : x.f2.f1.length ≤ 140737488351232) : Ev (fun k => laws_eqKept.f k x.f0 x.f1 x.f2.f0 x.f2.f1 x.f0 x.f1 x.f2.f0 x.f2.f1) true := by
  have h : Ev (fun k => laws_eqThing.f k x.f2.f0 x.f2.f1 x.f2.f0 x.f2.f1) true := Ev.congr (fun k => by unfold laws_eqThing.f; rw [if_pos rfl]) (Ev.bind (eqS_ev _ hl) (Ev.congr (fun k => if_pos rfl) (Ev.now _)))
  exact Ev.congr (fun k => by unfold laws_eqKept.f; rw [if_pos rfl, if_pos rfl]) (Ev.bind h (Ev.congr (fun k => if_pos rfl) (Ev.now _)))
theorem eqP_ev (x : PT) : Ev (fun _ => laws_eqPin.f x.f0 x.f1 x.f0 x.f1) true := Ev.congr (fun k => by unfold laws_eqPin.f; rw [if_pos rfl, if_pos rfl]) (Ev.now _)
theorem eqL_ev (x : LT) : Ev (fun _ => laws_eqLease.f x.f0 x.f1 x.f2 x.f0 x.f1 x.f2) true := Ev.congr (fun k => by unfold laws_eqLease.f; rw [if_pos rfl, if_pos rfl, if_pos rfl]) (Ev.now _)
theorem toK_ev (x : KA) (hl : x.f2.f1.length ≤ 8796093022207) : Ev (fun k => laws_toKept.f k x.f0 x.f1 x.f2.f0 x.f2.f1) (x.f0, x.f1, x.f2.f0, x.f2.f1) := Ev.bind (a := (x.f2.f0, x.f2.f1)) (Ev.bind (toS_ev _ hl) (Ev.now _)) (Ev.now _)
theorem toP_ev (x : PA) : Ev (fun _ => laws_toPin.f x.f0 x.f1) (x.f0, x.f1) := Ev.now _
theorem toL_ev (x : LA) : Ev (fun _ => laws_toLease.f x.f0 x.f1 x.f2) (x.f0, x.f1, x.f2) := Ev.now _
/-! ### lists of Kepts -/
theorem szK_loop (l : List KA) (hl : l.length ≤ 140737488351232) (hx : ∀ i, i < l.length → (rd_T130 l (i : Int)).f0.size ≤ 140737488351232 ∧ (rd_T130 l (i : Int)).f2.f0.size ≤ 140737488351232 ∧ (rd_T130 l (i : Int)).f2.f1.length ≤ 140737488351232 ∧ ∀ y ∈ (rd_T130 l (i : Int)).f2.f1, y.size ≤ 140737488351232) (n : Nat) : ∀ (i : Nat) (a : Int), l.length - i = n → i ≤ l.length → 0 ≤ a → a ≤ 1048576 →
    EP (fun k => laws_szKeptS.l0 k l a (i : Int)) (fun r => left a r ∧ (0 ≤ r → ∀ j, i ≤ j → j < l.length → ((rd_T130 l (j : Int)).f2.f1.length : Int) ≤ 1048576)) := by
  induction n with
  | zero =>
    intro i a hn hi h0 h1
    refine EP.step (f := fun _ => some a) (fun k => ?_) (EP.ret ⟨⟨by omega, Int.le_refl _⟩, fun _ j h2 h3 => by omega⟩)
    simp only [laws_szKeptS.l0]; rw [if_neg (by omega)]
  | succ n ih =>
    intro i a hn hi h0 h1
    have hlt : i < l.length := by omega
    refine EP.step (fun k => by simp only [laws_szKeptS.l0]; rw [if_pos (by omega), if_pos (by omega), wsucc hlt hl]) ?_
    refine EP.bind (szK_ep (rd_T130 l (i : Int)) a h0 h1 (hx i hlt)) (fun r hr => ?_)
    obtain ⟨⟨g1, g2⟩, g3⟩ := hr
    refine EP.ite (fun c => EP.ret ⟨left.neg h0, fun h => by omega⟩) (fun c => ?_)
    refine (ih (i + 1) r (by omega) (by omega) (by omega) (by omega)).mono (fun q hq => ⟨⟨hq.1.1, by have := hq.1.2; omega⟩, fun h j h2 h3 => ?_⟩)
    by_cases e : j = i
    · subst e; exact g3 (by omega)
    · exact hq.2 h j (by omega) h3
theorem szKS_ep (l : List KA) (hl : l.length ≤ 140737488351232) (hx : ∀ i, i < l.length → (rd_T130 l (i : Int)).f0.size ≤ 140737488351232 ∧ (rd_T130 l (i : Int)).f2.f0.size ≤ 140737488351232 ∧ (rd_T130 l (i : Int)).f2.f1.length ≤ 140737488351232 ∧ ∀ y ∈ (rd_T130 l (i : Int)).f2.f1, y.size ≤ 140737488351232) (a : Int) (h0 : 0 ≤ a) (h1 : a ≤ 1048576) :
    EP (fun k => laws_szKeptS.f k l a) (fun r => left a r ∧ (0 ≤ r → (l.length : Int) ≤ 1048576 ∧ ∀ i, i < l.length → ((rd_T130 l (i : Int)).f2.f1.length : Int) ≤ 1048576)) := by
  refine EP.congr (fun k => by unfold laws_szKeptS.f; rw [w_sub h0 h1 hl]) ?_
  refine EP.ite (fun c => EP.ret ⟨left.neg h0, fun h => by omega⟩) (fun c => ?_)
  refine (szK_loop l hl hx l.length 0 (a - (l.length : Int)) (by omega) (by omega) (by omega) (by omega)).mono (fun r hr => ⟨⟨hr.1.1, by have := hr.1.2; omega⟩, fun h => ⟨by omega, fun i hi => hr.2 h i (by omega) hi⟩⟩)
theorem rdK_map (l : List KA) (i : Nat) (hi : i < l.length) : rd_T91 (l.map cvK) (i : Int) = cvK (rd_T130 l (i : Int)) := by
  unfold rd_T91 rd_T130
  simp [List.getD_eq_getElem?_getD, List.getElem?_eq_getElem hi]
theorem toK_loop (l : List KA) (hl : l.length ≤ 1048576) (hr : ∀ i, i < l.length → (rd_T130 l (i : Int)).f2.f1.length ≤ 8796093022207) (n : Nat) : ∀ (i : Nat) (y : List KT), l.length - i = n → i ≤ l.length → y.length = l.length →
    Ev (fun k => laws_toKeptS.l0 k l y (i : Int)) (y.take i ++ (l.drop i).map cvK) := by
  induction n with
  | zero =>
    intro i y hn hi hy
    refine Ev.step (f := fun _ => some y) (fun k => ?_) ?_
    · simp only [laws_toKeptS.l0]; rw [if_neg (by omega)]
    · rw [List.drop_eq_nil_of_le (by omega), List.map_nil, List.append_nil, List.take_of_length_le (by omega)]; exact Ev.now _
  | succ n ih =>
    intro i y hn hi hy
    have hlt : i < l.length := by omega
    have h1 := ih (i + 1) (y.set i (cvK (rd_T130 l (i : Int)))) (by omega) (by omega) (by simp [hy])
    have e : (y.set i (cvK (rd_T130 l (i : Int)))).take (i + 1) ++ (l.drop (i + 1)).map cvK = y.take i ++ (l.drop i).map cvK := by
      have e1 : l.drop i = rd_T130 l (i : Int) :: l.drop (i + 1) := rd_drop z130 l i hlt
      rw [e1, List.map_cons, List.take_add_one]
      have h1 : (y.set i (cvK (rd_T130 l (i : Int)))).take i = y.take i := by rw [List.take_set_of_le (by omega)]
      rw [h1, List.getElem?_set_self (by omega)]; simp
    rw [e] at h1
    refine Ev.step (fun k => by simp only [laws_toKeptS.l0]; rw [if_pos (by omega), if_pos (by omega), wsucc hlt (by omega)]) ?_
    refine Ev.bind (toK_ev (rd_T130 l (i : Int)) (hr i hlt)) ?_
    exact Ev.pos (by omega) h1
theorem toKS_ev (l : List KA) (hl : l.length ≤ 1048576) (hr : ∀ i, i < l.length → (rd_T130 l (i : Int)).f2.f1.length ≤ 8796093022207) : Ev (fun k => laws_toKeptS.f k l) (l.map cvK) := by
  have := toK_loop l hl hr l.length 0 (List.replicate l.length z91) (by omega) (by omega) (by simp)
  rw [List.take_zero, List.nil_append, List.drop_zero] at this
  refine Ev.congr (fun k => ?_) this
  unfold laws_toKeptS.f
  rw [if_pos (by omega), if_pos (by omega)]; rfl
theorem eqK_loop (l : List KT) (hl : l.length ≤ 1048576) (hr : ∀ i, i < l.length → (rd_T91 l (i : Int)).f2.f1.length ≤ 140737488351232) (n : Nat) : ∀ (i : Nat), l.length - i = n → i ≤ l.length → Ev (fun k => laws_eqKeptS.l0 k l l (i : Int)) true := by
  induction n with
  | zero =>
    intro i hn hi
    refine Ev.step (f := fun _ => some true) (fun k => ?_) (Ev.now _)
    simp only [laws_eqKeptS.l0]; rw [if_neg (by omega)]
  | succ n ih =>
    intro i hn hi
    have hlt : i < l.length := by omega
    refine Ev.step (fun k => by simp only [laws_eqKeptS.l0]; rw [if_pos (by omega), if_pos (by omega), if_pos (by omega), wsucc hlt (by omega)]) ?_
    exact Ev.bind (eqK_ev (rd_T91 l (i : Int)) (hr i hlt)) (Ev.pos rfl (ih (i + 1) (by omega) (by omega)))
theorem eqKS_ev (l : List KT) (hl : l.length ≤ 1048576) (hr : ∀ i, i < l.length → (rd_T91 l (i : Int)).f2.f1.length ≤ 140737488351232) : Ev (fun k => laws_eqKeptS.f k l l) true := by
  refine Ev.congr (fun k => ?_) (eqK_loop l hl hr l.length 0 (by omega) (by omega))
  unfold laws_eqKeptS.f
  rw [if_pos rfl]; rfl
/-! ### lists of Pins -/
theorem szP_loop (l : List PA) (hl : l.length ≤ 140737488351232) (hx : ∀ i, i < l.length → (rd_T132 l (i : Int)).f0.size ≤ 140737488351232 ∧ (rd_T132 l (i : Int)).f1.size ≤ 140737488351232) (n : Nat) : ∀ (i : Nat) (a : Int), l.length - i = n → i ≤ l.length → 0 ≤ a → a ≤ 1048576 →
    EP (fun k => laws_szPinS.l0 k l a (i : Int)) (fun r => left a r ∧ (0 ≤ r → ∀ j, i ≤ j → j < l.length → ((rd_T132 l (j : Int)).f0.size : Int) ≤ 1048576)) := by
  induction n with
  | zero =>
    intro i a hn hi h0 h1
    refine EP.step (f := fun _ => some a) (fun k => ?_) (EP.ret ⟨⟨by omega, Int.le_refl _⟩, fun _ j h2 h3 => by omega⟩)
    simp only [laws_szPinS.l0]; rw [if_neg (by omega)]
  | succ n ih =>
    intro i a hn hi h0 h1
    have hlt : i < l.length := by omega
    refine EP.step (fun k => by simp only [laws_szPinS.l0]; rw [if_pos (by omega), if_pos (by omega), wsucc hlt hl]) ?_
    refine EP.bind (szP_ep (rd_T132 l (i : Int)) a h0 h1 (hx i hlt)) (fun r hr => ?_)
    obtain ⟨⟨g1, g2⟩, g3⟩ := hr
    refine EP.ite (fun c => EP.ret ⟨left.neg h0, fun h => by omega⟩) (fun c => ?_)
    refine (ih (i + 1) r (by omega) (by omega) (by omega) (by omega)).mono (fun q hq => ⟨⟨hq.1.1, by have := hq.1.2; omega⟩, fun h j h2 h3 => ?_⟩)
    by_cases e : j = i
    · subst e; exact g3 (by omega)
    · exact hq.2 h j (by omega) h3
theorem szPS_ep (l : List PA) (hl : l.length ≤ 140737488351232) (hx : ∀ i, i < l.length → (rd_T132 l (i : Int)).f0.size ≤ 140737488351232 ∧ (rd_T132 l (i : Int)).f1.size ≤ 140737488351232) (a : Int) (h0 : 0 ≤ a) (h1 : a ≤ 1048576) :
    EP (fun k => laws_szPinS.f k l a) (fun r => left a r ∧ (0 ≤ r → (l.length : Int) ≤ 1048576 ∧ ∀ i, i < l.length → ((rd_T132 l (i : Int)).f0.size : Int) ≤ 1048576)) := by
  refine EP.congr (fun k => by unfold laws_szPinS.f; rw [w_sub h0 h1 hl]) ?_
  refine EP.ite (fun c => EP.ret ⟨left.neg h0, fun h => by omega⟩) (fun c => ?_)
  refine (szP_loop l hl hx l.length 0 (a - (l.length : Int)) (by omega) (by omega) (by omega) (by omega)).mono (fun r hr => ⟨⟨hr.1.1, by have := hr.1.2; omega⟩, fun h => ⟨by omega, fun i hi => hr.2 h i (by omega) hi⟩⟩)
theorem rdP_map (l : List PA) (i : Nat) (hi : i < l.length) : rd_T82 (l.map cvP) (i : Int) = cvP (rd_T132 l (i : Int)) := by
  unfold rd_T82 rd_T132
  simp [List.getD_eq_getElem?_getD, List.getElem?_eq_getElem hi]
theorem toP_loop (l : List PA) (hl : l.length ≤ 1048576) (n : Nat) : ∀ (i : Nat) (y : List PT), l.length - i = n → i ≤ l.length → y.length = l.length →
    Ev (fun k => laws_toPinS.l0 k l y (i : Int)) (y.take i ++ (l.drop i).map cvP) := by
  induction n with
  | zero =>
    intro i y hn hi hy
    refine Ev.step (f := fun _ => some y) (fun k => ?_) ?_
    · simp only [laws_toPinS.l0]; rw [if_neg (by omega)]
    · rw [List.drop_eq_nil_of_le (by omega), List.map_nil, List.append_nil, List.take_of_length_le (by omega)]; exact Ev.now _
  | succ n ih =>
    intro i y hn hi hy
    have hlt : i < l.length := by omega
    have h1 := ih (i + 1) (y.set i (cvP (rd_T132 l (i : Int)))) (by omega) (by omega) (by simp [hy])
    have e : (y.set i (cvP (rd_T132 l (i : Int)))).take (i + 1) ++ (l.drop (i + 1)).map cvP = y.take i ++ (l.drop i).map cvP := by
      have e1 : l.drop i = rd_T132 l (i : Int) :: l.drop (i + 1) := rd_drop z132 l i hlt
      rw [e1, List.map_cons, List.take_add_one]
      have h1 : (y.set i (cvP (rd_T132 l (i : Int)))).take i = y.take i := by rw [List.take_set_of_le (by omega)]
      rw [h1, List.getElem?_set_self (by omega)]; simp
    rw [e] at h1
    refine Ev.step (fun k => by simp only [laws_toPinS.l0]; rw [if_pos (by omega), if_pos (by omega), wsucc hlt (by omega)]) ?_
    refine Ev.bind (toP_ev (rd_T132 l (i : Int))) ?_
    exact Ev.pos (by omega) h1
theorem toPS_ev (l : List PA) (hl : l.length ≤ 1048576) : Ev (fun k => laws_toPinS.f k l) (l.map cvP) := by
  have := toP_loop l hl l.length 0 (List.replicate l.length z82) (by omega) (by omega) (by simp)
  rw [List.take_zero, List.nil_append, List.drop_zero] at this
  refine Ev.congr (fun k => ?_) this
  unfold laws_toPinS.f
  rw [if_pos (by omega), if_pos (by omega)]; rfl
theorem eqP_loop (l : List PT) (hl : l.length ≤ 1048576) (n : Nat) : ∀ (i : Nat), l.length - i = n → i ≤ l.length → Ev (fun k => laws_eqPinS.l0 k l l (i : Int)) true := by
  induction n with
  | zero =>
    intro i hn hi
    refine Ev.step (f := fun _ => some true) (fun k => ?_) (Ev.now _)
    simp only [laws_eqPinS.l0]; rw [if_neg (by omega)]
  | succ n ih =>
    intro i hn hi
    have hlt : i < l.length := by omega
    refine Ev.step (fun k => by simp only [laws_eqPinS.l0]; rw [if_pos (by omega), if_pos (by omega), if_pos (by omega), wsucc hlt (by omega)]) ?_
    exact Ev.bind (eqP_ev (rd_T82 l (i : Int))) (Ev.pos rfl (ih (i + 1) (by omega) (by omega)))
theorem eqPS_ev (l : List PT) (hl : l.length ≤ 1048576) : Ev (fun k => laws_eqPinS.f k l l) true := by
  refine Ev.congr (fun k => ?_) (eqP_loop l hl l.length 0 (by omega) (by omega))
  unfold laws_eqPinS.f
  rw [if_pos rfl]; rfl
/-! ### lists of Leases -/
theorem szL_loop (l : List LA) (hl : l.length ≤ 140737488351232) (hx : ∀ i, i < l.length → (rd_T134 l (i : Int)).f1.size ≤ 140737488351232) (n : Nat) : ∀ (i : Nat) (a : Int), l.length - i = n → i ≤ l.length → 0 ≤ a → a ≤ 1048576 →
    EP (fun k => laws_szLeaseS.l0 k l a (i : Int)) (fun r => left a r ∧ (0 ≤ r → ∀ j, i ≤ j → j < l.length → True)) := by
  induction n with
  | zero =>
    intro i a hn hi h0 h1
    refine EP.step (f := fun _ => some a) (fun k => ?_) (EP.ret ⟨⟨by omega, Int.le_refl _⟩, fun _ j h2 h3 => by omega⟩)
    simp only [laws_szLeaseS.l0]; rw [if_neg (by omega)]
  | succ n ih =>
    intro i a hn hi h0 h1
    have hlt : i < l.length := by omega
    refine EP.step (fun k => by simp only [laws_szLeaseS.l0]; rw [if_pos (by omega), if_pos (by omega), wsucc hlt hl]) ?_
    refine EP.bind (szL_ep (rd_T134 l (i : Int)) a h0 h1 (hx i hlt)) (fun r hr => ?_)
    obtain ⟨⟨g1, g2⟩, g3⟩ := hr
    refine EP.ite (fun c => EP.ret ⟨left.neg h0, fun h => by omega⟩) (fun c => ?_)
    refine (ih (i + 1) r (by omega) (by omega) (by omega) (by omega)).mono (fun q hq => ⟨⟨hq.1.1, by have := hq.1.2; omega⟩, fun h j h2 h3 => ?_⟩)
    by_cases e : j = i
    · subst e; exact g3 (by omega)
    · exact hq.2 h j (by omega) h3
theorem szLS_ep (l : List LA) (hl : l.length ≤ 140737488351232) (hx : ∀ i, i < l.length → (rd_T134 l (i : Int)).f1.size ≤ 140737488351232) (a : Int) (h0 : 0 ≤ a) (h1 : a ≤ 1048576) :
    EP (fun k => laws_szLeaseS.f k l a) (fun r => left a r ∧ (0 ≤ r → (l.length : Int) ≤ 1048576 ∧ ∀ i, i < l.length → True)) := by
  refine EP.congr (fun k => by unfold laws_szLeaseS.f; rw [w_sub h0 h1 hl]) ?_
  refine EP.ite (fun c => EP.ret ⟨left.neg h0, fun h => by omega⟩) (fun c => ?_)
  refine (szL_loop l hl hx l.length 0 (a - (l.length : Int)) (by omega) (by omega) (by omega) (by omega)).mono (fun r hr => ⟨⟨hr.1.1, by have := hr.1.2; omega⟩, fun h => ⟨by omega, fun i hi => hr.2 h i (by omega) hi⟩⟩)
theorem toL_loop (l : List LA) (hl : l.length ≤ 1048576) (n : Nat) : ∀ (i : Nat) (y : List LT), l.length - i = n → i ≤ l.length → y.length = l.length →
    Ev (fun k => laws_toLeaseS.l0 k l y (i : Int)) (y.take i ++ (l.drop i).map cvL) := by
  induction n with
  | zero =>
    intro i y hn hi hy
    refine Ev.step (f := fun _ => some y) (fun k => ?_) ?_
    · simp only [laws_toLeaseS.l0]; rw [if_neg (by omega)]
    · rw [List.drop_eq_nil_of_le (by omega), List.map_nil, List.append_nil, List.take_of_length_le (by omega)]; exact Ev.now _
  | succ n ih =>
    intro i y hn hi hy
    have hlt : i < l.length := by omega
    have h1 := ih (i + 1) (y.set i (cvL (rd_T134 l (i : Int)))) (by omega) (by omega) (by simp [hy])
    have e : (y.set i (cvL (rd_T134 l (i : Int)))).take (i + 1) ++ (l.drop (i + 1)).map cvL = y.take i ++ (l.drop i).map cvL := by
      have e1 : l.drop i = rd_T134 l (i : Int) :: l.drop (i + 1) := rd_drop z134 l i hlt
      rw [e1, List.map_cons, List.take_add_one]
      have h1 : (y.set i (cvL (rd_T134 l (i : Int)))).take i = y.take i := by rw [List.take_set_of_le (by omega)]
      rw [h1, List.getElem?_set_self (by omega)]; simp
    rw [e] at h1
    refine Ev.step (fun k => by simp only [laws_toLeaseS.l0]; rw [if_pos (by omega), if_pos (by omega), wsucc hlt (by omega)]) ?_
    refine Ev.bind (toL_ev (rd_T134 l (i : Int))) ?_
    exact Ev.pos (by omega) h1
theorem toLS_ev (l : List LA) (hl : l.length ≤ 1048576) : Ev (fun k => laws_toLeaseS.f k l) (l.map cvL) := by
  have := toL_loop l hl l.length 0 (List.replicate l.length z85) (by omega) (by omega) (by simp)
  rw [List.take_zero, List.nil_append, List.drop_zero] at this
  refine Ev.congr (fun k => ?_) this
  unfold laws_toLeaseS.f
  rw [if_pos (by omega), if_pos (by omega)]; rfl
theorem eqL_loop (l : List LT) (hl : l.length ≤ 1048576) (n : Nat) : ∀ (i : Nat), l.length - i = n → i ≤ l.length → Ev (fun k => laws_eqLeaseS.l0 k l l (i : Int)) true := by
  induction n with
  | zero =>
    intro i hn hi
    refine Ev.step (f := fun _ => some true) (fun k => ?_) (Ev.now _)
    simp only [laws_eqLeaseS.l0]; rw [if_neg (by omega)]
  | succ n ih =>
    intro i hn hi
    have hlt : i < l.length := by omega
    refine Ev.step (fun k => by simp only [laws_eqLeaseS.l0]; rw [if_pos (by omega), if_pos (by omega), if_pos (by omega), wsucc hlt (by omega)]) ?_
    exact Ev.bind (eqL_ev (rd_T85 l (i : Int))) (Ev.pos rfl (ih (i + 1) (by omega) (by omega)))
theorem eqLS_ev (l : List LT) (hl : l.length ≤ 1048576) : Ev (fun k => laws_eqLeaseS.f k l l) true := by
  refine Ev.congr (fun k => ?_) (eqL_loop l hl l.length 0 (by omega) (by omega))
  unfold laws_eqLeaseS.f
  rw [if_pos rfl]; rfl
/-! ### states -/
/-- What a state's parts are bounded by, out of the machine's reach. -/
def stH (T : List KA) (P : List PA) (L : List LA) : Prop := T.length ≤ 140737488351232 ∧ (∀ i, i < T.length → (rd_T130 T (i : Int)).f0.size ≤ 140737488351232 ∧ (rd_T130 T (i : Int)).f2.f0.size ≤ 140737488351232 ∧ (rd_T130 T (i : Int)).f2.f1.length ≤ 140737488351232 ∧ ∀ y ∈ (rd_T130 T (i : Int)).f2.f1, y.size ≤ 140737488351232) ∧
  P.length ≤ 140737488351232 ∧ (∀ i, i < P.length → (rd_T132 P (i : Int)).f0.size ≤ 140737488351232 ∧ (rd_T132 P (i : Int)).f1.size ≤ 140737488351232) ∧ L.length ≤ 140737488351232 ∧ (∀ i, i < L.length → (rd_T134 L (i : Int)).f1.size ≤ 140737488351232)
/-- .. and by the law's own measure. -/
def stS (T : List KA) (P : List PA) (L : List LA) : Prop := T.length ≤ 1048576 ∧ (∀ i, i < T.length → (rd_T130 T (i : Int)).f2.f1.length ≤ 1048576) ∧ P.length ≤ 1048576 ∧ (∀ i, i < P.length → (rd_T132 P (i : Int)).f0.size ≤ 1048576) ∧ L.length ≤ 1048576
theorem szSt_ep (w nw g b : Int) (T : List KA) (P : List PA) (L : List LA) (h : stH T P L) (a : Int) (h0 : 0 ≤ a) (h1 : a ≤ 1048576) : EP (fun k => laws_szState.f k w nw g b T P L a) (fun r => left a r ∧ (0 ≤ r → stS T P L)) := by
  obtain ⟨k1, k2, k3, k4, k5, k6⟩ := h
  unfold laws_szState.f
  refine EP.bind (szKS_ep T k1 k2 a h0 h1) (fun r hr => ?_)
  obtain ⟨⟨a1, a2⟩, a3⟩ := hr
  refine EP.ite (fun c => EP.ret ⟨left.neg h0, fun h => by omega⟩) (fun c => ?_)
  refine EP.bind (szPS_ep P k3 k4 r (by omega) (by omega)) (fun r2 hr => ?_)
  obtain ⟨⟨b1, b2⟩, b3⟩ := hr
  refine EP.ite (fun c2 => EP.ret ⟨left.neg h0, fun h => by omega⟩) (fun c2 => ?_)
  refine EP.bind (szLS_ep L k5 k6 r2 (by omega) (by omega)) (fun r3 hr => ?_)
  obtain ⟨⟨c1, c2⟩, c3⟩ := hr
  refine EP.ite (fun c3 => EP.ret ⟨left.neg h0, fun h => by omega⟩) (fun c4 => ?_)
  have d1 := a3 (by omega)
  have d2 := b3 (by omega)
  have d3 := c3 (by omega)
  exact EP.ret ⟨⟨by omega, by omega⟩, fun _ => ⟨by omega, fun i hi => by have := d1.2 i hi; omega, by omega, fun i hi => by have := d2.2 i hi; omega, by omega⟩⟩
theorem toSt_ev (w nw g b : Int) (T : List KA) (P : List PA) (L : List LA) (h : stS T P L) : Ev (fun k => laws_toState.f k w nw g b T P L) (w, nw, g, b, T.map cvK, P.map cvP, L.map cvL) := by
  obtain ⟨h1, h2, h3, h4, h5⟩ := h
  exact Ev.bind (toKS_ev T h1 (fun i hi => by have := h2 i hi; omega)) (Ev.bind (toPS_ev P h3) (Ev.bind (toLS_ev L h5) (Ev.now _)))
theorem eqSt_ev (w nw g b : Int) (T : List KA) (P : List PA) (L : List LA) (h : stS T P L) : Ev (fun k => laws_eqState.f k w nw g b (T.map cvK) (P.map cvP) (L.map cvL) w nw g b (T.map cvK) (P.map cvP) (L.map cvL)) true := by
  obtain ⟨h1, h2, h3, h4, h5⟩ := h
  refine Ev.congr (fun k => by unfold laws_eqState.f; rw [if_pos rfl, if_pos rfl, if_pos rfl, if_pos rfl]) ?_
  refine Ev.bind (eqKS_ev _ (by rw [List.length_map]; exact h1) (fun i hi => ?_)) (Ev.pos rfl (Ev.bind (eqPS_ev _ (by rw [List.length_map]; exact h3)) (Ev.pos rfl (Ev.bind (eqLS_ev _ (by rw [List.length_map]; exact h5)) (Ev.pos rfl (Ev.now _))))))
  rw [List.length_map] at hi
  have := h2 i hi
  rw [rdK_map T i hi]
  show (rd_T130 T (i : Int)).f2.f1.length ≤ 140737488351232
  omega
theorem stS_refs {T : List KA} {P : List PA} {L : List LA} (h : stS T P L) : ∀ i, i < (T.map cvK).length → (rK (T.map cvK) i).f2.f1.length ≤ 140737488351232 := fun i hi => by
  rw [List.length_map] at hi
  have := h.2.1 i hi
  show (rd_T91 (T.map cvK) (i : Int)).f2.f1.length ≤ _
  rw [rdK_map T i hi]
  show (rd_T130 T (i : Int)).f2.f1.length ≤ _
  omega
theorem stS_names {T : List KA} {P : List PA} {L : List LA} (h : stS T P L) : ∀ i, i < (P.map cvP).length → (rP (P.map cvP) i).f0.size ≤ 140737488351232 := fun i hi => by
  rw [List.length_map] at hi
  have := h.2.2.2.1 i hi
  show (rd_T82 (P.map cvP) (i : Int)).f0.size ≤ _
  rw [rdP_map P i hi]
  show (rd_T132 P (i : Int)).f0.size ≤ _
  omega
/-- The bounds, out of what the machine says of an argument's room. -/
theorem stH_of {b1 b2 b3 b4 : Nat} (p1 : 0 < b1) (p2 : 0 < b2) (p3 : 0 < b3) (p4 : 0 < b4) {T : List KA} {P : List PA} {L : List LA}
    (h1 : ∀ n ∈ (T.length * b1 :: T.flatMap fun x : KA => [x.f0.size] ++ ([] ++ ([x.f2.f0.size] ++ (x.f2.f1.length * b2 :: x.f2.f1.flatMap fun s : ByteArray => [s.size])))), n ≤ 140737488351232)
    (h2 : ∀ n ∈ (P.length * b3 :: P.flatMap fun x : PA => [x.f0.size] ++ [x.f1.size]), n ≤ 140737488351232) (h3 : ∀ n ∈ (L.length * b4 :: L.flatMap fun x : LA => [] ++ ([x.f1.size] ++ [])), n ≤ 140737488351232) : stH T P L := by
  have mK : ∀ i, i < T.length → rd_T130 T (i : Int) ∈ T := fun i hi => by have e : rd_T130 T (i : Int) = T[i] := rd_get z130 T i hi; rw [e]; exact List.getElem_mem hi
  have mP : ∀ i, i < P.length → rd_T132 P (i : Int) ∈ P := fun i hi => by have e : rd_T132 P (i : Int) = P[i] := rd_get z132 P i hi; rw [e]; exact List.getElem_mem hi
  have mL : ∀ i, i < L.length → rd_T134 L (i : Int) ∈ L := fun i hi => by have e : rd_T134 L (i : Int) = L[i] := rd_get z134 L i hi; rw [e]; exact List.getElem_mem hi
  refine ⟨Nat.le_trans (Nat.le_mul_of_pos_right _ p1) (h1 _ List.mem_cons_self), fun i hi => ?_, Nat.le_trans (Nat.le_mul_of_pos_right _ p3) (h2 _ List.mem_cons_self), fun i hi => ?_, Nat.le_trans (Nat.le_mul_of_pos_right _ p4) (h3 _ List.mem_cons_self), fun i hi => ?_⟩
  · have hm := fun n hn => h1 n (List.mem_cons_of_mem _ (List.mem_flatMap.2 ⟨_, mK i hi, hn⟩))
    generalize rd_T130 T (i : Int) = x at hm ⊢
    refine ⟨hm _ (by simp), hm _ (by simp), Nat.le_trans (Nat.le_mul_of_pos_right _ p2) (hm _ (by simp)), fun y hy => hm _ (by simp; exact Or.inr (Or.inr (Or.inr ⟨y, hy, rfl⟩)))⟩
  · have hm := fun n hn => h2 n (List.mem_cons_of_mem _ (List.mem_flatMap.2 ⟨_, mP i hi, hn⟩))
    exact ⟨hm _ (by simp), hm _ (by simp)⟩
  · exact h3 _ (List.mem_cons_of_mem _ (List.mem_flatMap.2 ⟨_, mL i hi, by simp⟩))
/-- A state's room, as the machine tells it, bounds its parts. -/
theorem stH_all {T : List KA} {P : List PA} {L : List LA}
    (hz : ∀ n ∈ ([] : List Nat) ++ ([] ++ ([] ++ ([] ++ ((T.length * Try.prog.bytesOf 130 :: T.flatMap fun x : KA => [x.f0.size] ++ ([] ++ ([x.f2.f0.size] ++ (x.f2.f1.length * Try.prog.bytesOf 9 :: x.f2.f1.flatMap fun s : ByteArray => [s.size])))) ++
      ((P.length * Try.prog.bytesOf 132 :: P.flatMap fun x : PA => [x.f0.size] ++ [x.f1.size]) ++ (L.length * Try.prog.bytesOf 134 :: L.flatMap fun x : LA => [] ++ ([x.f1.size] ++ []))))))), n ≤ 140737488351232) : stH T P L := by
  simp only [List.nil_append] at hz
  exact stH_of (of_decide_eq_true (by kernel_rfl)) (of_decide_eq_true (by kernel_rfl)) (of_decide_eq_true (by kernel_rfl)) (of_decide_eq_true (by kernel_rfl))
    (fun n hn => hz n (List.mem_append_left _ (by simpa using hn))) (fun n hn => hz n (List.mem_append_right _ (List.mem_append_left _ (by simpa using hn)))) (fun n hn => hz n (List.mem_append_right _ (List.mem_append_right _ (by simpa using hn))))
theorem ep_true {g : Nat → Option Bool} (h : EP g (fun r => r = true)) : Ev g true := by obtain ⟨r, hr, e⟩ := h; subst e; exact hr
end Go.Proofs.Ytcijlemojododaa.Q

/- Plain laws of valid states: their parts. -/
namespace Go.Proofs.Ytcijlemojododaa.Q
open Go.RowKit Go.Proofs.Ytcijlemojododaa.P Go.Proofs.Ytcijlemojododaa.S Go.Proofs.YtcijlemojododaaW.PrintWords Go.Proofs.YtcijlemojododaaW.PrintLast Go.Proofs.YtcijlemojododaaW.PrintMore
set_option linter.unusedVariables false

end Go.Proofs.Ytcijlemojododaa.Q

/- Plain laws of valid rounds: what the program and the reference come to is one function. -/
namespace Go.Proofs.Ytcijlemojododaa.Q
open Go.RowKit Go.Proofs.Ytcijlemojododaa.P Go.Proofs.Ytcijlemojododaa.S Go.Proofs.YtcijlemojododaaW.PrintWords Go.Proofs.YtcijlemojododaaW.PrintLast Go.Proofs.YtcijlemojododaaW.PrintMore
set_option linter.unusedVariables false

def hasB (l : List ByteArray) (x : ByteArray) : Bool := l.any fun y => decide (y.toList = x.toList)
theorem sHas_loop (l : List ByteArray) (x : ByteArray) (hl : l.length ≤ 140737488351232) (n : Nat) : ∀ i : Nat, l.length - i = n → i ≤ l.length → Ev (fun k => spec_l4Has.l0 k l x (i : Int)) (hasB (l.drop i) x) := by
  induction n with
  | zero =>
    intro i hn hi
    rw [List.drop_eq_nil_of_le (by omega)]
    refine Ev.step (f := fun _ => some false) (fun k => ?_) (Ev.now _)
    simp only [spec_l4Has.l0]; rw [if_neg (by omega)]
  | succ n ih =>
    intro i hn hi
    have hlt : i < l.length := by omega
    have e : hasB (l.drop i) x = (decide ((rdOf ByteArray.empty l (i : Int)).toList = x.toList) || hasB (l.drop (i + 1)) x) := by rw [rd_drop ByteArray.empty l i hlt]; rfl
    rw [e]
    refine Ev.step (fun k => by simp only [spec_l4Has.l0]; rw [if_pos (by omega), if_pos (by omega), wsucc hlt hl]) ?_
    refine Ev.ite' (fun c => ?_) (fun c => ?_)
    · rw [decide_eq_true c, Bool.true_or]; exact Ev.now _
    · rw [decide_eq_false c, Bool.false_or]; exact ih (i + 1) (by omega) (by omega)
theorem sHas_ev (l : List ByteArray) (x : ByteArray) (hl : l.length ≤ 140737488351232) : Ev (fun k => spec_l4Has.f k l x) (hasB l x) := by
  have := sHas_loop l x hl l.length 0 (by omega) (by omega)
  rw [List.drop_zero] at this
  exact Ev.congr (fun k => by unfold spec_l4Has.f; rfl) this
theorem ba_eq (a b : ByteArray) : a.toList = b.toList ↔ a = b := ⟨fun h => by
  have := congrArg (fun l : List UInt8 => l) h
  exact (MapKept.bytes_beq a b).1 (by rw [beq_toListBytes, h]; exact beq_self_eq_true _), fun h => by rw [h]⟩
/-! ### the parts -/
def qB (w : Int) (l : List ByteArray) : Nat → Nat → Bool
  | 0, _ => true
  | n + 1, i => if ((rdOf ByteArray.empty l (i : Int)).size : Int) = w then qB w l n (i + 1) else false
def mB (w : Int) (l : List ByteArray) : Nat → Nat → List ByteArray → Bool
  | 0, _, _ => true
  | n + 1, i, ks => if ((rdOf ByteArray.empty l (i : Int)).size : Int) = w then (if ks.contains (rdOf ByteArray.empty l (i : Int)) = true then false else mB w l n (i + 1) (insS (rdOf ByteArray.empty l (i : Int)) ks)) else false
def endB (b p : Int) (q m : List ByteArray) (t a : Int) : Bool :=
  if p = 0 then (if q.length = 0 then (if m.length = 0 then (if t = 0 then a == 0 else false) else false) else false)
  else (if 0 ≤ t ∧ t ≤ b then (if 1 ≤ a ∧ a ≤ wrap64 (t + 1) then (if p = 2 then true else a == wrap64 (t + 1)) else false) else false)
def roundB (w b p : Int) (q m : List ByteArray) (t a n : Int) : Bool :=
  if p < 0 then false else if p > 2 then false else if timeB n = true then (if q.length ≤ 23200 then (if m.length ≤ 600 then (if mB w m m.length 0 [] = true then (if qB w q q.length 0 = true then endB b p q m t a else false) else false) else false) else false) else false
section
variable (T : List KT) (P : List PT) (L : List LT) (w nw g b p : Int) (q m : List ByteArray) (t a n0 : Int)
theorem iQ_loop (hp : 0 ≤ p ∧ p ≤ 2) (hq : q.length ≤ 23200) (hm : m.length ≤ 600) (n : Nat) : ∀ i : Nat, q.length - i = n → i ≤ q.length →
    Ev (fun k => impl_State_roundOk.l1 k q (q.length : Int) (i : Int) w nw g b T P L p q m t a n0) (if qB w q n i = true then endB b p q m t a else false) := by
  induction n with
  | zero =>
    intro i hn hi
    have e : (if qB w q 0 i = true then endB b p q m t a else false) = endB b p q m t a := if_pos rfl
    rw [e]
    refine Ev.step (fun k => by simp only [impl_State_roundOk.l1]; rw [if_neg (by omega)]) ?_
    unfold endB
    refine Ev.ite' (fun c => ?_) (fun c => ?_)
    · rw [if_pos c]
      have hw : wrap64 ((q.length : Int) + (m.length : Int)) = (q.length : Int) + (m.length : Int) := by unfold wrap64; omega
      refine Ev.ite' (fun c2 => ?_) (fun c2 => ?_)
      · rw [hw] at c2
        rw [if_pos (show q.length = 0 by omega), if_pos (show m.length = 0 by omega)]
        exact Ev.ite' (fun c3 => by rw [if_pos c3]; exact Ev.now _) (fun c3 => by rw [if_neg c3]; exact Ev.now _)
      · rw [hw] at c2
        by_cases c4 : q.length = 0
        · rw [if_pos c4, if_neg (show ¬ m.length = 0 by omega)]; exact Ev.now _
        · rw [if_neg c4]; exact Ev.now _
    · rw [if_neg c]
      refine Ev.ite' (fun c1 => ?_) (fun c1 => by rw [if_neg (show ¬ (0 ≤ t ∧ t ≤ b) by omega)]; exact Ev.now _)
      refine Ev.ite' (fun c2 => ?_) (fun c2 => by rw [if_neg (show ¬ (0 ≤ t ∧ t ≤ b) by omega)]; exact Ev.now _)
      rw [if_pos (show 0 ≤ t ∧ t ≤ b by omega)]
      refine Ev.ite' (fun c3 => ?_) (fun c3 => by rw [if_neg (show ¬ (1 ≤ a ∧ a ≤ wrap64 (t + 1)) by omega)]; exact Ev.now _)
      refine Ev.ite' (fun c4 => ?_) (fun c4 => by rw [if_neg (show ¬ (1 ≤ a ∧ a ≤ wrap64 (t + 1)) by omega)]; exact Ev.now _)
      rw [if_pos (show 1 ≤ a ∧ a ≤ wrap64 (t + 1) by omega)]
      refine Ev.ite' (fun c5 => ?_) (fun c5 => ?_)
      · rw [if_neg (show ¬ p = 2 by omega)]; exact Ev.now _
      · rw [if_pos (show p = 2 by omega)]; exact Ev.now _
  | succ n ih =>
    intro i hn hi
    have hlt : i < q.length := by omega
    refine Ev.step (fun k => by simp only [impl_State_roundOk.l1]; rw [if_pos (by omega), if_pos (by omega), if_pos (by omega), wsucc hlt (by omega)]) ?_
    unfold qB
    refine Ev.ite' (fun c => ?_) (fun c => ?_)
    · simp only [if_pos c]; exact ih (i + 1) (by omega) (by omega)
    · simp only [if_neg c]; exact Ev.now _
theorem iM_loop (C : Bool) (hm : m.length ≤ 600) (hC : Ev (fun k => impl_State_roundOk.l1 k q (q.length : Int) 0 w nw g b T P L p q m t a n0) C) (n : Nat) : ∀ (i : Nat) (ks : List ByteArray), m.length - i = n → i ≤ m.length →
    Ev (fun k => impl_State_roundOk.l0 k m (m.length : Int) (i : Int) w nw g b T P L p q m t a n0 ks) (if mB w m n i ks = true then C else false) := by
  induction n with
  | zero =>
    intro i ks hn hi
    have e : (if mB w m 0 i ks = true then C else false) = C := if_pos rfl
    rw [e]
    refine Ev.step (fun k => ?_) hC
    simp only [impl_State_roundOk.l0]; rw [if_neg (by omega)]
  | succ n ih =>
    intro i ks hn hi
    have hlt : i < m.length := by omega
    have hj1 : Ev (fun k => impl_State_roundOk.j2 k m (m.length : Int) (i : Int) true w nw g b T P L p q m t a n0 ks) false := by
      refine Ev.step (f := fun _ => some false) (fun k => ?_) (Ev.now _)
      simp only [impl_State_roundOk.j2, if_true]
    have hj : ∀ c : Bool, Ev (fun k => impl_State_roundOk.j2 k m (m.length : Int) (i : Int) c w nw g b T P L p q m t a n0 ks) (if c = true then false else (if mB w m n (i + 1) (insS (rdOf ByteArray.empty m (i : Int)) ks) = true then C else false)) := fun c => by
      cases c with
      | true => exact hj1
      | false =>
        refine Ev.step (fun k => ?_) (ih (i + 1) _ (by omega) (by omega))
        simp only [impl_State_roundOk.j2]; rw [if_neg (by decide), wsucc hlt (by omega)]
    refine Ev.step (fun k => by simp only [impl_State_roundOk.l0]; rw [if_pos (by omega), if_pos (by omega), if_pos (by omega)]) ?_
    have e : (if mB w m (n + 1) i ks = true then C else false) = (if ((rdOf ByteArray.empty m (i : Int)).size : Int) = w then (if ks.contains (rdOf ByteArray.empty m (i : Int)) = true then false else (if mB w m n (i + 1) (insS (rdOf ByteArray.empty m (i : Int)) ks) = true then C else false)) else false) := by
      conv => lhs; unfold mB
      by_cases c1 : ((rdOf ByteArray.empty m (i : Int)).size : Int) = w
      · simp only [if_pos c1]
        cases ks.contains (rdOf ByteArray.empty m (i : Int)) <;> simp
      · simp only [if_neg c1]; rfl
    rw [e]
    refine Ev.ite' (fun c => by rw [if_pos c]; exact hj _) (fun c => by rw [if_neg c]; exact hj1)
theorem iRo_ev : Ev (fun k => impl_State_roundOk.f k w nw g b T P L p q m t a n0) (roundB w b p q m t a n0) := by
  have hj : Ev (fun k => impl_State_roundOk.j0 k true w nw g b T P L p q m t a n0) false := by
    refine Ev.step (f := fun _ => some false) (fun k => ?_) (Ev.now _)
    simp only [impl_State_roundOk.j0, if_true]
  unfold impl_State_roundOk.f roundB
  refine Ev.ite' (fun c => by rw [if_pos c]; exact hj) (fun c1 => ?_)
  rw [if_neg c1]
  refine Ev.ite' (fun c => by rw [if_pos c]; exact hj) (fun c2 => ?_)
  rw [if_neg c2]
  refine Ev.congr (fun k => by rw [iTime, Option.bind_some]) ?_
  refine Ev.ite' (fun c => ?_) (fun c => by rw [if_neg c]; exact hj)
  rw [if_pos c]
  refine Ev.ite' (fun c => by rw [if_neg (show ¬ q.length ≤ 23200 by omega)]; exact hj) (fun c3 => ?_)
  rw [if_pos (show q.length ≤ 23200 by omega)]
  by_cases c4 : (m.length : Int) > 600
  · rw [if_neg (show ¬ m.length ≤ 600 by omega)]
    exact Ev.congr (fun k => by rw [decide_eq_true c4]) hj
  · rw [if_pos (show m.length ≤ 600 by omega)]
    refine Ev.congr (fun k => by rw [decide_eq_false c4]) ?_
    refine Ev.step (fun k => by simp only [impl_State_roundOk.j0]; rw [if_neg (by decide)]) ?_
    exact iM_loop T P L w nw g b p q m t a n0 _ (by omega) (iQ_loop T P L w nw g b p q m t a n0 (by omega) (by omega) (by omega) q.length 0 (by omega) (by omega)) m.length 0 [] (by omega) (by omega)
theorem sM_loop (hp : 0 ≤ p ∧ p ≤ 2) (hm : m.length ≤ 600) (n : Nat) : ∀ (i : Nat) (ks : List ByteArray), m.length - i = n → i ≤ m.length → (∀ x, ks.contains x = hasB (m.take i) x) →
    Ev (fun k => spec_l6Ok.l1 k (i : Int) w nw g b T P L p q m t a n0) (if mB w m n i ks = true then endB b p q m t a else false) := by
  induction n with
  | zero =>
    intro i ks hn hi hk
    have e : (if mB w m 0 i ks = true then endB b p q m t a else false) = endB b p q m t a := if_pos rfl
    rw [e]
    refine Ev.step (fun k => by simp only [spec_l6Ok.l1]; rw [if_neg (by omega)]) ?_
    unfold endB
    refine Ev.ite' (fun c => ?_) (fun c => ?_)
    · rw [if_pos c]
      refine Ev.ite' (fun c2 => ?_) (fun c2 => by rw [if_neg (show ¬ q.length = 0 by omega)]; exact Ev.now _)
      rw [if_pos (show q.length = 0 by omega)]
      refine Ev.ite' (fun c2 => ?_) (fun c2 => by rw [if_neg (show ¬ m.length = 0 by omega)]; exact Ev.now _)
      rw [if_pos (show m.length = 0 by omega)]
      exact Ev.ite' (fun c3 => by rw [if_pos c3]; exact Ev.now _) (fun c3 => by rw [if_neg c3]; exact Ev.now _)
    · rw [if_neg c]
      refine Ev.congr (fun k => by rw [sRange, Option.bind_some]) ?_
      refine Ev.ite' (fun c1 => ?_) (fun c1 => by rw [if_neg (show ¬ (0 ≤ t ∧ t ≤ b) from fun h => c1 (decide_eq_true h))]; exact Ev.now _)
      rw [if_pos (show 0 ≤ t ∧ t ≤ b from of_decide_eq_true c1)]
      refine Ev.congr (fun k => by rw [sRange, Option.bind_some]) ?_
      refine Ev.ite' (fun c2 => ?_) (fun c2 => by rw [if_neg (show ¬ (1 ≤ a ∧ a ≤ wrap64 (t + 1)) from fun h => c2 (decide_eq_true h))]; exact Ev.now _)
      rw [if_pos (show 1 ≤ a ∧ a ≤ wrap64 (t + 1) from of_decide_eq_true c2)]
      exact Ev.ite' (fun c3 => by rw [if_pos c3]; exact Ev.now _) (fun c3 => by rw [if_neg c3]; exact Ev.now _)
  | succ n ih =>
    intro i ks hn hi hk
    have hlt : i < m.length := by omega
    refine Ev.step (fun k => by simp only [spec_l6Ok.l1]; rw [if_pos (by omega), if_pos (by omega), wsucc hlt (by omega)]) ?_
    have e : (if mB w m (n + 1) i ks = true then endB b p q m t a else false) = (if ((rdOf ByteArray.empty m (i : Int)).size : Int) = w then (if ks.contains (rdOf ByteArray.empty m (i : Int)) = true then false else (if mB w m n (i + 1) (insS (rdOf ByteArray.empty m (i : Int)) ks) = true then endB b p q m t a else false)) else false) := by
      conv => lhs; unfold mB
      by_cases c1 : ((rdOf ByteArray.empty m (i : Int)).size : Int) = w
      · simp only [if_pos c1]
        cases ks.contains (rdOf ByteArray.empty m (i : Int)) <;> simp
      · simp only [if_neg c1]; rfl
    rw [e]
    refine Ev.ite' (fun c => ?_) (fun c => by rw [if_neg c]; exact Ev.now _)
    rw [if_pos c]
    refine Ev.pos (by omega) ?_
    refine Ev.bind (sHas_ev _ _ (by rw [List.length_take]; omega)) ?_
    have e1 : (m.take ((i : Int)).toNat) = m.take i := by rw [Int.toNat_natCast]
    rw [e1, ← hk]
    refine Ev.ite' (fun c2 => by rw [if_pos c2]; exact Ev.now _) (fun c2 => ?_)
    rw [if_neg c2]
    refine ih (i + 1) _ (by omega) (by omega) (fun x => ?_)
    have hf := Bool.eq_false_iff.2 c2
    have e2 : insS (rdOf ByteArray.empty m (i : Int)) ks = rdOf ByteArray.empty m (i : Int) :: ks := by unfold insS; rw [hf]; rfl
    have e3 : m.take (i + 1) = m.take i ++ [rdOf ByteArray.empty m (i : Int)] := by rw [List.take_add_one, List.getElem?_eq_getElem hlt, rd_get ByteArray.empty m i hlt]; rfl
    rw [e2, e3, List.contains_cons, hk x]
    unfold hasB
    rw [List.any_append, Bool.or_comm]
    congr 1
    simp only [List.any_cons, List.any_nil, Bool.or_false]
    rw [Bool.eq_iff_iff, decide_eq_true_eq, ba_eq, beq_iff_eq]
    exact eq_comm
theorem sQ_loop (C : Bool) (hq : q.length ≤ 23200) (hC : Ev (fun k => spec_l6Ok.l1 k 0 w nw g b T P L p q m t a n0) C) (n : Nat) : ∀ i : Nat, q.length - i = n → i ≤ q.length →
    Ev (fun k => spec_l6Ok.l0 k (i : Int) w nw g b T P L p q m t a n0) (if qB w q n i = true then C else false) := by
  induction n with
  | zero =>
    intro i hn hi
    have e : (if qB w q 0 i = true then C else false) = C := if_pos rfl
    rw [e]
    refine Ev.step (fun k => ?_) hC
    simp only [spec_l6Ok.l0]; rw [if_neg (by omega)]
  | succ n ih =>
    intro i hn hi
    have hlt : i < q.length := by omega
    refine Ev.step (fun k => by simp only [spec_l6Ok.l0]; rw [if_pos (by omega), if_pos (by omega), wsucc hlt (by omega)]) ?_
    unfold qB
    refine Ev.ite' (fun c => ?_) (fun c => ?_)
    · simp only [if_pos c]; exact ih (i + 1) (by omega) (by omega)
    · simp only [if_neg c]; exact Ev.now _
theorem sRo_ev : Ev (fun k => spec_l6Ok.f k w nw g b T P L p q m t a n0) (roundB w b p q m t a n0) := by
  have hj : Ev (fun k => spec_l6Ok.j0 k true w nw g b T P L p q m t a n0) false := by
    refine Ev.step (f := fun _ => some false) (fun k => ?_) (Ev.now _)
    simp only [spec_l6Ok.j0, if_true]
  unfold spec_l6Ok.f roundB timeB
  refine Ev.ite' (fun c => by rw [if_pos c]; exact hj) (fun c1 => ?_)
  rw [if_neg c1]
  refine Ev.ite' (fun c => by rw [if_pos c]; exact hj) (fun c2 => ?_)
  rw [if_neg c2]
  refine Ev.congr (fun k => by rw [sRange, Option.bind_some]) ?_
  refine Ev.ite' (fun c => ?_) (fun c => by rw [if_neg c]; exact hj)
  rw [if_pos c]
  refine Ev.ite' (fun c => by rw [if_neg (show ¬ q.length ≤ 23200 by omega)]; exact hj) (fun c3 => ?_)
  rw [if_pos (show q.length ≤ 23200 by omega)]
  by_cases c4 : (m.length : Int) > 600
  · rw [if_neg (show ¬ m.length ≤ 600 by omega)]
    exact Ev.congr (fun k => by rw [decide_eq_true c4]) hj
  · rw [if_pos (show m.length ≤ 600 by omega)]
    refine Ev.congr (fun k => by rw [decide_eq_false c4]) ?_
    refine Ev.step (fun k => by simp only [spec_l6Ok.j0]; rw [if_neg (by decide)]) ?_
    have e : (if mB w m m.length 0 [] = true then (if qB w q q.length 0 = true then endB b p q m t a else false) else false) = (if qB w q q.length 0 = true then (if mB w m m.length 0 [] = true then endB b p q m t a else false) else false) := by
      cases mB w m m.length 0 [] <;> cases qB w q q.length 0 <;> simp
    rw [e]
    exact sQ_loop T P L w nw g b p q m t a n0 _ (by omega) (sM_loop T P L w nw g b p q m t a n0 (by omega) (by omega) m.length 0 [] (by omega) (by omega) (fun x => by rw [List.take_zero]; rfl)) q.length 0 (by omega) (by omega)
end
def vrB (w nw g b : Int) (T : List KT) (P : List PT) (L : List LT) (p : Int) (q m : List ByteArray) (t a n : Int) : Bool := if stB w nw g b T P L = true then roundB w b p q m t a n else false
theorem iVR_ev (w nw g b : Int) (T : List KT) (P : List PT) (L : List LT) (p : Int) (q m : List ByteArray) (t a n : Int) (hr : ∀ i, i < T.length → (rK T i).f2.f1.length ≤ 140737488351232) (hn0 : ∀ i, i < P.length → (rP P i).f0.size ≤ 140737488351232) :
    Ev (fun k => impl_ValidRound.f k w nw g b T P L p q m t a n) (vrB w nw g b T P L p q m t a n) := by
  unfold impl_ValidRound.f vrB
  refine Ev.bind (iVS_ev w nw g b T P L hr hn0) ?_
  refine Ev.ite' (fun c => ?_) (fun c => by rw [if_neg c]; exact Ev.now _)
  rw [if_pos c]
  exact Ev.bind (iRo_ev T P L w nw g b p q m t a n) (Ev.now _)
theorem sVR_ev (w nw g b : Int) (T : List KT) (P : List PT) (L : List LT) (p : Int) (q m : List ByteArray) (t a n : Int) (hr : ∀ i, i < T.length → (rK T i).f2.f1.length ≤ 140737488351232) (hn0 : ∀ i, i < P.length → (rP P i).f0.size ≤ 140737488351232) :
    Ev (fun k => spec_ValidRound.f k w nw g b T P L p q m t a n) (vrB w nw g b T P L p q m t a n) := by
  unfold spec_ValidRound.f vrB
  refine Ev.bind (sVS_ev w nw g b T P L hr hn0) ?_
  refine Ev.ite' (fun c => ?_) (fun c => by rw [if_neg c]; exact Ev.now _)
  rw [if_pos c]
  exact Ev.bind (sRo_ev T P L w nw g b p q m t a n) (Ev.now _)
end Go.Proofs.Ytcijlemojododaa.Q

/- The exact law of ValidRound comes to true. -/
namespace Go.Proofs.Ytcijlemojododaa.Q
open Go.RowKit Go.Proofs.Ytcijlemojododaa.P Go.Proofs.Ytcijlemojododaa.S Go.Proofs.YtcijlemojododaaW.PrintWords Go.Proofs.YtcijlemojododaaW.PrintLast Go.Proofs.YtcijlemojododaaW.PrintMore
set_option linter.unusedVariables false

/-! ### rounds -/
def rdH (q m : List ByteArray) : Prop := q.length ≤ 140737488351232 ∧ (∀ x ∈ q, x.size ≤ 140737488351232) ∧ m.length ≤ 140737488351232 ∧ (∀ x ∈ m, x.size ≤ 140737488351232)
def rdS (q m : List ByteArray) : Prop := q.length ≤ 1048576 ∧ m.length ≤ 1048576
theorem szRd_ep (p : Int) (q m : List ByteArray) (t a n : Int) (h : rdH q m) (z : Int) (h0 : 0 ≤ z) (h1 : z ≤ 1048576) : EP (fun k => laws_szRound.f k p q m t a n z) (fun r => left z r ∧ (0 ≤ r → rdS q m)) := by
  obtain ⟨k1, k2, k3, k4⟩ := h
  unfold laws_szRound.f
  refine EP.bind (EP.of (p := fun r => r = szS q z) (szS_ev q k1 k2 z h0 h1) rfl) (fun r hr => ?_)
  subst hr
  refine EP.ite (fun c => EP.ret ⟨left.neg h0, fun h => by omega⟩) (fun c => ?_)
  have e1 := szS_le (l := q) (a := z) (by omega)
  refine EP.bind (EP.of (p := fun r => r = szS m (szS q z)) (szS_ev m k3 k4 (szS q z) (by omega) (by omega)) rfl) (fun r hr => ?_)
  subst hr
  refine EP.ite (fun c2 => EP.ret ⟨left.neg h0, fun h => by omega⟩) (fun c2 => ?_)
  have e2 := szS_le (l := m) (a := szS q z) (by omega)
  exact EP.ret ⟨⟨by omega, by omega⟩, fun _ => ⟨by omega, by omega⟩⟩
theorem toRd_ev (p : Int) (q m : List ByteArray) (t a n : Int) (h : rdS q m) : Ev (fun k => laws_toRound.f k p q m t a n) (p, q, m, t, a, n) :=
  Ev.bind (toS_ev q (by have := h.1; omega)) (Ev.bind (toS_ev m (by have := h.2; omega)) (Ev.now _))
theorem eqRd_ev (p : Int) (q m : List ByteArray) (t a n : Int) (h : rdS q m) : Ev (fun k => laws_eqRound.f k p q m t a n p q m t a n) true := by
  refine Ev.congr (fun k => by unfold laws_eqRound.f; rw [if_pos rfl]) ?_
  refine Ev.bind (eqS_ev q (by have := h.1; omega)) (Ev.pos rfl (Ev.bind (eqS_ev m (by have := h.2; omega)) (Ev.pos rfl ?_)))
  exact Ev.congr (fun k => by rw [if_pos rfl, if_pos rfl, if_pos rfl]) (Ev.now _)
theorem rdH_all {q m : List ByteArray} (hz : ∀ n ∈ ([] : List Nat) ++ ((q.length * Try.prog.bytesOf 9 :: q.flatMap fun s : ByteArray => [s.size]) ++ ((m.length * Try.prog.bytesOf 9 :: m.flatMap fun s : ByteArray => [s.size]) ++ ([] ++ ([] ++ [])))), n ≤ 140737488351232) : rdH q m := by
  simp only [List.nil_append, List.append_nil] at hz
  have h1 := zS_le (P := Try.prog) (e := 9) (l := q) (of_decide_eq_true (by kernel_rfl)) fun n hn => hz n (List.mem_append_left _ hn)
  have h2 := zS_le (P := Try.prog) (e := 9) (l := m) (of_decide_eq_true (by kernel_rfl)) fun n hn => hz n (List.mem_append_right _ hn)
  exact ⟨h1.1, h1.2, h2.1, h2.2⟩
theorem validRound_pure (w nw g b : Int) (T : List KA) (P : List PA) (L : List LA) (p : Int) (q m : List ByteArray) (t a n : Int) (h : stH T P L) (h2 : rdH q m) : Ev (fun k => laws_FnExactValidRound.f k w nw g b T P L p q m t a n) true := by
  refine ep_true ?_
  unfold laws_FnExactValidRound.f
  refine EP.bind (szSt_ep w nw g b T P L h 1048576 (by omega) (by omega)) (fun r hr => ?_)
  refine EP.ite (fun _ => EP.ret rfl) (fun c => ?_)
  have hs := hr.2 (by omega)
  have hl := hr.1
  refine EP.bind (szRd_ep p q m t a n h2 r (by omega) hl.2) (fun r2 hr2 => ?_)
  refine EP.ite (fun _ => EP.ret rfl) (fun c2 => ?_)
  have hs2 := hr2.2 (by omega)
  refine EP.of ?_ rfl
  have e1 := toSt_ev w nw g b T P L hs
  have e2 := toRd_ev p q m t a n hs2
  refine Ev.bind e1 (Ev.bind e2 ?_)
  refine Ev.bind (sVR_ev w nw g b (T.map cvK) (P.map cvP) (L.map cvL) p q m t a n (stS_refs hs) (stS_names hs)) ?_
  refine Ev.bind e1 (Ev.bind e2 ?_)
  refine Ev.bind (iVR_ev w nw g b (T.map cvK) (P.map cvP) (L.map cvL) p q m t a n (stS_refs hs) (stS_names hs)) ?_
  refine Ev.neg (by simp) ?_
  refine Ev.bind e1 (Ev.bind (eqSt_ev w nw g b T P L hs) (Ev.pos rfl ?_))
  exact Ev.bind e2 (Ev.bind (eqRd_ev p q m t a n hs2) (Ev.pos rfl (Ev.now _)))
theorem validRound_all (w nw g b : Int) (T : List KA) (P : List PA) (L : List LA) (p : Int) (q m : List ByteArray) (t a n : Int)
    (hz : ∀ n ∈ ([] : List Nat) ++ ([] ++ ([] ++ ([] ++ ((T.length * Try.prog.bytesOf 130 :: T.flatMap fun x : KA => [x.f0.size] ++ ([] ++ ([x.f2.f0.size] ++ (x.f2.f1.length * Try.prog.bytesOf 9 :: x.f2.f1.flatMap fun s : ByteArray => [s.size])))) ++
      ((P.length * Try.prog.bytesOf 132 :: P.flatMap fun x : PA => [x.f0.size] ++ [x.f1.size]) ++ (L.length * Try.prog.bytesOf 134 :: L.flatMap fun x : LA => [] ++ ([x.f1.size] ++ []))))))), n ≤ 140737488351232)
    (hz2 : ∀ n ∈ ([] : List Nat) ++ ((q.length * Try.prog.bytesOf 9 :: q.flatMap fun s : ByteArray => [s.size]) ++ ((m.length * Try.prog.bytesOf 9 :: m.flatMap fun s : ByteArray => [s.size]) ++ ([] ++ ([] ++ [])))), n ≤ 140737488351232) :
    Ev (fun k => laws_FnExactValidRound.f k w nw g b T P L p q m t a n) true := validRound_pure w nw g b T P L p q m t a n (stH_all hz) (rdH_all hz2)
end Go.Proofs.Ytcijlemojododaa.Q
