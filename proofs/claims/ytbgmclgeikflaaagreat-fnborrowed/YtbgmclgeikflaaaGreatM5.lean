/- Plain laws over the walks' closed forms. -/
import Derived.IntWalk
import Derived.WideShapes
import Derived.Laws.Strings
import Derived.Test.YtbgmclgeikflaaaGreatM1
import Derived.Test.YtbgmclgeikflaaaGreatM2
import Derived.Test.YtbgmclgeikflaaaGreatM3
import Derived.Test.YtbgmclgeikflaaaGreatM4
set_option linter.unusedSimpArgs false
set_option linter.unusedVariables false
set_option linter.unusedSectionVars false
section
namespace KV
open Go Go.Eng
abbrev Bs := ByteArray
theorem w64 {n : Int} (h : -9223372036854775808 ≤ n ∧ n ≤ 9223372036854775807) : IntKind.i64.wrap n = n := IntWalk.i64_in n h
theorem w8 {n : Int} (h : 0 ≤ n ∧ n ≤ 255) : IntKind.u8.wrap n = n := IntWalk.u8_in n h
theorem inb_f {i : Int} {n : Nat} (h : i < 0 ∨ (n : Int) ≤ i) : inb i n = false := by
  simp only [inb, Bool.and_eq_false_iff, decide_eq_false_iff_not]; omega
theorem dlt_f {i n : Nat} (h : n ≤ i) : decide ((i : Int) < (n : Int)) = false := by simp; omega
theorem zb3 (n : Nat) : (n : Int).toNat = n := Int.toNat_natCast n
theorem ze2 (x y : Bs) : Eng.seq x y = decide (x = y) := by
  unfold Eng.seq
  rw [ByteArray.toList_eq, ByteArray.toList_eq]
  by_cases h : x = y
  · subst h; simp
  · simp only [h, decide_false, beq_eq_false_iff_ne]
    exact fun e => h (Go.WideShapes.bytes_inj e)
theorem zi4 : ∀ x : List UInt8, Op.bytesLess x x = false
  | [] => rfl
  | a :: x => by simp [Op.bytesLess, zi4 x]
theorem zm1 : ∀ {x y z : List UInt8}, Op.bytesLess x y = true → Op.bytesLess y z = true → Op.bytesLess x z = true
  | [], [], _, h, _ => by simp [Op.bytesLess] at h
  | [], _ :: _, [], _, h => by simp [Op.bytesLess] at h
  | [], _ :: _, _ :: _, _, _ => rfl
  | _ :: _, [], _, h, _ => by simp [Op.bytesLess] at h
  | _ :: _, _ :: _, [], _, h => by simp [Op.bytesLess] at h
  | a :: x, b :: y, c :: z, h, k => by
    simp only [Op.bytesLess, Bool.or_eq_true, decide_eq_true_eq, Bool.and_eq_true, beq_iff_eq] at h k ⊢
    rcases h with h | ⟨rfl, h⟩ <;> rcases k with k | ⟨rfl, k⟩
    · exact .inl (UInt8.lt_trans h k)
    · exact .inl h
    · exact .inl k
    · exact .inr ⟨rfl, zm1 h k⟩
theorem zj0 : ∀ (x y : List UInt8), Op.bytesLess x y = true ∨ x = y ∨ Op.bytesLess y x = true
  | [], [] => .inr (.inl rfl)
  | [], _ :: _ => .inl rfl
  | _ :: _, [] => .inr (.inr rfl)
  | a :: x, b :: y => by
    simp only [Op.bytesLess, Bool.or_eq_true, decide_eq_true_eq, Bool.and_eq_true, beq_iff_eq, List.cons.injEq]
    rcases zj0 x y with h | h | h
    · rcases Nat.lt_trichotomy a.toNat b.toNat with k | k | k
      · exact .inl (.inl (UInt8.lt_iff_toNat_lt.2 k))
      · exact .inl (.inr ⟨UInt8.toNat_inj.1 k, h⟩)
      · exact .inr (.inr (.inl (UInt8.lt_iff_toNat_lt.2 k)))
    · rcases Nat.lt_trichotomy a.toNat b.toNat with k | k | k
      · exact .inl (.inl (UInt8.lt_iff_toNat_lt.2 k))
      · exact .inr (.inl ⟨UInt8.toNat_inj.1 k, h⟩)
      · exact .inr (.inr (.inl (UInt8.lt_iff_toNat_lt.2 k)))
    · rcases Nat.lt_trichotomy a.toNat b.toNat with k | k | k
      · exact .inl (.inl (UInt8.lt_iff_toNat_lt.2 k))
      · exact .inr (.inr (.inr ⟨(UInt8.toNat_inj.1 k).symm, h⟩))
      · exact .inr (.inr (.inl (UInt8.lt_iff_toNat_lt.2 k)))
theorem zdt (x : Bs) : slt x x = false := zi4 _
theorem zbq {x y z : Bs} (h : slt x y = true) (k : slt y z = true) : slt x z = true := zm1 h k
theorem ztj (x y : Bs) : slt x y = true ∨ x = y ∨ slt y x = true := by
  rcases zj0 x.toList y.toList with h | h | h
  · exact .inl h
  · rw [ByteArray.toList_eq, ByteArray.toList_eq] at h; exact .inr (.inl (Go.WideShapes.bytes_inj h))
  · exact .inr (.inr h)
theorem zrd {x y : Bs} (h : slt x y = true) : x ≠ y := fun e => by rw [e, zdt] at h; cases h
theorem zta {x y : Bs} (h : slt x y = true) : slt y x = false := by
  cases k : slt y x
  · rfl
  · have := zbq h k; rw [zdt] at this; cases this
theorem zh9 {x y : Bs} : slt x y = false ↔ x = y ∨ slt y x = true := by
  constructor
  · intro h; rcases ztj x y with k | k | k
    · rw [h] at k; cases k
    · exact .inl k
    · exact .inr k
  · rintro (rfl | h)
    · exact zdt _
    · exact zta h
theorem zhy {α : Type} (f : α → List C) (l : List α) (i o : Nat) (h : i < l.length) : rd (l.map f) i o = (f l[i]).getD o (.i 0) := by
  simp [rd, List.getD_eq_getElem?_getD, h]
theorem zf8 {α : Type} (f : α → List C) (l : List α) (a b : Nat) : Eng.sub (l.map f) a b = ((l.drop a).take (b - a)).map f := by
  simp [Eng.sub, List.map_take, List.map_drop]
def encS (l : List Bs) : Rw := l.map fun s => [.s s]
theorem z4 (l : List Bs) : (encS l).length = l.length := by simp [encS]
theorem zn (l m : List Bs) : encS l ++ encS m = encS (l ++ m) := by simp [encS]
theorem zcy (l : List Bs) (a b : Nat) : Eng.sub (encS l) a b = encS ((l.drop a).take (b - a)) := zf8 _ _ _ _
theorem z7 (s : Bs) : ([[C.s s]] : Rw) = encS [s] := rfl
@[push_cast] theorem cpos {p : Prop} [Decidable p] {α : Type} {a b : α} (h : p) : cond (decide p) a b = a := by simp [h]
@[push_cast] theorem cneg {p : Prop} [Decidable p] {α : Type} {a b : α} (h : ¬ p) : cond (decide p) a b = b := by simp [h]
@[push_cast] theorem cnot {α : Type} (c : Bool) (a b : α) : cond (!c) a b = cond c b a := by cases c <;> rfl
attribute [push_cast] cond_true cond_false Option.bind_some Option.bind_none Int.toNat_natCast
@[push_cast] theorem notT : (!true) = false := Eq.trans rfl rfl
@[push_cast] theorem notF : (!false) = true := Eq.trans rfl rfl
@[push_cast] theorem g0 (a : Lf) (l : List Lf) : g (a :: l) 0 = a := Eq.trans rfl rfl
@[push_cast] theorem g1 (a b : Lf) (l : List Lf) : g (a :: b :: l) 1 = b := Eq.trans rfl rfl
@[push_cast] theorem g2 (a b c : Lf) (l : List Lf) : g (a :: b :: c :: l) 2 = c := Eq.trans rfl rfl
@[push_cast] theorem g3 (a b c d : Lf) (l : List Lf) : g (a :: b :: c :: d :: l) 3 = d := Eq.trans rfl rfl
@[push_cast] theorem g4 (a b c d e : Lf) (l : List Lf) : g (a :: b :: c :: d :: e :: l) 4 = e := Eq.trans rfl rfl
@[push_cast] theorem g5 (a b c d e f : Lf) (l : List Lf) : g (a :: b :: c :: d :: e :: f :: l) 5 = f := Eq.trans rfl rfl
@[push_cast] theorem g6 (a b c d e f h : Lf) (l : List Lf) : g (a :: b :: c :: d :: e :: f :: h :: l) 6 = h := Eq.trans rfl rfl
@[push_cast] theorem gS (a b c d e f h : Lf) (l : List Lf) (n : Nat) : g (a :: b :: c :: d :: e :: f :: h :: l) (n + 7) = g l n := Eq.trans rfl rfl
@[push_cast] theorem lfI (n : Int) : (Lf.i n).int = n := Eq.trans rfl rfl
@[push_cast] theorem lfB (n : Bool) : (Lf.b n).bool = n := Eq.trans rfl rfl
@[push_cast] theorem lfS (n : ByteArray) : (Lf.s n).str = n := Eq.trans rfl rfl
@[push_cast] theorem lfL (n : Rw) : (Lf.l n).list = n := Eq.trans rfl rfl
@[push_cast] theorem lfM (n : List (C × C)) : (Lf.m n).map = n := Eq.trans rfl rfl
attribute [push_cast] w64 w8
@[push_cast] theorem inbp {i : Int} {n : Nat} (h : 0 ≤ i ∧ i < (n : Int)) : inb i n = true := by simp [inb, h]
@[push_cast] theorem inbn {i : Int} {n : Nat} (h : ¬ (0 ≤ i ∧ i < (n : Int))) : inb i n = false := inb_f (by omega)
@[push_cast] theorem tnA (i : Nat) : ((i : Int) + 1).toNat = i + 1 := by omega
@[push_cast] theorem tnM (i : Nat) : ((i : Int) - 1).toNat = i - 1 := by omega
@[push_cast] theorem bneI (a b : Int) : (a != b) = !decide (a = b) := by
  by_cases h : a = b
  · subst h; simp
  · simp [h]
@[push_cast] theorem beqI (a b : Int) : (a == b) = decide (a = b) := by
  by_cases h : a = b
  · subst h; simp
  · simp [h]
attribute [push_cast] ze2 z4
@[push_cast] theorem lenC {α : Type} (a : α) (l : List α) : (a :: l).length = l.length + 1 := Eq.trans rfl rfl
@[push_cast] theorem lenN {α : Type} : ([] : List α).length = 0 := Eq.trans rfl rfl
@[push_cast] theorem ifT {α : Type} (a b : α) : (if True then a else b) = a := if_pos trivial
@[push_cast] theorem ifF {α : Type} (a b : α) : (if False then a else b) = b := if_neg id
@[push_cast] theorem ftE : (false = true) = False := by simp
attribute [push_cast] eq_self
@[push_cast] theorem decT [Decidable True] : decide True = true := by simp
@[push_cast] theorem decF [Decidable False] : decide False = false := by simp
def nth {α : Type} (d : α) (l : List α) (i : Nat) : α := l.getD i d
theorem zit {α : Type} (d x : α) (l : List α) : nth d (x :: l) 0 = x := rfl
theorem zc9 {α : Type} (d x : α) (l : List α) (i : Nat) : nth d (x :: l) (i + 1) = nth d l i := rfl
theorem zm {α : Type} (d : α) (l : List α) (i : Nat) (h : i < l.length) : nth d l i = l[i] := by
  unfold nth; rw [List.getD_eq_getElem?_getD, List.getElem?_eq_getElem h]; rfl
theorem zrq {α : Type} {d : α} {l : List α} {i : Nat} (h : i < l.length) : l[i]? = some (nth d l i) := by
  rw [zm d l i h, List.getElem?_eq_getElem h]
theorem zi {α : Type} {l : List α} {i : Nat} {d : α} (h : i < l.length) : nth d l i ∈ l := by
  rw [zm d l i h]; exact List.getElem_mem h
theorem z9 {α : Type} {l : List α} {x : α} (d : α) (h : x ∈ l) : ∃ i, i < l.length ∧ nth d l i = x := by
  obtain ⟨i, h1, h2⟩ := List.mem_iff_getElem.1 h
  exact ⟨i, h1, by rw [zm d l i h1]; exact h2⟩
theorem zc8 {α : Type} (d : α) {l : List α} {i : Nat} (h : i < l.length) : l.drop i = nth d l i :: l.drop (i + 1) := by
  rw [List.drop_eq_getElem_cons h, zm d l i h]
theorem zbb {α : Type} (d : α) {l : List α} {i : Nat} (h : i < l.length) : l.take (i + 1) = l.take i ++ [nth d l i] := by
  rw [List.take_add_one, zrq (d := d) h]; rfl
theorem zg0 {α : Type} (f : α → List C) (d : α) (l : List α) (i o : Nat) (h : i < l.length) : rd (l.map f) i o = (f (nth d l i)).getD o (.i 0) := by
  rw [zhy f l i o h, zm d l i h]
theorem zie {α : Type} (f : α → List C) (l : List α) (i o : Nat) (h : l.length ≤ i) : rd (l.map f) i o = .i 0 := by
  have : (l.map f).getD i [] = [] := by
    rw [List.getD_eq_getElem?_getD, List.getElem?_eq_none (by simpa using h)]; rfl
  unfold rd
  rw [this]; rfl
@[push_cast] theorem zvs (l : List Bs) (i : Nat) : (rd (encS l) i 0).str = nth .empty l i := by
  rcases Nat.lt_or_ge i l.length with h | h
  · rw [encS, zg0 _ .empty _ _ _ h]; rfl
  · rw [encS, zie _ _ _ _ h, nth, List.getD_eq_getElem?_getD, List.getElem?_eq_none h]; rfl
end KV
end
section

end
section
namespace KV
open Go Go.Eng
open Classical in
theorem zu {β : Type} {f : Nat → β} {P : Nat → Prop} {n : Nat} {T F : β} (step : ∀ i, i < n → (P i → f i = f (i + 1)) ∧ (¬ P i → f i = F)) (last : f n = T) :
    ∀ i, i ≤ n → f i = if (∀ j, i ≤ j → j < n → P j) then T else F := by
  intro i hi
  generalize hk : n - i = k
  induction k generalizing i with
  | zero =>
    have : i = n := by omega
    subst this
    rw [if_pos (fun j h1 h2 => absurd h2 (by omega)), last]
  | succ k ih =>
    have hlt : i < n := by omega
    by_cases h : P i
    · rw [(step i hlt).1 h, ih (i + 1) (by omega) (by omega)]
      by_cases h2 : ∀ j, i + 1 ≤ j → j < n → P j
      · rw [if_pos h2, if_pos fun j h3 h4 => by
          rcases Nat.eq_or_lt_of_le h3 with rfl | h5
          · exact h
          · exact h2 j h5 h4]
      · rw [if_neg h2, if_neg fun h3 => h2 fun j h4 h5 => h3 j (by omega) h5]
    · rw [(step i hlt).2 h, if_neg fun h3 => h (h3 i (Nat.le_refl _) hlt)]
theorem zmh {β σ : Type} {f : Nat → σ → β} {g : Nat → σ → σ} {n : Nat} (step : ∀ i s, i < n → f i s = f (i + 1) (g i s)) :
    ∀ i, i ≤ n → ∀ s, f i s = f n ((List.range' i (n - i)).foldl (fun s i => g i s) s) := by
  intro i hi
  generalize hk : n - i = k
  induction k generalizing i with
  | zero =>
    intro s
    have : i = n := by omega
    subst this; rfl
  | succ k ih =>
    intro s
    rw [step i s (by omega), ih (i + 1) (by omega) (by omega)]
    rfl
theorem z6 {β σ : Type} {f : Nat → σ → β} {I : Nat → σ → Prop} {n : Nat} {T : β} (step : ∀ i s, i < n → I i s → ∃ s', f i s = f (i + 1) s' ∧ I (i + 1) s') (last : ∀ s, I n s → f n s = T) :
    ∀ i s, i ≤ n → I i s → f i s = T := by
  intro i s hi
  generalize hk : n - i = k
  induction k generalizing i s with
  | zero =>
    intro h
    have : i = n := by omega
    subst this; exact last s h
  | succ k ih =>
    intro h
    obtain ⟨s', h1, h2⟩ := step i s (by omega) h
    rw [h1]; exact ih (i + 1) s' (by omega) (by omega) h2
theorem zgk {β σ : Type} {f : Nat → σ → β} {I : Nat → σ → Prop} {n : Nat} {T : β → Prop} (step : ∀ i s, i < n → I i s → (∃ s', f i s = f (i + 1) s' ∧ I (i + 1) s') ∨ T (f i s)) (last : ∀ s, I n s → T (f n s)) :
    ∀ i s, i ≤ n → I i s → T (f i s) := by
  intro i s hi
  generalize hk : n - i = k
  induction k generalizing i s with
  | zero =>
    intro h
    have : i = n := by omega
    subst this; exact last s h
  | succ k ih =>
    intro h
    rcases step i s (by omega) h with ⟨s', h1, h2⟩ | h1
    · rw [h1]; exact ih (i + 1) s' (by omega) (by omega) h2
    · exact h1
theorem zbt (xs ys : Rw) : bytesOf (xs ++ ys) = bytesOf xs ++ bytesOf ys := by
  apply Go.WideShapes.bytes_inj
  simp [bytesOf, ByteArray.data_append]
theorem zda (s : Bs) : bytesOf (rowsOf s) = s := by
  apply Go.WideShapes.bytes_inj
  simp only [bytesOf, rowsOf, List.map_map]
  rw [show ((fun r : List C => UInt8.ofNat (r.getD 0 (.i 0)).int.toNat) ∘ fun b : UInt8 => [C.i (b.toNat : Int)]) = id from funext fun b => by simp only [Function.comp, List.getD_cons_zero, C.int, Int.toNat_natCast, UInt8.ofNat_toNat, id]]
  simp only [List.map_id, Array.toArray_toList]
theorem zcr (xs : Rw) : (bytesOf xs).size = xs.length := by
  show (xs.map _).toArray.size = _
  simp only [List.size_toArray, List.length_map]
theorem zep (s : Bs) : (rowsOf s).length = s.size := by
  show (s.data.toList.map _).length = s.data.size
  simp only [List.length_map, Array.length_toList]
theorem zw (s : Bs) (n : Nat) : 0 ≤ byteAt s n ∧ byteAt s n < 256 := by
  unfold byteAt
  generalize s.data.getD n 0 = b
  have := b.toNat_lt
  omega
theorem size_extract (s : Bs) (a b : Nat) : (s.extract a b).size = min b s.size - a := ByteArray.size_extract
theorem z5 (s t : Bs) : (s ++ t).size = s.size + t.size := ByteArray.size_append
theorem zsx {s : Bs} : s.size = 0 ↔ s = (⟨#[]⟩ : Bs) := by
  constructor
  · intro h
    apply Go.WideShapes.bytes_inj
    have h : s.data.size = 0 := h
    have := Array.eq_empty_of_size_eq_zero h
    rw [this]
  · rintro rfl; rfl
end KV
end
section
namespace KV
open Go Go.Eng
open Classical
def zj (w : Int) : Bool := decide (1 ≤ w) && decide (w ≤ 8)
theorem zz {w : Int} : zj w = true ↔ 1 ≤ w ∧ w ≤ 8 := by simp [zj]
theorem zd8 (w : Int) : Lqbc none [.i w] = some [.b (zj w)] := by
  rw [eqbc_i]; unfold zj
  cases decide (1 ≤ w) <;> rfl
theorem zq (w : Int) : Lqh none [.i w] = some [.b (zj w)] := by
  rw [eqh_i]; unfold zj
  cases decide (1 ≤ w) <;> rfl
structure Thing where
  text : Bs
  refs : List Bs
def Asc (l : List Bs) : Prop := l.Pairwise fun a b => slt a b = true
theorem zot (l : List Bs) : Asc l ↔ ∀ j, 0 < j → j < l.length → slt (nth .empty l (j - 1)) (nth .empty l j) = true := by
  induction l with
  | nil => exact ⟨fun _ j _ h => absurd h (by simp), fun _ => List.Pairwise.nil⟩
  | cons a l ih =>
    unfold Asc at ih ⊢
    rw [List.pairwise_cons, ih]
    constructor
    · rintro ⟨h1, h2⟩ j hj hl
      cases j with
      | zero => omega
      | succ j =>
        simp only [Nat.add_sub_cancel, zc9]
        cases j with
        | zero =>
          simp only [List.length_cons] at hl
          exact h1 _ (zi (by omega))
        | succ j =>
          simp only [zc9]
          simp only [List.length_cons] at hl
          exact h2 (j + 1) (by omega) (by omega)
    · intro h
      have h2 : ∀ j, 0 < j → j < l.length → slt (nth .empty l (j - 1)) (nth .empty l j) = true := fun j hj hl => by
        have := h (j + 1) (by omega) (by simp; omega)
        cases j with
        | zero => omega
        | succ j => simpa [zc9, zit] using this
      refine ⟨fun b hb => ?_, h2⟩
      obtain ⟨i, hi, rfl⟩ := z9 .empty hb
      clear hb
      induction i with
      | zero => have := h 1 (by omega) (by simp; omega); simpa [zc9, zit] using this
      | succ i ihi => exact zbq (ihi (by omega)) (h2 (i + 1) (by omega) hi)
structure ThingOk (t : Thing) (w : Int) : Prop where
  wd : 1 ≤ w ∧ w ≤ 8
  text : t.text.size ≤ 2000
  refs : t.refs.length ≤ 30
  size : ∀ r ∈ t.refs, (r.size : Int) = w
  asc : Asc t.refs
noncomputable def zba (t : Thing) (w : Int) : Bool := decide (ThingOk t w)
theorem zcs {t : Thing} {w : Int} : zba t w = true ↔ ThingOk t w := by simp [zba]
def refP (l : List Bs) (w : Int) (j : Nat) : Prop := ((nth .empty l j).size : Int) = w ∧ (0 < j → slt (nth .empty l (j - 1)) (nth .empty l j) = true)
theorem zre (l : List Bs) (w : Int) : (∀ j, 0 ≤ j → j < l.length → refP l w j) ↔ (∀ r ∈ l, (r.size : Int) = w) ∧ Asc l := by
  rw [zot]
  constructor
  · intro h
    refine ⟨fun r hr => ?_, fun j h1 h2 => (h j (by omega) h2).2 h1⟩
    obtain ⟨i, hi, rfl⟩ := z9 .empty hr
    exact (h i (by omega) hi).1
  · rintro ⟨h1, h2⟩ j _ hj
    exact ⟨h1 _ (zi hj), fun h => h2 j h hj⟩
theorem zp3 (l : List Bs) (x : Bs) (w : Int) (hl : l.length ≤ 30) : ∀ i : Nat, i ≤ l.length →
    Lqbi (some 4) [.i w, .l (encS l), .i (l.length : Int), .i (i : Int), .s x, .l (encS l)] = if (∀ j, i ≤ j → j < l.length → refP l w j) then some [.b (zj w)] else some [.b false] := by
  refine zu (f := fun i : Nat => Lqbi (some 4) [.i w, .l (encS l), .i (l.length : Int), .i (i : Int), .s x, .l (encS l)]) (fun i hi => ?_) ?_
  · show (_ → Lqbi _ _ = _) ∧ (_ → Lqbi _ _ = _)
    rw [eqbi_4]
    unfold refP
    by_cases h0 : 0 < i <;> by_cases h1 : ((nth .empty l i).size : Int) = w <;> simp (disch := omega) only [push_cast]
    · cases slt (nth .empty l (i - 1)) (nth .empty l i) <;> simp [h0, h1]
    · simp [h1]
    · simp [h0, h1]
    · simp [h1]
  · show Lqbi _ _ = _
    rw [eqbi_4]; simp (disch := omega) only [push_cast, zd8]
theorem zd6 (t : Thing) (w : Int) : ThingOk t w ↔ zj w = true ∧ t.text.size ≤ 2000 ∧ t.refs.length ≤ 30 ∧ ∀ j, 0 ≤ j → j < t.refs.length → refP t.refs w j := by
  rw [zre, zz]
  exact ⟨fun h => ⟨h.wd, h.text, h.refs, h.size, h.asc⟩, fun h => ⟨h.1, h.2.1, h.2.2.1, h.2.2.2.1, h.2.2.2.2⟩⟩
theorem zl5 (t : Thing) (w : Int) : Lqbi none [.s t.text, .l (encS t.refs), .i w] = some [.b (zba t w)] := by
  rw [eqbi_i, z4]
  by_cases h1 : t.text.size ≤ 2000
  · by_cases h2 : t.refs.length ≤ 30
    · rw [show decide ((2000 : Int) < (t.text.size : Int)) = false by simp; omega, show decide ((30 : Int) < (t.refs.length : Int)) = false by simp; omega]
      simp only [cond_false]
      have := zp3 t.refs t.text w h2 0 (Nat.zero_le _)
      rw [show ((0 : Nat) : Int) = 0 from rfl] at this
      rw [this]
      unfold zba
      by_cases h3 : ∀ j, 0 ≤ j → j < t.refs.length → refP t.refs w j
      · rw [if_pos h3]; congr 3
        cases hw : zj w
        · exact (decide_eq_false fun h => by rw [zd6, hw] at h; cases h.1).symm
        · exact (decide_eq_true ((zd6 t w).2 ⟨hw, h1, h2, h3⟩)).symm
      · rw [if_neg h3, decide_eq_false fun h => h3 ((zd6 t w).1 h).2.2.2]
    · rw [show decide ((2000 : Int) < (t.text.size : Int)) = false by simp; omega, show decide ((30 : Int) < (t.refs.length : Int)) = true by simp; omega]
      simp only [cond_false, cond_true]
      unfold zba
      rw [decide_eq_false fun h => h2 h.refs]
  · rw [show decide ((2000 : Int) < (t.text.size : Int)) = true by simp; omega]
    simp only [cond_true]
    unfold zba
    rw [decide_eq_false fun h => h1 h.text]
theorem ztf (l : List Bs) (x : Bs) (w : Int) (hl : l.length ≤ 30) : ∀ i : Nat, i ≤ l.length →
    Lq6 (some 4) [.i w, .i (i : Int), .s x, .l (encS l)] = if (∀ j, i ≤ j → j < l.length → refP l w j) then some [.b true] else some [.b false] := by
  refine zu (f := fun i : Nat => Lq6 (some 4) [.i w, .i (i : Int), .s x, .l (encS l)]) (fun i hi => ?_) ?_
  · show (_ → Lq6 _ _ = _) ∧ (_ → Lq6 _ _ = _)
    rw [eq6_4]
    unfold refP
    by_cases h0 : 0 < i <;> by_cases h1 : ((nth .empty l i).size : Int) = w <;> simp (disch := omega) only [push_cast]
    · cases slt (nth .empty l (i - 1)) (nth .empty l i) <;> simp [h0, h1]
    · simp [h1]
    · simp [h0, h1]
    · simp [h1]
  · show Lq6 _ _ = _
    rw [eq6_4]; simp (disch := omega) only [push_cast]
theorem zc0 (t : Thing) (w : Int) : Lq6 none [.s t.text, .l (encS t.refs), .i w] = some [.b (zba t w)] := by
  rw [eq6_i, zq, z4]
  simp only [Option.bind_some, g, List.getD_cons_zero, Lf.bool]
  unfold zba
  cases hw : zj w
  · simp (disch := omega) only [push_cast]; rw [decide_eq_false (p := ThingOk t w) fun h => by rw [zd6, hw] at h; cases h.1]
  by_cases h1 : t.text.size ≤ 2000
  · by_cases h2 : t.refs.length ≤ 30
    · rw [show decide ((2000 : Int) < (t.text.size : Int)) = false by simp; omega, show decide ((30 : Int) < (t.refs.length : Int)) = false by simp; omega]
      simp only [cond_false, Bool.not_true]
      have := ztf t.refs t.text w h2 0 (Nat.zero_le _)
      rw [show ((0 : Nat) : Int) = 0 from rfl] at this
      rw [this]
      by_cases h3 : ∀ j, 0 ≤ j → j < t.refs.length → refP t.refs w j
      · rw [if_pos h3, decide_eq_true ((zd6 t w).2 ⟨hw, h1, h2, h3⟩)]
      · rw [if_neg h3, decide_eq_false fun h => h3 ((zd6 t w).1 h).2.2.2]
    · rw [show decide ((2000 : Int) < (t.text.size : Int)) = false by simp; omega, show decide ((30 : Int) < (t.refs.length : Int)) = true by simp; omega]
      simp only [cond_false, cond_true, Bool.not_true]
      rw [decide_eq_false fun h => h2 h.refs]
  · rw [show decide ((2000 : Int) < (t.text.size : Int)) = true by simp; omega]
    simp only [cond_true, cond_false, Bool.not_true]
    rw [decide_eq_false fun h => h1 h.text]
theorem zgq (n : Int) : IntKind.u64.wrap n = n % 18446744073709551616 := by simp [IntKind.wrap, IntKind.bits, IntKind.signed]
def step1 (h b : Int) : Int := IntKind.u64.wrap ((IntKind.u64.wrap (BitVec.ofInt (IntKind.u64).bits h ^^^ BitVec.ofInt (IntKind.u64).bits (IntKind.u64.wrap b)).toNat) * 1099511628211)
def hash (s : Bs) : Int := (List.range' 0 s.size).foldl (fun h i => step1 h (byteAt s i)) 14695981039346656037
def digs : Nat → Int → List Int
  | 0, _ => []
  | n + 1, h => digs n (h / 256) ++ [h % 256]
theorem zjm : ∀ n h, (digs n h).length = n
  | 0, _ => rfl
  | n + 1, h => by simp [digs, zjm n]
def rowI (l : List Int) : Rw := l.map fun d => [.i d]
noncomputable def sumM (s : Bs) (w : Int) : Bs := if zj w = true then bytesOf (rowI (digs w.toNat (hash s))) else ⟨#[]⟩
theorem zlj {s : Bs} {w : Int} (h : zj w = true) : ((sumM s w).size : Int) = w := by
  rw [sumM, if_pos h, zcr, rowI, List.length_map, zjm]
  have := zz.1 h; omega
theorem zqj (n : Int) : 0 ≤ IntKind.u64.wrap n ∧ IntKind.u64.wrap n < 18446744073709551616 := by rw [zgq]; omega
theorem zj3 (s : Bs) : 0 ≤ hash s ∧ hash s < 18446744073709551616 := by
  unfold hash
  generalize List.range' 0 s.size = l
  have : ∀ (l : List Nat) (h : Int), (0 ≤ h ∧ h < 18446744073709551616) → 0 ≤ l.foldl (fun h i => step1 h (byteAt s i)) h ∧ l.foldl (fun h i => step1 h (byteAt s i)) h < 18446744073709551616 := by
    intro l
    induction l with
    | nil => exact fun h hh => hh
    | cons a l ih => exact fun h _ => ih _ (zqj _)
  exact this l _ (by omega)
theorem wrI (l : List Int) (i : Nat) (d : Int) (h : i < l.length) : wrs (rowI l) i 0 [.i d] = rowI (l.set i d) := by
  unfold wrs wrs wr rowI
  rw [List.map_set]
  congr 1
  have : (l.map fun d => [C.i d]).getD i [] = [.i l[i]] := by simp [List.getD_eq_getElem?_getD, h]
  rw [this]; rfl
theorem zn0 (n : Nat) : ∀ (h : Int) (l r : List Int), 0 ≤ h → h < 18446744073709551616 → l.length = n → n + r.length ≤ 8 →
    Lqbj (some 12) [.i h, .i ((n : Int) - 1), .l (rowI (l ++ r))] = some [.s (bytesOf (rowI (digs n h ++ r)))] := by
  induction n with
  | zero =>
    intro h l r h0 h1 hl hr
    rw [eqbj_12]
    have : l = [] := List.eq_nil_of_length_eq_zero hl
    subst this
    simp (disch := omega) only [push_cast] <;> rfl
  | succ n ih =>
    intro h l r h0 h1 hl hr
    rw [eqbj_12]
    have hlen : (rowI (l ++ r)).length = n + 1 + r.length := by simp [rowI, hl]
    have e : ((n + 1 : Nat) : Int) - 1 = (n : Int) := by omega
    rw [e, hlen]
    have hu : IntKind.u8.wrap h = h % 256 := by rw [IntKind.wrap_u8]
    simp (disch := omega) only [push_cast, wrI]
    rw [hu, wrI _ _ _ (by simp [hl]; omega)]
    have hset : (l ++ r).set n (h % 256) = l.take n ++ (h % 256 :: r) := by
      rw [List.set_append_left _ _ (by omega)]
      have : l = l.take n ++ [l[n]] := by
        conv => lhs; rw [← List.take_append_drop n l, List.drop_eq_getElem_cons (by omega), List.drop_of_length_le (by omega)]
      conv => lhs; rw [this]
      rw [List.set_append_right _ _ (by simp; omega)]
      simp [hl]
    rw [hset]
    have hf : h.fdiv (2 ^ 8) = h / 256 := by rw [Int.fdiv_eq_ediv_of_nonneg _ (by omega)]; rfl
    rw [hf, ih (h / 256) (l.take n) (h % 256 :: r) (by omega) (by omega) (by simp [hl]) (by simp; omega)]
    simp [digs]
theorem znw (s : Bs) (w : Int) (hs : s.size ≤ 1099511627776) : Lqbj none [.s s, .i w] = some [.s (sumM s w)] := by
  rw [eqbj_i, zd8]
  unfold sumM
  cases hw : zj w
  · simp (disch := omega) only [push_cast] <;> rfl
  · simp (disch := omega) only [push_cast]
    have := zmh (f := fun (i : Nat) (h : Int) => Lqbj (some 5) [.s s, .i w, .i h, .i (s.size : Int), .i (i : Int)]) (g := fun i h => step1 h (byteAt s i)) (n := s.size) (fun i h hi => by
      show Lqbj _ _ = Lqbj _ _
      rw [eqbj_5]; simp (disch := omega) only [push_cast] <;> rfl) 0 (Nat.zero_le _) 14695981039346656037
    rw [show ((0 : Nat) : Int) = 0 from rfl] at this
    rw [this, Nat.sub_zero, show (List.range' 0 s.size).foldl (fun h i => step1 h (byteAt s i)) 14695981039346656037 = hash s from rfl, eqbj_5]
    have h8 := zz.1 hw
    have hr := zj3 s
    have hm : (most : Int) = 1099511627776 := rfl
    obtain ⟨n, rfl⟩ : ∃ n : Nat, w = (n : Int) := ⟨w.toNat, by omega⟩
    simp (disch := omega) only [push_cast, hm]
    have h12 := zn0 n (hash s) (List.replicate n 0) [] hr.1 hr.2 (by simp) (by simp; omega)
    rw [List.append_nil, List.append_nil, show rowI (List.replicate n 0) = List.replicate n [C.i 0] by simp [rowI]] at h12
    exact h12
theorem zqz (n : Nat) : ∀ (h : Int) (r : List Int) (w : Nat), 0 ≤ h → h < 18446744073709551616 → r.length + n = w → w ≤ 8 →
    Lqd (some 10) [.i (w : Int), .i h, .i (r.length : Int), .l (rowI r)] = some [.s (bytesOf (rowI (digs n h ++ r)))] := by
  induction n with
  | zero =>
    intro h r w h0 h1 hr hw
    rw [eqd_10]
    simp (disch := omega) only [push_cast] <;> rfl
  | succ n ih =>
    intro h r w h0 h1 hr hw
    rw [eqd_10]
    have hm : most = 1099511627776 := rfl
    have hlen : (rowI r).length = r.length := by simp [rowI]
    have hu : IntKind.u8.wrap (h.tmod 256) = h % 256 := by rw [Int.tmod_eq_emod_of_nonneg h0, w8 (by omega)]
    have hq : IntKind.u64.wrap (h.tdiv 256) = h / 256 := by rw [Int.tdiv_eq_ediv_of_nonneg h0, zgq]; omega
    rw [hu, hq]
    simp (disch := omega) only [push_cast, List.length_cons, List.length_nil, hm, hlen]
    have := ih (h / 256) (h % 256 :: r) w (by omega) (by omega) (by simp; omega) hw
    simp only [List.length_cons] at this
    rw [show ([[C.i (h % 256)]] : Rw) ++ rowI r = rowI (h % 256 :: r) from rfl, show ((r.length : Int) + 1) = ((r.length + 1 : Nat) : Int) by omega, this]
    simp [digs]
theorem zbr (s : Bs) (w : Int) (hs : s.size ≤ 1099511627776) : Lqd none [.s s, .i w] = some [.s (sumM s w)] := by
  rw [eqd_i, zq]
  unfold sumM
  cases hw : zj w
  · simp (disch := omega) only [push_cast] <;> rfl
  · simp (disch := omega) only [push_cast]
    have := zmh (f := fun (i : Nat) (h : Int) => Lqd (some 5) [.s s, .i w, .i h, .i (i : Int)]) (g := fun i h => step1 h (byteAt s i)) (n := s.size) (fun i h hi => by
      show Lqd _ _ = Lqd _ _
      rw [eqd_5]; simp (disch := omega) only [push_cast] <;> rfl) 0 (Nat.zero_le _) 14695981039346656037
    rw [show ((0 : Nat) : Int) = 0 from rfl] at this
    rw [this, Nat.sub_zero, show (List.range' 0 s.size).foldl (fun h i => step1 h (byteAt s i)) 14695981039346656037 = hash s from rfl, eqd_5]
    have h8 := zz.1 hw
    have hr := zj3 s
    obtain ⟨n, rfl⟩ : ∃ n : Nat, w = (n : Int) := ⟨w.toNat, by omega⟩
    simp (disch := omega) only [push_cast]
    have := zqz n (hash s) [] n hr.1 hr.2 (by simp) (by omega)
    rw [List.append_nil] at this
    exact this
end KV
end
section
namespace KV
open Go Go.Eng
open Classical
theorem mostE : most = 1099511627776 := rfl
theorem zcc (l : Rw) (h : l.length ≤ 1099511627776) : Lqz none [.l l] = some [.l l] := by
  rw [eqz_i, mostE]; simp (disch := omega) only [push_cast]
theorem zfa (x : Bs) (l : Rw) (h : l.length ≤ 1099511627776) : Lqbu none [.s x, .l l] = some [.s x, .l l] := by
  rw [eqbu_i, mostE]; simp (disch := omega) only [push_cast, List.length_nil, List.nil_append]
def szs (l : List Bs) : Nat := (l.map (·.size)).sum
theorem zen (a : Bs) (l : List Bs) : szs (a :: l) = a.size + szs l := rfl
theorem zlf (l m : List Bs) : szs (l ++ m) = szs l + szs m := by simp [szs]
theorem zm3 (l : List Bs) (i : Nat) : szs (l.take i) ≤ szs l := by
  conv => rhs; rw [← List.take_append_drop i l, zlf]
  omega
def hd (n : Nat) : Bs := bytesOf [[.i (IntKind.u8.wrap (n : Int))]]
theorem zcm (n : Nat) : (hd n).size = 1 := by rw [hd, zcr]; rfl
def cat (a : Bs) (l : List Bs) : Bs := l.foldl (· ++ ·) a
theorem zd5 (l : List Bs) : ∀ a, (cat a l).size = a.size + szs l := by
  induction l with
  | nil => intro a; rfl
  | cons x l ih => intro a; show (cat (a ++ x) l).size = _; rw [ih, z5, zen]; omega
theorem zfc (a : Bs) (l : List Bs) (i : Nat) (h : i < l.length) : cat a (l.take (i + 1)) = cat a (l.take i) ++ nth .empty l i := by
  unfold cat; rw [zbb .empty h, List.foldl_append]; rfl
def formM (t : Thing) : Bs := cat (hd t.refs.length) t.refs ++ t.text
theorem zbl (t : Thing) : (formM t).size = 1 + szs t.refs + t.text.size := by rw [formM, z5, zd5, zcm]
theorem zeu (t : Thing) (h : 1 + szs t.refs + t.text.size ≤ 1099511627776) (hl : t.refs.length ≤ 4611686018427387904) : Lq1 none [.s t.text, .l (encS t.refs)] = some [.s (formM t)] := by
  rw [eq1_i]
  have := z6 (f := fun (i : Nat) (a : Bs) => Lq1 (some 3) [.s a, .l (encS t.refs), .i (t.refs.length : Int), .i (i : Int), .s t.text, .l (encS t.refs)]) (n := t.refs.length) (T := some [.s (formM t)])
    (I := fun i a => a = cat (hd t.refs.length) (t.refs.take i)) (fun i a hi hI => ⟨_, by
      show Lq1 _ _ = Lq1 _ _
      rw [eq1_3, mostE]
      have : a.size + (nth .empty t.refs i).size ≤ 1 + szs t.refs := by
        rw [hI, ← z5, ← zfc _ _ _ hi, zd5, zcm]
        have := zm3 t.refs (i + 1); omega
      simp (disch := omega) only [push_cast] <;> rfl, by show _ = _; rw [hI, zfc _ _ _ hi]⟩) (fun a hI => by
      show Lq1 _ _ = _
      have : a.size + t.text.size ≤ 1099511627776 := by rw [hI, List.take_length, zd5, zcm]; omega
      rw [eq1_3, mostE]; simp (disch := omega) only [push_cast]
      rw [hI, List.take_length]; rfl) 0 (hd t.refs.length) (Nat.zero_le _) rfl
  rw [z4]; exact this
theorem zbj {t : Thing} {w : Int} (h : ThingOk t w) : 1 + szs t.refs + t.text.size ≤ 2241 ∧ t.refs.length ≤ 30 := by
  have h1 := h.refs; have h2 := h.text; have h3 := h.wd
  have : ∀ l : List Bs, (∀ r ∈ l, (r.size : Int) = w) → szs l ≤ 8 * l.length := by
    intro l
    induction l with
    | nil => intro _; simp [szs]
    | cons a l ih => intro hl; rw [zen, List.length_cons]; have := hl a (by simp); have := ih fun r hr => hl r (by simp [hr]); omega
  have := this _ h.size
  omega
theorem zgy {t : Thing} {w : Int} (h : ThingOk t w) : Lq1 none [.s t.text, .l (encS t.refs)] = some [.s (formM t)] := by
  have := zbj h
  exact zeu t (by omega) (by omega)
noncomputable def formT (t : Thing) (w : Int) : Bs := if zba t w = true then formM t else ⟨#[]⟩
theorem zci (t : Thing) (w : Int) : Lqi none [.s t.text, .l (encS t.refs), .i w] = some [.s (formT t w)] := by
  rw [eqi_i, zc0]
  unfold formT
  cases ht : zba t w
  · simp (disch := omega) only [push_cast] <;> rfl
  · simp (disch := omega) only [push_cast]
    have hk := zbj (zcs.1 ht)
    have := z6 (f := fun (i : Nat) (a : Rw) => Lqi (some 5) [.i (i : Int), .s t.text, .l (encS t.refs), .l a]) (n := t.refs.length) (T := some [.s (formM t)])
      (I := fun i a => bytesOf a = cat (hd t.refs.length) (t.refs.take i)) (fun i a hi hI => ⟨_, by
        show Lqi _ _ = Lqi _ _
        rw [eqi_5, mostE]
        have : a.length + (nth .empty t.refs i).size ≤ 1 + szs t.refs := by
          rw [← zcr, hI, ← z5, ← zfc _ _ _ hi, zd5, zcm]
          have := zm3 t.refs (i + 1); omega
        simp (disch := omega) only [push_cast, zep] <;> rfl, by show _ = _; rw [zbt, zda, hI, zfc _ _ _ hi]⟩) (fun a hI => by
        show Lqi _ _ = _
        have : a.length + t.text.size ≤ 1099511627776 := by rw [← zcr, hI, List.take_length, zd5, zcm]; omega
        rw [eqi_5, mostE]; simp (disch := omega) only [push_cast, zep]
        rw [zbt, zda, hI, List.take_length]; rfl) 0 [[.i (IntKind.u8.wrap (t.refs.length : Int))]] (Nat.zero_le _) rfl
    exact this
theorem zeh (s : Bs) (a b c d : Nat) : (s.extract a b).extract c d = s.extract (a + c) (min (a + d) b) := by
  apply Go.WideShapes.bytes_inj
  simp only [ByteArray.data_extract, Array.toList_extract, List.extract_eq_take_drop]
  apply List.ext_getElem?
  intro i
  simp only [List.getElem?_take, List.getElem?_drop]
  by_cases h1 : i < d - c
  · by_cases h2 : c + i < b - a
    · rw [if_pos h1, if_pos h2, if_pos (by omega)]; congr 1; omega
    · rw [if_pos h1, if_neg h2, if_neg (by omega)]
  · rw [if_neg h1, if_neg (by omega)]
def chunk (s : Bs) (w i : Nat) : Bs := s.extract (1 + i * w) (1 + i * w + w)
def parts (s : Bs) (w : Nat) : Thing := ⟨s.extract (1 + (byteAt s 0).toNat * w) s.size, (List.range (byteAt s 0).toNat).map (chunk s w)⟩
noncomputable def readT (s : Bs) (w : Int) : Option Thing :=
  if zj w = true ∧ 1 ≤ s.size ∧ 1 + (byteAt s 0).toNat * w.toNat ≤ s.size then (if zba (parts s w.toNat) w = true then some (parts s w.toNat) else none) else none
theorem zm2 {s : Bs} {w : Int} (h : zj w = false) : readT s w = none := by unfold readT; rw [if_neg fun h1 => by rw [h] at h1; cases h1.1]
theorem zkj {s : Bs} {w : Int} (h : ¬ 1 ≤ s.size) : readT s w = none := by unfold readT; rw [if_neg fun h1 => h h1.2.1]
theorem zmy {s : Bs} {n k : Nat} (hk : byteAt s 0 = (k : Int)) (h : ¬ 1 + k * n ≤ s.size) : readT s n = none := by
  unfold readT; rw [if_neg fun h1 => h (by have := h1.2.2; rw [hk] at this; exact this)]
theorem zgt {s : Bs} {n k : Nat} (hw : zj (n : Int) = true) (h0 : 1 ≤ s.size) (hk : byteAt s 0 = (k : Int)) (h : 1 + k * n ≤ s.size) :
    readT s n = if zba (parts s n) (n : Int) = true then some (parts s n) else none := by
  unfold readT; rw [if_pos ⟨hw, h0, by rw [hk]; exact h⟩]; rfl
def encOT : Option Thing → Lv
  | none => [.s ⟨#[]⟩, .b false, .l []]
  | some t => [.s t.text, .b true, .l (encS t.refs)]
theorem zk7 {b n : Nat} (hb : b ≤ 255) (hn : n ≤ 8) : b * n ≤ 2040 := by
  calc b * n ≤ 255 * 8 := Nat.mul_le_mul hb hn
    _ = 2040 := rfl
theorem zgu {α : Type} (f : Nat → α) (i : Nat) : (List.range (i + 1)).map f = (List.range i).map f ++ [f i] := by rw [List.range_succ, List.map_append]; rfl
theorem zr7 (s : Bs) (w : Int) (hs : s.size ≤ 1099511627776) : Lqb5 none [.s s, .i w] = some (encOT (readT s w)) := by
  rw [eqb5_i, zd8]
  cases hw : zj w
  · simp (disch := omega) only [push_cast, zm2 hw] <;> rfl
  have h8 := zz.1 hw
  obtain ⟨n, rfl⟩ : ∃ n : Nat, w = (n : Int) := ⟨w.toNat, by omega⟩
  have hb := zw s 0
  obtain ⟨k, hk⟩ : ∃ k : Nat, byteAt s 0 = (k : Int) := ⟨(byteAt s 0).toNat, by omega⟩
  by_cases h0 : 1 ≤ s.size
  · have hne : ¬ s = ⟨#[]⟩ := fun e => by rw [e] at h0; exact absurd h0 (by decide)
    have hkn := zk7 (b := k) (n := n) (by omega) (by omega)
    rw [hk]
    have hc : ((k : Int) * (n : Int)) = ((k * n : Nat) : Int) := by rw [Int.natCast_mul]
    generalize hq : k * n = q at hkn hc
    by_cases h1 : 1 + q ≤ s.size
    · simp (disch := omega) only [push_cast, hc]
      have := z6 (f := fun (i : Nat) (a : Bs × List Bs) => Lqb5 (some 6) [.s a.1, .i (n : Int), .i ((k : Int) - (i : Int)), .s ⟨#[]⟩, .s ⟨#[]⟩, .l [], .l (encS a.2)]) (n := k) (T := some (encOT (if zba (parts s n) (n : Int) = true then some (parts s n) else none)))
        (I := fun i a => a.1 = s.extract (1 + i * n) s.size ∧ a.2 = (List.range i).map (chunk s n)) (fun i a hi hI => by
          have hin : i * n + n ≤ q := by rw [← hq, ← Nat.succ_mul]; exact Nat.mul_le_mul_right n hi
          have hr2 : (i + 1) * n = i * n + n := Nat.succ_mul i n
          have hl2 : a.2.length = i := by rw [hI.2]; simp
          have hch : chunk s n i = s.extract (1 + i * n) (1 + i * n + n) := rfl
          have hI1 := hI.1
          generalize hr : i * n = r at hin hr2 hch hI1
          have hsz : a.1.size = s.size - (1 + r) := by rw [hI1, size_extract]; omega
          refine ⟨(a.1.extract n a.1.size, a.2 ++ [a.1.extract 0 n]), ?_, ?_, ?_⟩
          · show Lqb5 _ _ = Lqb5 _ _
            rw [eqb5_6, mostE, show ((k : Int) - ((i + 1 : Nat) : Int)) = (k : Int) - (i : Int) - 1 by omega, ← zn]
            simp (disch := omega) only [push_cast, List.length_cons, List.length_nil] <;> rfl
          · show a.1.extract n a.1.size = s.extract (1 + (i + 1) * n) s.size
            rw [hsz, hI1, zeh, hr2]
            congr 1 <;> omega
          · show a.2 ++ [a.1.extract 0 n] = (List.range (i + 1)).map (chunk s n)
            rw [zgu, hI.2]
            congr 1
            rw [hI1, zeh, hch]
            congr 2; omega) (fun a hI => by
          show Lqb5 _ _ = _
          rw [eqb5_6]
          have e1 : a.1 = (parts s n).text := by rw [hI.1]; unfold parts; rw [hk]; rfl
          have e2 : a.2 = (parts s n).refs := by rw [hI.2]; unfold parts; rw [hk]; rfl
          rw [e1, e2]
          simp (disch := omega) only [push_cast, zl5]
          cases zba (parts s n) (n : Int) <;> rfl) 0 (s.extract 1 s.size, []) (Nat.zero_le _) ⟨by simp, rfl⟩
      rw [zgt hw h0 hk (by rw [hq]; exact h1)]
      exact this
    · simp (disch := omega) only [push_cast, hc, zmy (n := n) hk (by rw [hq]; exact h1)] <;> rfl
  · have he : s = ⟨#[]⟩ := zsx.1 (by omega)
    subst he
    simp (disch := omega) only [push_cast, zkj h0] <;> rfl
theorem zsy (s : Bs) (w : Int) (hs : s.size ≤ 1099511627776) : Lqcd none [.s s, .i w] = some (encOT (readT s w)) := by
  rw [eqcd_i, zq]
  cases hw : zj w
  · simp (disch := omega) only [push_cast, zm2 hw] <;> rfl
  have h8 := zz.1 hw
  obtain ⟨n, rfl⟩ : ∃ n : Nat, w = (n : Int) := ⟨w.toNat, by omega⟩
  have hb := zw s 0
  obtain ⟨k, hk⟩ : ∃ k : Nat, byteAt s 0 = (k : Int) := ⟨(byteAt s 0).toNat, by omega⟩
  by_cases h0 : 1 ≤ s.size
  · have hkn := zk7 (b := k) (n := n) (by omega) (by omega)
    rw [hk]
    have hc : ((k : Int) * (n : Int)) = ((k * n : Nat) : Int) := by rw [Int.natCast_mul]
    generalize hq : k * n = q at hkn hc
    by_cases h1 : 1 + q ≤ s.size
    · simp (disch := omega) only [push_cast, hc]
      have := z6 (f := fun (i : Nat) (a : List Bs) => Lqcd (some 6) [.s s, .i (n : Int), .i (k : Int), .i (i : Int), .s ⟨#[]⟩, .s (s.extract (1 + q) s.size), .l [], .l (encS a)]) (n := k) (T := some (encOT (if zba (parts s n) (n : Int) = true then some (parts s n) else none)))
        (I := fun i a => a = (List.range i).map (chunk s n)) (fun i a hi hI => by
          have hin : i * n + n ≤ q := by rw [← hq, ← Nat.succ_mul]; exact Nat.mul_le_mul_right n hi
          have hl2 : a.length = i := by rw [hI]; simp
          have hc2 : ((i : Int) * (n : Int)) = ((i * n : Nat) : Int) := by rw [Int.natCast_mul]
          generalize hr : i * n = r at hin hc2
          refine ⟨a ++ [chunk s n i], ?_, ?_⟩
          · show Lqcd _ _ = Lqcd _ _
            rw [eqcd_6, mostE, ← zn]
            have t1 : ((1 : Int) + (r : Int)).toNat = 1 + r := by omega
            have t2 : ((1 : Int) + (r : Int) + (n : Int)).toNat = 1 + r + n := by omega
            have hch : chunk s n i = s.extract (1 + r) (1 + r + n) := by unfold chunk; rw [hr]
            rw [hch]
            simp (disch := omega) only [push_cast, hc2, List.length_cons, List.length_nil, t1, t2] <;> rfl
          · show _ = _
            rw [zgu, hI]) (fun a hI => by
          show Lqcd _ _ = _
          rw [eqcd_6]
          have e1 : s.extract (1 + q) s.size = (parts s n).text := by unfold parts; rw [hk]; show _ = s.extract (1 + k * n) s.size; rw [hq]
          have e2 : a = (parts s n).refs := by rw [hI]; unfold parts; rw [hk]; rfl
          rw [e1, e2]
          simp (disch := omega) only [push_cast, zc0]
          cases zba (parts s n) (n : Int) <;> rfl) 0 [] (Nat.zero_le _) rfl
      rw [zgt hw h0 hk (by rw [hq]; exact h1)]
      rw [show ((1 : Int) + (q : Int)).toNat = 1 + q by omega]
      exact this
    · simp (disch := omega) only [push_cast, hc, zmy (n := n) hk (by rw [hq]; exact h1)] <;> rfl
  · simp (disch := omega) only [push_cast, zkj h0] <;> rfl
end KV
end
section
namespace KV
open Go Go.Eng
open Classical
structure Entry where
  kind : Int
  sum : Bs
  name : Bs
  number : Int
  thing : Thing
abbrev E0 : Bs := ⟨#[]⟩
def encE (e : Entry) : Lv := [.i e.kind, .s e.sum, .s e.name, .i e.number, .s e.thing.text, .l (encS e.thing.refs)]
structure NameOk (s : Bs) : Prop where
  lo : 1 ≤ s.size
  hi : s.size ≤ 40
  by_ : ∀ j, 0 ≤ j → j < s.size → 33 ≤ byteAt s j ∧ byteAt s j ≤ 126
noncomputable def nameB (s : Bs) : Bool := decide (NameOk s)
theorem zl7 {s : Bs} : nameB s = true ↔ NameOk s := by simp [nameB]
theorem zj6 (s : Bs) : (if (∀ j, 0 ≤ j → j < s.size → 33 ≤ byteAt s j ∧ byteAt s j ≤ 126) then cond (decide (1 ≤ (s.size : Int))) (some [Lf.b (decide ((s.size : Int) ≤ 40))]) (some [.b false]) else some [.b false]) = some [.b (nameB s)] := by
  unfold nameB
  by_cases h : ∀ j, 0 ≤ j → j < s.size → 33 ≤ byteAt s j ∧ byteAt s j ≤ 126
  · rw [if_pos h]
    by_cases h1 : 1 ≤ s.size
    · rw [show decide (1 ≤ (s.size : Int)) = true by simp; omega]
      by_cases h2 : s.size ≤ 40
      · rw [decide_eq_true (p := NameOk s) ⟨h1, h2, h⟩, show decide ((s.size : Int) ≤ 40) = true by simp; omega]; rfl
      · rw [decide_eq_false (p := NameOk s) fun h => h2 h.hi, show decide ((s.size : Int) ≤ 40) = false by simp; omega]; rfl
    · rw [decide_eq_false (p := NameOk s) fun h => h1 h.lo, show decide (1 ≤ (s.size : Int)) = false by simp; omega]; rfl
  · rw [if_neg h, decide_eq_false (p := NameOk s) fun h1 => h h1.by_]
theorem zsk (s : Bs) (hs : s.size ≤ 4611686018427387904) : Lqb6 none [.s s] = some [.b (nameB s)] := by
  rw [eqb6_i]
  have := zu (f := fun i : Nat => Lqb6 (some 2) [.s s, .i (s.size : Int), .i (i : Int)]) (n := s.size) (P := fun j => 33 ≤ byteAt s j ∧ byteAt s j ≤ 126) (F := some [.b false])
    (T := cond (decide (1 ≤ (s.size : Int))) (some [Lf.b (decide ((s.size : Int) ≤ 40))]) (some [.b false])) (fun i hi => by
      show (_ → Lqb6 _ _ = _) ∧ (_ → Lqb6 _ _ = _)
      rw [eqb6_2]
      by_cases h1 : 33 ≤ byteAt s i <;> by_cases h2 : byteAt s i ≤ 126 <;> simp (disch := omega) only [push_cast] <;> simp [h1, h2]) (by
      show Lqb6 _ _ = _
      rw [eqb6_2, dlt_f (Nat.le_refl _)]; rfl) 0 (Nat.zero_le _)
  rw [zj6] at this
  exact this
theorem zi5 (s : Bs) (hs : s.size ≤ 4611686018427387904) : Lqbp none [.s s] = some [.b (nameB s)] := by
  rw [eqbp_i]
  have := zu (f := fun i : Nat => Lqbp (some 2) [.s s, .i (i : Int)]) (n := s.size) (P := fun j => 33 ≤ byteAt s j ∧ byteAt s j ≤ 126) (F := some [.b false])
    (T := cond (decide (1 ≤ (s.size : Int))) (some [Lf.b (decide ((s.size : Int) ≤ 40))]) (some [.b false])) (fun i hi => by
      show (_ → Lqbp _ _ = _) ∧ (_ → Lqbp _ _ = _)
      rw [eqbp_2]
      by_cases h1 : 33 ≤ byteAt s i <;> by_cases h2 : byteAt s i ≤ 126 <;> simp (disch := omega) only [push_cast] <;> simp [h1, h2]) (by
      show Lqbp _ _ = _
      rw [eqbp_2, dlt_f (Nat.le_refl _)]; rfl) 0 (Nat.zero_le _)
  rw [zj6] at this
  exact this
def uS (k : Int) : Bool := decide (k = 2 ∨ k = 4 ∨ k = 7)
def uN (k : Int) : Bool := decide (k = 2 ∨ k = 3)
theorem zuw (k : Int) : Lqc1 none [.i k] = some [.b (uS k)] := by
  rw [eqc1_i]; unfold uS
  by_cases h1 : k = 2 <;> by_cases h2 : k = 4 <;> by_cases h3 : k = 7 <;> simp (disch := omega) only [push_cast] <;> simp [h1, h2, h3]
theorem zpw (k : Int) : Lqc2 none [.i k] = some [.b (uN k)] := by
  rw [eqc2_i]; unfold uN
  by_cases h1 : k = 2 <;> by_cases h2 : k = 3 <;> simp (disch := omega) only [push_cast] <;> simp [h1, h2]
noncomputable def sumB (k : Int) (s : Bs) (w : Int) : Bool := if uS k = true then decide ((s.size : Int) = w) else decide (s = E0)
noncomputable def namB (k : Int) (n : Bs) : Bool := if uN k = true then nameB n else decide (n = E0)
def numB (k m : Int) : Bool := if k = 1 ∨ k = 4 ∨ k = 6 then decide (1 ≤ m ∧ m ≤ 100000) else if k = 5 then decide (1 ≤ m ∧ m ≤ 1000000000) else decide (m = 0)
noncomputable def thgB (k : Int) (t : Thing) (w : Int) : Bool := if k = 1 then zba t w else decide (t.text = E0) && decide (t.refs.length = 0)
noncomputable def zg (e : Entry) (w : Int) : Bool := decide (1 ≤ e.kind ∧ e.kind ≤ 7) && (zj w && (sumB e.kind e.sum w && (namB e.kind e.name && (numB e.kind e.number && thgB e.kind e.thing w))))
theorem zc4 (w lo hi k m : Int) (s n : Bs) (t : Thing) : Lqe (some 15) [.i w, .i lo, .i hi, .i k, .s s, .s n, .i m, .s t.text, .l (encS t.refs)] = some [.b (decide (lo ≤ m ∧ m ≤ hi) && thgB k t w)] := by
  rw [eqe_15]; unfold thgB
  by_cases h1 : lo ≤ m
  · by_cases h2 : m ≤ hi
    · by_cases h3 : k = 1
      · simp (disch := omega) only [push_cast, zl5, if_pos h3] <;> simp [h1, h2]
      · by_cases h4 : t.text = E0
        · simp (disch := omega) only [push_cast, if_neg h3] <;> simp [h1, h2, h4]
        · simp (disch := omega) only [push_cast, if_neg h3]; rw [decide_eq_false h4] <;> simp
    · simp (disch := omega) only [push_cast]; rw [decide_eq_false fun h => h2 h.2]; rfl
  · simp (disch := omega) only [push_cast]; rw [decide_eq_false fun h => h1 h.1]; rfl
theorem zol (w k m : Int) (s n : Bs) (t : Thing) (hk : 1 ≤ k ∧ k ≤ 7) : Lqe (some 7) [.i w, .i k, .s s, .s n, .i m, .s t.text, .l (encS t.refs)] = some [.b (numB k m && thgB k t w)] := by
  rw [eqe_7]; unfold numB
  have : k = 1 ∨ k = 2 ∨ k = 3 ∨ k = 4 ∨ k = 5 ∨ k = 6 ∨ k = 7 := by omega
  rcases this with h | h | h | h | h | h | h
  · subst h; simp (disch := omega) only [push_cast, zc4] <;> simp
  · subst h; simp (disch := omega) only [push_cast]; rw [eqe_13]; simp (disch := omega) only [push_cast, zc4]; rw [show decide (0 ≤ m ∧ m ≤ 0) = decide (m = 0) from decide_eq_decide.2 (by omega)] <;> simp
  · subst h; simp (disch := omega) only [push_cast]; rw [eqe_13]; simp (disch := omega) only [push_cast, zc4]; rw [show decide (0 ≤ m ∧ m ≤ 0) = decide (m = 0) from decide_eq_decide.2 (by omega)] <;> simp
  · subst h; simp (disch := omega) only [push_cast, zc4] <;> simp
  · subst h; simp (disch := omega) only [push_cast]; rw [eqe_13]; simp (disch := omega) only [push_cast, zc4] <;> simp
  · subst h; simp (disch := omega) only [push_cast, zc4] <;> simp
  · subst h; simp (disch := omega) only [push_cast]; rw [eqe_13]; simp (disch := omega) only [push_cast, zc4]; rw [show decide (0 ≤ m ∧ m ≤ 0) = decide (m = 0) from decide_eq_decide.2 (by omega)] <;> simp
theorem zsr (w k m : Int) (s n : Bs) (t : Thing) (hk : 1 ≤ k ∧ k ≤ 7) (hn : n.size ≤ 4611686018427387904) : Lqe (some 5) [.i w, .i k, .s s, .s n, .i m, .s t.text, .l (encS t.refs)] = some [.b (namB k n && (numB k m && thgB k t w))] := by
  rw [eqe_5]; unfold namB
  rw [zpw, zsk n hn, zol w k m s n t hk]
  cases hu : uN k
  · by_cases h : n = E0
    · subst h; simp (disch := omega) only [push_cast] <;> simp
    · simp (disch := omega) only [push_cast] <;> simp [h]
  · cases nameB n
    · simp (disch := omega) only [push_cast] <;> simp
    · simp (disch := omega) only [push_cast] <;> simp
theorem zgc (e : Entry) (w : Int) (hn : e.name.size ≤ 4611686018427387904) : Lqe none (encE e ++ [.i w]) = some [.b (zg e w)] := by
  show Lqe none [.i e.kind, .s e.sum, .s e.name, .i e.number, .s e.thing.text, .l (encS e.thing.refs), .i w] = _
  rw [eqe_i]; unfold zg
  by_cases h1 : 1 ≤ e.kind
  · by_cases h7 : e.kind ≤ 7
    · simp (disch := omega) only [push_cast, zd8, zuw, zsr w e.kind e.number e.sum e.name e.thing ⟨h1, h7⟩ hn]
      rw [decide_eq_true (show 1 ≤ e.kind ∧ e.kind ≤ 7 from ⟨h1, h7⟩), Bool.true_and]
      unfold sumB
      cases zj w
      · rfl
      · cases hu : uS e.kind
        · simp (disch := omega) only [push_cast]
          by_cases h : e.sum = E0
          · rw [cpos h]; simp [h]
          · rw [cneg h]; simp [h]
        · simp (disch := omega) only [push_cast]
          by_cases h : (e.sum.size : Int) = w
          · rw [cpos h]; simp [h]
          · rw [cneg h]; simp [h]
    · simp (disch := omega) only [push_cast]; rw [decide_eq_false fun h => h7 h.2]; rfl
  · simp (disch := omega) only [push_cast]; rw [decide_eq_false fun h => h1 h.1]; rfl
theorem zo7 (w k m : Int) (s n : Bs) (t : Thing) (b : Bool) (hb : b = decide (k = 1)) : Lqu (some 8) [.i w, .b b, .i k, .s s, .s n, .i m, .s t.text, .l (encS t.refs)] = some [.b (thgB k t w)] := by
  subst hb
  rw [equ_8]; unfold thgB
  by_cases h : k = 1
  · simp (disch := omega) only [push_cast, zc0, if_pos h]
  · simp (disch := omega) only [push_cast, if_neg h]
    by_cases h4 : t.text = E0
    · rw [cpos h4]; simp [h4]
    · rw [cneg h4]; simp [h4]
theorem zoz (w k m : Int) (s n : Bs) (t : Thing) (a b : Bool) (ha : a = uN k) (hb : b = decide (k = 1)) (hn : n.size ≤ 4611686018427387904) :
    Lqu (some 6) [.i w, .b a, .b b, .i k, .s s, .s n, .i m, .s t.text, .l (encS t.refs)] = some [.b (namB k n && thgB k t w)] := by
  subst ha
  rw [equ_6, zi5 n hn, zo7 w k m s n t b hb]; unfold namB
  cases hu : uN k
  · simp (disch := omega) only [push_cast]
    by_cases h : n = E0
    · rw [cpos h]; simp [h]
    · rw [cneg h]; simp [h]
  · cases nameB n
    · simp (disch := omega) only [push_cast] <;> simp
    · simp (disch := omega) only [push_cast] <;> simp
theorem zu1 (m u : Int) : Lqcw none [.i m, .i u] = some [.b (if u = 1 then decide (1 ≤ m ∧ m ≤ 100000) else if u = 2 then decide (1 ≤ m ∧ m ≤ 1000000000) else decide (m = 0))] := by
  rw [eqcw_i]
  by_cases h1 : u = 1
  · subst h1; simp (disch := omega) only [push_cast]
    by_cases h : 1 ≤ m
    · simp (disch := omega) only [push_cast] <;> simp [h]
    · simp (disch := omega) only [push_cast] <;> simp [h]
  · by_cases h2 : u = 2
    · subst h2; simp (disch := omega) only [push_cast]
      by_cases h : 1 ≤ m
      · simp (disch := omega) only [push_cast] <;> simp [h]
      · simp (disch := omega) only [push_cast] <;> simp [h]
    · simp (disch := omega) only [push_cast] <;> simp [h1, h2]
def nU (k : Int) : Int := if k = 1 ∨ k = 4 ∨ k = 6 then 1 else if k = 5 then 2 else 0
theorem zry (k : Int) (hk : 1 ≤ k ∧ k ≤ 7) : Lqdw none [.i k] = some [.b (uS k), .b (uN k), .i (nU k), .b (decide (k = 1))] := by
  rw [eqdw_i]
  have : k = 1 ∨ k = 2 ∨ k = 3 ∨ k = 4 ∨ k = 5 ∨ k = 6 ∨ k = 7 := by omega
  rcases this with h | h | h | h | h | h | h <;> rw [h] <;> rfl
theorem zt6 (k m : Int) (hk : 1 ≤ k ∧ k ≤ 7) : Lqcw none [.i m, .i (nU k)] = some [.b (numB k m)] := by
  rw [zu1]
  have : k = 1 ∨ k = 2 ∨ k = 3 ∨ k = 4 ∨ k = 5 ∨ k = 6 ∨ k = 7 := by omega
  rcases this with h | h | h | h | h | h | h <;> rw [h] <;> rfl
theorem zhk (e : Entry) (w : Int) (hn : e.name.size ≤ 4611686018427387904) : Lqu none (encE e ++ [.i w]) = some [.b (zg e w)] := by
  show Lqu none [.i e.kind, .s e.sum, .s e.name, .i e.number, .s e.thing.text, .l (encS e.thing.refs), .i w] = _
  rw [equ_i, zq]; unfold zg
  cases zj w
  · simp (disch := omega) only [push_cast] <;> simp
  by_cases h1 : 1 ≤ e.kind
  · by_cases h7 : e.kind ≤ 7
    · rw [decide_eq_true (show 1 ≤ e.kind ∧ e.kind ≤ 7 from ⟨h1, h7⟩), Bool.true_and, Bool.true_and]
      simp (disch := omega) only [push_cast, zry e.kind ⟨h1, h7⟩, zt6 e.kind e.number ⟨h1, h7⟩, zoz w e.kind e.number e.sum e.name e.thing _ _ rfl rfl hn]
      unfold sumB
      cases hus : uS e.kind
      · by_cases h : e.sum = E0
        · cases numB e.kind e.number <;> simp (disch := omega) only [push_cast] <;> simp [h]
        · simp (disch := omega) only [push_cast] <;> simp [h]
      · by_cases h : (e.sum.size : Int) = w
        · cases numB e.kind e.number <;> simp (disch := omega) only [push_cast] <;> simp [h]
        · simp (disch := omega) only [push_cast] <;> simp [h]
    · simp (disch := omega) only [push_cast]; rw [decide_eq_false fun h => h7 h.2]; rfl
  · simp (disch := omega) only [push_cast]; rw [decide_eq_false fun h => h1 h.1]; rfl
end KV
end
section
namespace KV
open Go Go.Eng
open Classical
theorem EntryOk.kd {e : Entry} {w : Int} (h : zg e w = true) : 1 ≤ e.kind ∧ e.kind ≤ 7 := by
  unfold zg at h; simp only [Bool.and_eq_true, decide_eq_true_eq] at h; exact h.1
theorem EntryOk.wd {e : Entry} {w : Int} (h : zg e w = true) : zj w = true := by
  unfold zg at h; simp only [Bool.and_eq_true, decide_eq_true_eq] at h; exact h.2.1
theorem EntryOk.nm {e : Entry} {w : Int} (h : zg e w = true) : e.name.size ≤ 40 := by
  unfold zg namB at h; simp only [Bool.and_eq_true, decide_eq_true_eq] at h
  have := h.2.2.2.1
  split at this
  · exact (zl7.1 this).hi
  · have := of_decide_eq_true this; rw [this]; decide
theorem EntryOk.num {e : Entry} {w : Int} (h : zg e w = true) : 0 ≤ e.number ∧ e.number ≤ 1000000000 := by
  unfold zg numB at h; simp only [Bool.and_eq_true, decide_eq_true_eq] at h
  have := h.2.2.2.2.1
  split at this
  · have := of_decide_eq_true this; omega
  · split at this
    · have := of_decide_eq_true this; omega
    · have := of_decide_eq_true this; omega
theorem EntryOk.sum {e : Entry} {w : Int} (h : zg e w = true) : e.sum.size ≤ 8 := by
  have hw := zz.1 (EntryOk.wd h)
  unfold zg sumB at h; simp only [Bool.and_eq_true, decide_eq_true_eq] at h
  have := h.2.2.1
  split at this
  · have := of_decide_eq_true this; omega
  · have := of_decide_eq_true this; rw [this]; decide
theorem EntryOk.thing {e : Entry} {w : Int} (h : zg e w = true) (hk : e.kind = 1) : ThingOk e.thing w := by
  unfold zg thgB at h; simp only [Bool.and_eq_true, decide_eq_true_eq, if_pos hk] at h
  exact zcs.1 h.2.2.2.2.2
theorem EntryOk.nothing {e : Entry} {w : Int} (h : zg e w = true) (hk : e.kind ≠ 1) : e.thing = ⟨E0, []⟩ := by
  unfold zg thgB at h; simp only [Bool.and_eq_true, decide_eq_true_eq, if_neg hk] at h
  have h1 := h.2.2.2.2.2
  have a : e.thing.text = E0 := h1.1
  have b : e.thing.refs = [] := List.eq_nil_of_length_eq_zero h1.2
  have : e.thing = ⟨e.thing.text, e.thing.refs⟩ := rfl
  rw [this, a, b]
def hd6 (k m : Int) (n : Nat) : Bs := bytesOf [[.i k], [.i (m / 16777216)], [.i (m / 65536 % 256)], [.i (m / 256 % 256)], [.i (m % 256)], [.i (n : Int)]]
theorem zeb (k m : Int) (n : Nat) : (hd6 k m n).size = 6 := by rw [hd6, zcr]; rfl
def formE (e : Entry) : Bs := hd6 e.kind e.number e.name.size ++ e.name ++ e.sum ++ (if e.kind = 1 then formM e.thing else E0)
theorem zee (s : Bs) : s ++ E0 = s := by
  apply Go.WideShapes.bytes_inj; simp [ByteArray.data_append]
theorem zd4 (a b c : Bs) : a ++ b ++ c = a ++ (b ++ c) := by
  apply Go.WideShapes.bytes_inj; simp [ByteArray.data_append]
theorem zii {e : Entry} {w : Int} (h : zg e w = true) : (formE e).size ≤ 2295 ∧ 6 ≤ (formE e).size := by
  unfold formE
  rw [z5, z5, z5, zeb]
  have h1 := EntryOk.nm h; have h2 := EntryOk.sum h
  split
  · rename_i hk
    have h3 := zbj (EntryOk.thing h hk)
    rw [zbl]; omega
  · have : E0.size = 0 := rfl
    omega
theorem zuc {m : Int} (h : 0 ≤ m ∧ m ≤ 1000000000) : IntKind.u8.wrap ((IntKind.u32.wrap m).fdiv (2 ^ 24)) = m / 16777216 ∧ IntKind.u8.wrap ((IntKind.u32.wrap m).fdiv (2 ^ 16)) = m / 65536 % 256 ∧ IntKind.u8.wrap ((IntKind.u32.wrap m).fdiv (2 ^ 8)) = m / 256 % 256 ∧ IntKind.u8.wrap (IntKind.u32.wrap m) = m % 256 := by
  have h1 : IntKind.u32.wrap m = m := IntWalk.u32_in m (by omega)
  rw [h1, Int.fdiv_eq_ediv_of_nonneg _ (by decide), Int.fdiv_eq_ediv_of_nonneg _ (by decide), Int.fdiv_eq_ediv_of_nonneg _ (by decide)]
  simp only [IntKind.wrap_u8]
  refine ⟨?_, ?_, ?_, trivial⟩
  · show m / 16777216 % 256 = _; omega
  · rfl
  · rfl
theorem znb (e : Entry) (w : Int) (hn : e.name.size ≤ 4611686018427387904) : Lqci none (encE e ++ [.i w]) = some [.s (if zg e w = true then formE e else E0)] := by
  show Lqci none [.i e.kind, .s e.sum, .s e.name, .i e.number, .s e.thing.text, .l (encS e.thing.refs), .i w] = _
  rw [eqci_i]
  rw [show Lqe none [.i e.kind, .s e.sum, .s e.name, .i e.number, .s e.thing.text, .l (encS e.thing.refs), .i w] = _ from zgc e w hn]
  cases he : zg e w
  · simp (disch := omega) only [push_cast] <;> rfl
  have hk := EntryOk.kd he; have hnm := EntryOk.nm he; have hsm := EntryOk.sum he; have hnum := EntryOk.num he
  obtain ⟨b1, b2, b3, b4⟩ := zuc hnum
  have hap : Lqdv none [.i (IntKind.u32.wrap e.number), .l [[.i (IntKind.u8.wrap e.kind)]]] = some [.l [[.i e.kind], [.i (e.number / 16777216)], [.i (e.number / 65536 % 256)], [.i (e.number / 256 % 256)], [.i (e.number % 256)]]] := by
    rw [eqdv_i, b1, b2, b3, b4, w8 (by omega)]; rfl
  rw [hap, w8 (n := (e.name.size : Int)) (by omega)]
  have h6 : bytesOf ([[C.i e.kind], [.i (e.number / 16777216)], [.i (e.number / 65536 % 256)], [.i (e.number / 256 % 256)], [.i (e.number % 256)]] ++ [[.i (e.name.size : Int)]]) = hd6 e.kind e.number e.name.size := rfl
  simp (disch := omega) only [push_cast, List.length_cons, List.length_nil, h6, mostE, z5, zeb]
  unfold formE
  by_cases h1 : e.kind = 1
  · have h3 := zbj (EntryOk.thing he h1)
    have hs := zbl e.thing
    simp (disch := omega) only [push_cast, zgy (EntryOk.thing he h1), if_pos h1]
  · simp (disch := omega) only [push_cast, if_neg h1]; rw [zee]
theorem zon {m : Int} (h : 0 ≤ m ∧ m ≤ 1000000000) : IntKind.u8.wrap (IntKind.i64.wrap (m.tdiv 16777216)) = m / 16777216 ∧ IntKind.u8.wrap ((IntKind.i64.wrap (m.tdiv 65536)).tmod 256) = m / 65536 % 256 ∧ IntKind.u8.wrap ((IntKind.i64.wrap (m.tdiv 256)).tmod 256) = m / 256 % 256 ∧ IntKind.u8.wrap (m.tmod 256) = m % 256 := by
  rw [Int.tdiv_eq_ediv_of_nonneg h.1, Int.tdiv_eq_ediv_of_nonneg h.1, Int.tdiv_eq_ediv_of_nonneg h.1, Int.tmod_eq_emod_of_nonneg h.1, w64 (by omega), w64 (by omega), w64 (by omega), Int.tmod_eq_emod_of_nonneg (by omega), Int.tmod_eq_emod_of_nonneg (by omega)]
  exact ⟨w8 (by omega), w8 (by omega), w8 (by omega), w8 (by omega)⟩
theorem zdu (e : Entry) (w : Int) (hn : e.name.size ≤ 4611686018427387904) : Lqv none (encE e ++ [.i w]) = some [.s (if zg e w = true then formE e else E0)] := by
  show Lqv none [.i e.kind, .s e.sum, .s e.name, .i e.number, .s e.thing.text, .l (encS e.thing.refs), .i w] = _
  rw [eqv_i]
  rw [show Lqu none [.i e.kind, .s e.sum, .s e.name, .i e.number, .s e.thing.text, .l (encS e.thing.refs), .i w] = _ from zhk e w hn]
  cases he : zg e w
  · simp (disch := omega) only [push_cast] <;> rfl
  have hk := EntryOk.kd he; have hnm := EntryOk.nm he; have hsm := EntryOk.sum he; have hnum := EntryOk.num he
  obtain ⟨b1, b2, b3, b4⟩ := zon hnum
  rw [b1, b2, b3, b4, w8 (n := (e.name.size : Int)) (by omega), w8 (n := e.kind) (by omega)]
  generalize hr : ([[C.i e.kind], [.i (e.number / 16777216)], [.i (e.number / 65536 % 256)], [.i (e.number / 256 % 256)], [.i (e.number % 256)], [.i (e.name.size : Int)]] : Rw) = r
  have h6 : bytesOf r = hd6 e.kind e.number e.name.size := by rw [← hr]; rfl
  have hl : r.length = 6 := by rw [← hr]; rfl
  simp (disch := omega) only [push_cast, mostE, List.length_append, zep, hl]
  unfold formE
  by_cases h1 : e.kind = 1
  · have h3 := zbj (EntryOk.thing he h1)
    have hs := zbl e.thing
    simp (disch := omega) only [push_cast, zci, formT, if_pos (zcs.2 (EntryOk.thing he h1)), zep, if_pos h1]
    rw [zbt, zbt, zbt, zda, zda, zda, h6]
  · simp (disch := omega) only [push_cast, if_neg h1]; rw [zee, zbt, zbt, zda, zda, h6]
theorem zb5 (s : Bs) {a b c : Nat} (h1 : a ≤ b) (h2 : b ≤ c) : s.extract a b ++ s.extract b c = s.extract a c := by
  apply Go.WideShapes.bytes_inj
  simp only [ByteArray.data_append, ByteArray.data_extract, Array.toList_append, Array.toList_extract, List.extract_eq_take_drop]
  apply List.ext_getElem?
  intro i
  rw [List.getElem?_append]
  simp only [List.length_take, List.length_drop, Array.length_toList, List.getElem?_take, List.getElem?_drop]
  have hs : ∀ j, s.data.size ≤ j → s.data.toList[j]? = none := fun j hj => List.getElem?_eq_none (by simpa using hj)
  by_cases h : i < min (b - a) (s.data.size - a)
  · rw [if_pos h, if_pos (by omega), if_pos (by omega)]
  · rw [if_neg h]
    by_cases h3 : i < c - a
    · by_cases h4 : b - a ≤ s.data.size - a
      · rw [if_pos h3, if_pos (by omega)]; congr 1; omega
      · rw [if_pos h3, hs (a + i) (by omega)]
        split
        · exact hs _ (by omega)
        · rfl
    · by_cases h4 : b - a ≤ s.data.size - a
      · rw [if_neg h3, if_neg (by omega)]
      · rw [if_neg h3]
        split
        · exact hs _ (by omega)
        · rfl
theorem zc3 (s : Bs) : s.extract 0 s.size = s := by
  apply Go.WideShapes.bytes_inj
  simp only [ByteArray.data_extract, Array.toList_extract, List.extract_eq_take_drop]
  rw [List.drop_zero, Nat.sub_zero, List.take_of_length_le]
  show s.data.toList.length ≤ s.data.size
  rw [Array.length_toList]; exact Nat.le_refl _
theorem zcd (s : Bs) (i : Nat) (h : i < s.size) : s.extract i (i + 1) = bytesOf [[.i (byteAt s i)]] := by
  apply Go.WideShapes.bytes_inj
  have h' : i < s.data.toList.length := by simpa using h
  simp only [ByteArray.data_extract, Array.toList_extract, List.extract_eq_take_drop]
  rw [List.drop_eq_getElem_cons h', show i + 1 - i = 1 by omega]
  simp only [List.take_succ_cons, List.take_zero]
  show _ = [UInt8.ofNat (byteAt s i).toNat]
  have : s.data.getD i 0 = s.data.toList[i] := by simp [Array.getD]; rw [dif_pos h]
  rw [byteAt, this, Int.toNat_natCast, UInt8.ofNat_toNat]
theorem zls {s : Bs} {w : Int} {t : Thing} (h : readT s w = some t) : formM t = s ∧ ThingOk t w := by
  unfold readT at h
  split at h
  · rename_i hc
    split at h
    · rename_i ht
      cases h
      refine ⟨?_, zcs.1 ht⟩
      have hb := zw s 0
      obtain ⟨k, hk⟩ : ∃ k : Nat, byteAt s 0 = (k : Int) := ⟨(byteAt s 0).toNat, by omega⟩
      have hkn : (byteAt s 0).toNat = k := by rw [hk]; rfl
      obtain ⟨hw, h0, h1⟩ := hc
      rw [hkn] at h1
      unfold formM parts
      simp only [List.length_map, List.length_range, hkn]
      have hcat : ∀ i, i ≤ k → cat (hd k) ((List.range i).map (chunk s w.toNat)) = s.extract 0 (1 + i * w.toNat) := by
        intro i
        induction i with
        | zero =>
          intro _
          rw [Nat.zero_mul, zcd s 0 (by omega)]
          show hd k = _
          unfold hd
          rw [hk, w8 (by omega)]
        | succ i ih =>
          intro hi
          have hm : (i + 1) * w.toNat = i * w.toNat + w.toNat := Nat.succ_mul _ _
          have hm2 : (i + 1) * w.toNat ≤ k * w.toNat := Nat.mul_le_mul_right _ hi
          unfold cat at ih ⊢
          rw [zgu, List.foldl_append, ih (by omega)]
          show _ ++ chunk s w.toNat i = _
          unfold chunk
          rw [zb5 s (by omega) (by omega), hm]; congr 1; omega
      rw [hcat k (Nat.le_refl _), zb5 s (by omega) h1, zc3]
    · cases h
  · cases h
theorem zm0 (a b : Bs) (i j : Nat) (h : j ≤ a.size) : (a ++ b).extract i j = a.extract i j := by
  apply Go.WideShapes.bytes_inj
  simp only [ByteArray.data_append, ByteArray.data_extract, Array.toList_append, Array.toList_extract, List.extract_eq_take_drop]
  apply List.ext_getElem?
  intro n
  simp only [List.getElem?_take, List.getElem?_drop]
  have h' : j ≤ a.data.toList.length := by simpa using h
  split
  · rw [List.getElem?_append_left (by omega)]
  · rfl
theorem zdr (a b : Bs) (i j : Nat) : (a ++ b).extract (a.size + i) (a.size + j) = b.extract i j := by
  apply Go.WideShapes.bytes_inj
  simp only [ByteArray.data_append, ByteArray.data_extract, Array.toList_append, Array.toList_extract, List.extract_eq_take_drop]
  have h' : a.data.toList.length = a.size := by simp
  rw [List.drop_append, h', List.drop_of_length_le (by omega)]
  simp only [List.nil_append]
  congr 1
  · omega
  · congr 1; omega
theorem zkb (a b : Bs) (i : Nat) (h : i < a.size) : byteAt (a ++ b) i = byteAt a i := by
  unfold byteAt
  have h1 : i < a.data.size := h
  simp [Array.getD, ByteArray.data_append, Array.getElem_append]
  rw [dif_pos (by omega), dif_pos h, dif_pos h]
theorem ze6 (xs : Rw) (i : Nat) (n : Int) (h : xs[i]? = some [.i n]) (hn : 0 ≤ n ∧ n ≤ 255) : byteAt (bytesOf xs) i = n := by
  have hi : i < xs.length := by
    rcases Nat.lt_or_ge i xs.length with h1 | h1
    · exact h1
    · rw [List.getElem?_eq_none h1] at h; cases h
  have hx : xs[i] = [C.i n] := by rw [List.getElem?_eq_getElem hi] at h; exact Option.some.inj h
  unfold byteAt bytesOf
  simp only [Array.getD, List.size_toArray, List.length_map, hi, dite_true]
  simp only [Array.getInternal_eq_getElem, List.getElem_toArray, List.getElem_map, hx]
  simp only [List.getD_cons_zero, C.int]
  rw [UInt8.toNat_ofNat']; omega
theorem zh7 (a : Bs) (l : List Bs) : cat a l = a ++ cat E0 l := by
  induction l generalizing a with
  | nil => exact (zee a).symm
  | cons x l ih =>
    show cat (a ++ x) l = a ++ cat (E0 ++ x) l
    rw [ih (a ++ x), ih (E0 ++ x), zd4]
    congr 1
theorem zmd (s : Bs) : E0 ++ s = s := by apply Go.WideShapes.bytes_inj; simp [ByteArray.data_append]
theorem znp (w : Nat) : ∀ (l : List Bs) (x : Bs), (∀ r ∈ l, r.size = w) → ∀ i, i < l.length → (cat E0 l ++ x).extract (i * w) (i * w + w) = nth .empty l i
  | [], _, _, i, h => by simp at h
  | r :: l, x, hl, i, h => by
    have hr : r.size = w := hl r (by simp)
    have e : cat E0 (r :: l) = r ++ cat E0 l := by show cat (E0 ++ r) l = _; rw [zh7, zmd]
    rw [e, zd4]
    cases i with
    | zero => rw [Nat.zero_mul, Nat.zero_add, zm0 _ _ _ _ (by omega), ← hr, zc3]; rfl
    | succ i =>
      have h1 := znp w l x (fun r hr => hl r (by simp [hr])) i (by simpa using h)
      have e3 : (i + 1) * w + w = r.size + (i * w + w) := by rw [Nat.succ_mul]; omega
      have e2 : (i + 1) * w = r.size + i * w := by rw [Nat.succ_mul]; omega
      rw [e3, e2, zdr, zc9, h1]
theorem zhm {t : Thing} {w : Int} (h : ThingOk t w) : readT (formM t) w = some t := by
  have hw := h.wd
  obtain ⟨n, rfl⟩ : ∃ n : Nat, w = (n : Int) := ⟨w.toNat, by omega⟩
  have hsz : ∀ r ∈ t.refs, r.size = n := fun r hr => by have := h.size r hr; omega
  have hrf := h.refs
  have hs := zbl t
  have hk : byteAt (formM t) 0 = (t.refs.length : Int) := by
    unfold formM
    rw [zh7, zd4, zkb _ _ _ (by rw [zcm]; omega)]
    unfold hd
    exact ze6 _ _ _ (by rw [w8 (by omega)]; rfl) (by omega)
  have hszs : ∀ l : List Bs, (∀ r ∈ l, r.size = n) → szs l = l.length * n := by
    intro l
    induction l with
    | nil => intro _; simp [szs]
    | cons a l ih => intro hl; rw [zen, List.length_cons, Nat.succ_mul, ih fun r hr => hl r (by simp [hr]), hl a (by simp)]; omega
  have hz := hszs _ hsz
  have hp : parts (formM t) n = t := by
    unfold parts
    rw [hk, Int.toNat_natCast]
    obtain ⟨x, l⟩ := t
    simp only at hs hz hsz ⊢
    have hcs : (cat (hd l.length) l).size = 1 + l.length * n := by rw [zd5, zcm, hz]
    congr 1
    · unfold formM; simp only
      have := zdr (cat (hd l.length) l) x 0 x.size
      rw [zc3, hcs, Nat.add_zero] at this
      rw [z5, hcs]; exact this
    · apply List.ext_getElem
      · simp
      · intro i h1 h2
        simp only [List.getElem_map, List.getElem_range]
        rw [← zm .empty l i h2, ← znp n l x hsz i h2]
        unfold chunk formM; simp only
        rw [zh7, zd4]
        have := zdr (hd l.length) (cat E0 l ++ x) (i * n) (i * n + n)
        rw [zcm] at this
        rw [← this]; congr 1; omega
  rw [zgt (n := n) (zz.2 hw) (by omega) hk (by omega), hp, if_pos (zcs.2 h)]
def num4 (s : Bs) : Int := byteAt s 1 * 16777216 + byteAt s 2 * 65536 + byteAt s 3 * 256 + byteAt s 4
def nmEnd (s : Bs) : Nat := 6 + (byteAt s 5).toNat
noncomputable def readE (s : Bs) (w : Int) : Option Entry :=
  if zj w = true ∧ 6 ≤ s.size ∧ nmEnd s ≤ s.size then
    (if byteAt s 0 = 1 then (match readT (s.extract (nmEnd s) s.size) w with
      | none => none
      | some t => if zg ⟨1, E0, s.extract 6 (nmEnd s), num4 s, t⟩ w = true then some ⟨1, E0, s.extract 6 (nmEnd s), num4 s, t⟩ else none)
    else if zg ⟨byteAt s 0, s.extract (nmEnd s) s.size, s.extract 6 (nmEnd s), num4 s, ⟨E0, []⟩⟩ w = true then some ⟨byteAt s 0, s.extract (nmEnd s) s.size, s.extract 6 (nmEnd s), num4 s, ⟨E0, []⟩⟩ else none)
  else none
theorem zp4 (s : Bs) (h : 6 ≤ s.size) : hd6 (byteAt s 0) (num4 s) (byteAt s 5).toNat = s.extract 0 6 := by
  have b0 := zw s 0; have b1 := zw s 1; have b2 := zw s 2; have b3 := zw s 3; have b4 := zw s 4; have b5 := zw s 5
  unfold hd6 num4
  have e : ∀ a b c d e f : Int, bytesOf [[.i a], [.i b], [.i c], [.i d], [.i e], [.i f]] = bytesOf [[.i a]] ++ bytesOf [[.i b]] ++ bytesOf [[.i c]] ++ bytesOf [[.i d]] ++ bytesOf [[.i e]] ++ bytesOf [[.i f]] := fun a b c d e f => by
    rw [← zbt, ← zbt, ← zbt, ← zbt, ← zbt]; rfl
  have n1 : (byteAt s 1 * 16777216 + byteAt s 2 * 65536 + byteAt s 3 * 256 + byteAt s 4) / 16777216 = byteAt s 1 := by omega
  have n2 : (byteAt s 1 * 16777216 + byteAt s 2 * 65536 + byteAt s 3 * 256 + byteAt s 4) / 65536 % 256 = byteAt s 2 := by omega
  have n3 : (byteAt s 1 * 16777216 + byteAt s 2 * 65536 + byteAt s 3 * 256 + byteAt s 4) / 256 % 256 = byteAt s 3 := by omega
  have n4 : (byteAt s 1 * 16777216 + byteAt s 2 * 65536 + byteAt s 3 * 256 + byteAt s 4) % 256 = byteAt s 4 := by omega
  have n5 : (((byteAt s 5).toNat : Nat) : Int) = byteAt s 5 := by omega
  rw [n1, n2, n3, n4, n5, e, ← zcd s 0 (by omega), ← zcd s 1 (by omega), ← zcd s 2 (by omega), ← zcd s 3 (by omega), ← zcd s 4 (by omega), ← zcd s 5 (by omega)]
  rw [zb5 s (by omega) (by omega), zb5 s (by omega) (by omega), zb5 s (by omega) (by omega), zb5 s (by omega) (by omega), zb5 s (by omega) (by omega)]
theorem zu4 (s : Bs) : 0 ≤ num4 s ∧ num4 s < 4294967296 := by
  have b1 := zw s 1; have b2 := zw s 2; have b3 := zw s 3; have b4 := zw s 4
  unfold num4; omega
theorem zfs (s : Bs) (x : Thing) (h6 : 6 ≤ s.size) (h : nmEnd s ≤ s.size) (a : Bs) (hx : (if byteAt s 0 = 1 then formM x else E0) = (if byteAt s 0 = 1 then s.extract (nmEnd s) s.size else E0)) (ha : a = if byteAt s 0 = 1 then E0 else s.extract (nmEnd s) s.size) :
    formE ⟨byteAt s 0, a, s.extract 6 (nmEnd s), num4 s, x⟩ = s := by
  unfold formE
  simp only
  have hn : (s.extract 6 (nmEnd s)).size = (byteAt s 5).toNat := by rw [size_extract]; unfold nmEnd at h ⊢; omega
  rw [hn, zp4 s h6, zb5 s (by omega) (by unfold nmEnd; omega), hx, ha]
  split
  · rw [zee, zb5 s (by omega) h, zc3]
  · rw [zee, zb5 s (by omega) h, zc3]
theorem zg7 {s : Bs} {w : Int} {e : Entry} (h : readE s w = some e) : formE e = s ∧ zg e w = true := by
  unfold readE at h
  split at h
  · rename_i hc
    obtain ⟨hw, h6, hl⟩ := hc
    split at h
    · rename_i h1
      cases ht : readT (s.extract (nmEnd s) s.size) w with
      | none => rw [ht] at h; cases h
      | some t =>
        rw [ht] at h
        simp only at h
        split at h
        · rename_i he
          cases h
          refine ⟨?_, he⟩
          have := zfs s t h6 hl E0 (by rw [if_pos h1, if_pos h1, (zls ht).1]) (by rw [if_pos h1])
          rw [h1] at this; exact this
        · cases h
    · rename_i h1
      split at h
      · rename_i he
        cases h
        exact ⟨zfs s ⟨E0, []⟩ h6 hl _ (by rw [if_neg h1, if_neg h1]) (by rw [if_neg h1]), he⟩
      · cases h
  · cases h
theorem zuo {k m : Int} {n : Nat} (x : Bs) (hk : 0 ≤ k ∧ k ≤ 255) (hm : 0 ≤ m ∧ m < 4294967296) (hn : n ≤ 255) :
    byteAt (hd6 k m n ++ x) 0 = k ∧ num4 (hd6 k m n ++ x) = m ∧ byteAt (hd6 k m n ++ x) 5 = n := by
  have hs := zeb k m n
  have b : ∀ i v, i < 6 → ([[C.i k], [.i (m / 16777216)], [.i (m / 65536 % 256)], [.i (m / 256 % 256)], [.i (m % 256)], [.i (n : Int)]] : Rw)[i]? = some [.i v] → (0 ≤ v ∧ v ≤ 255) → byteAt (hd6 k m n ++ x) i = v := fun i v hi h1 h2 => by
    rw [zkb _ _ _ (by omega)]; exact ze6 _ _ _ h1 h2
  refine ⟨b 0 k (by omega) rfl hk, ?_, b 5 n (by omega) rfl (by omega)⟩
  unfold num4
  rw [b 1 (m / 16777216) (by omega) rfl (by omega), b 2 (m / 65536 % 256) (by omega) rfl (by omega), b 3 (m / 256 % 256) (by omega) rfl (by omega), b 4 (m % 256) (by omega) rfl (by omega)]
  omega
theorem zg3 {e : Entry} {w : Int} (h : zg e w = true) : readE (formE e) w = some e := by
  have hk := EntryOk.kd h; have hnm := EntryOk.nm h; have hsm := EntryOk.sum h; have hnum := EntryOk.num h
  have hform : formE e = hd6 e.kind e.number e.name.size ++ (e.name ++ (e.sum ++ (if e.kind = 1 then formM e.thing else E0))) := by unfold formE; rw [zd4, zd4]
  obtain ⟨c0, c1, c2⟩ := zuo (k := e.kind) (m := e.number) (n := e.name.size) (e.name ++ (e.sum ++ (if e.kind = 1 then formM e.thing else E0))) (by omega) (by omega) (by omega)
  rw [← hform] at c0 c1 c2
  have hs : (formE e).size = 6 + (e.name.size + (e.sum.size + (if e.kind = 1 then formM e.thing else E0).size)) := by rw [hform, z5, z5, z5, zeb]
  have hend : nmEnd (formE e) = 6 + e.name.size := by unfold nmEnd; rw [c2]; rfl
  have x1 : (formE e).extract 6 (6 + e.name.size) = e.name := by
    have := zdr (hd6 e.kind e.number e.name.size) (e.name ++ (e.sum ++ (if e.kind = 1 then formM e.thing else E0))) 0 e.name.size
    rw [← hform, zeb] at this
    rw [show (6 : Nat) = 6 + 0 from rfl, show 6 + 0 + e.name.size = 6 + e.name.size by omega, this, zm0 _ _ _ _ (Nat.le_refl _), zc3]
  have x2 : (formE e).extract (6 + e.name.size) (formE e).size = e.sum ++ (if e.kind = 1 then formM e.thing else E0) := by
    have h1 := zdr (hd6 e.kind e.number e.name.size) (e.name ++ (e.sum ++ (if e.kind = 1 then formM e.thing else E0))) (e.name.size + 0) (e.name.size + (e.sum ++ (if e.kind = 1 then formM e.thing else E0)).size)
    have h2 := zdr e.name (e.sum ++ (if e.kind = 1 then formM e.thing else E0)) 0 (e.sum ++ (if e.kind = 1 then formM e.thing else E0)).size
    rw [zc3] at h2
    rw [h2, ← hform, zeb] at h1
    rw [hs, ← h1, z5]; congr 1
  unfold readE
  rw [if_pos ⟨EntryOk.wd h, by omega, by rw [hend]; omega⟩, hend, x1, x2, c0, c1]
  obtain ⟨k, sm, nm, m, t⟩ := e
  simp only at *
  by_cases h1 : k = 1
  · have hsum : sm = E0 := by
      unfold zg sumB uS at h; simp only [Bool.and_eq_true, decide_eq_true_eq] at h
      have := h.2.2.1
      rw [if_neg (by omega)] at this
      exact of_decide_eq_true this
    rw [if_pos h1, if_pos h1, hsum, zmd, zhm (EntryOk.thing h h1)]
    subst h1; subst hsum
    simp only
    rw [if_pos h]
  · have ht : t = ⟨E0, []⟩ := EntryOk.nothing h h1
    subst ht
    rw [if_neg h1, if_neg h1, zee, if_pos h]
end KV
end
section
namespace KV
open Go Go.Eng
open Classical
def encOE : Option Entry → Lv
  | none => [.i 0, .s E0, .s E0, .i 0, .s E0, .b false, .l []]
  | some e => [.i e.kind, .s e.sum, .s e.name, .i e.number, .s e.thing.text, .b true, .l (encS e.thing.refs)]
theorem or32 {x y k : Nat} (hx : x < 2 ^ k) (hy : 2 ^ k * y < 4294967296) (hk : 2 ^ k ≤ 4294967296) :
    IntKind.u32.wrap ((BitVec.ofInt IntKind.u32.bits ((x : Nat) : Int) ||| BitVec.ofInt IntKind.u32.bits ((2 ^ k * y : Nat) : Int)).toNat : Int) = ((2 ^ k * y + x : Nat) : Int) := by
  show IntKind.u32.wrap ((BitVec.ofInt 32 ((x : Nat) : Int) ||| BitVec.ofInt 32 ((2 ^ k * y : Nat) : Int)).toNat : Int) = _
  rw [BitVec.toNat_or, BitVec.toNat_ofInt, BitVec.toNat_ofInt]
  have e1 : (((x : Nat) : Int) % ((2 ^ 32 : Nat) : Int)).toNat = x := by
    rw [Int.emod_eq_of_lt (by omega) (by have : (2 ^ 32 : Nat) = 4294967296 := rfl; omega)]; rfl
  have e2 : (((2 ^ k * y : Nat) : Int) % ((2 ^ 32 : Nat) : Int)).toNat = 2 ^ k * y := by
    rw [Int.emod_eq_of_lt (by omega) (by have : (2 ^ 32 : Nat) = 4294967296 := rfl; omega)]; rfl
  rw [e1, e2, Nat.or_comm, ← Nat.two_pow_add_eq_or_of_lt hx]
  have hor := Nat.two_pow_add_eq_or_of_lt hx y
  have : 2 ^ k * y + x < 4294967296 := by
    have h1 : 2 ^ k * y ||| x < 2 ^ 32 := Nat.or_lt_two_pow (by simpa using hy) (by simpa using Nat.lt_of_lt_of_le hx hk)
    rw [← hor] at h1; simpa using h1
  exact IntWalk.u32_in _ (by omega)
theorem zp6 (s : Bs) (i : Nat) (h : i < s.size) : (rd (rowsOf s) i 0).int = byteAt s i := by
  unfold rowsOf
  rw [zg0 _ (0 : UInt8) _ _ _ (by simpa using h)]
  unfold byteAt nth
  simp only [List.getD_cons_zero, C.int]
  congr 2
  rw [List.getD_eq_getElem?_getD]; simp [Array.getD]
  rw [dif_pos h, Array.getElem?_eq_getElem h]; rfl
theorem zus (s : Bs) (a b i : Nat) (h : a + i < b) (hb : b ≤ s.size) : byteAt (s.extract a b) i = byteAt s (a + i) := by
  have e1 := zcd (s.extract a b) i (by rw [size_extract]; omega)
  have e2 := zcd s (a + i) (by omega)
  rw [zeh, show a + (i + 1) = a + i + 1 by omega, Nat.min_eq_left (by omega), e2] at e1
  have r1 := zw s (a + i); have r2 := zw (s.extract a b) i
  have h1 := ze6 [[.i (byteAt s (a + i))]] 0 _ rfl (by omega)
  have h2 := ze6 [[.i (byteAt (s.extract a b) i)]] 0 _ rfl (by omega)
  rw [← h1, ← h2, e1]
theorem zhv (s : Bs) (h : 6 ≤ s.size) : Lqdo none [.l (rowsOf (s.extract 1 5))] = some [.i (num4 s)] := by
  rw [eqdo_i]
  have hl : (rowsOf (s.extract 1 5)).length = 4 := by rw [zep, size_extract]; omega
  have hz : (s.extract 1 5).size = 4 := by rw [size_extract]; omega
  have c : ∀ i, i < 4 → (rd (rowsOf (s.extract 1 5)) i 0).int = byteAt s (1 + i) := fun i hi => by
    rw [zp6 _ _ (by omega), zus s 1 5 i (by omega) (by omega)]
  have b1 := zw s 1; have b2 := zw s 2; have b3 := zw s 3; have b4 := zw s 4
  rw [c 0 (by omega), c 1 (by omega), c 2 (by omega), c 3 (by omega)]
  unfold num4
  simp only [Nat.add_zero, show 1 + 1 = 2 from rfl, show 1 + 2 = 3 from rfl, show 1 + 3 = 4 from rfl]
  obtain ⟨x1, h1⟩ : ∃ x : Nat, byteAt s 1 = (x : Int) := ⟨(byteAt s 1).toNat, by omega⟩
  obtain ⟨x2, h2⟩ : ∃ x : Nat, byteAt s 2 = (x : Int) := ⟨(byteAt s 2).toNat, by omega⟩
  obtain ⟨x3, h3⟩ : ∃ x : Nat, byteAt s 3 = (x : Int) := ⟨(byteAt s 3).toNat, by omega⟩
  obtain ⟨x4, h4⟩ : ∃ x : Nat, byteAt s 4 = (x : Int) := ⟨(byteAt s 4).toNat, by omega⟩
  rw [h1] at b1 ⊢; rw [h2] at b2 ⊢; rw [h3] at b3 ⊢; rw [h4] at b4 ⊢
  have u : ∀ n : Int, 0 ≤ n ∧ n ≤ 4294967295 → IntKind.u32.wrap n = n := IntWalk.u32_in
  rw [u (x1 : Int) (by omega), u (x2 : Int) (by omega), u (x3 : Int) (by omega), u (x4 : Int) (by omega)]
  rw [show ((x3 : Int) * 2 ^ 8) = ((2 ^ 8 * x3 : Nat) : Int) by omega, show ((x2 : Int) * 2 ^ 16) = ((2 ^ 16 * x2 : Nat) : Int) by omega, show ((x1 : Int) * 2 ^ 24) = ((2 ^ 24 * x1 : Nat) : Int) by omega]
  rw [u ((2 ^ 8 * x3 : Nat) : Int) (by omega), u ((2 ^ 16 * x2 : Nat) : Int) (by omega), u ((2 ^ 24 * x1 : Nat) : Int) (by omega)]
  rw [or32 (x := x4) (y := x3) (k := 8) (by omega) (by omega) (by omega), or32 (x := 2 ^ 8 * x3 + x4) (y := x2) (k := 16) (by omega) (by omega) (by omega), or32 (x := 2 ^ 16 * x2 + (2 ^ 8 * x3 + x4)) (y := x1) (k := 24) (by omega) (by omega) (by omega)]
  simp only [hl, show inb 3 4 = true from rfl, show inb 2 4 = true from rfl, show inb 1 4 = true from rfl, show inb 0 4 = true from rfl, cond_true]
  congr 3; omega
theorem zhp {s : Bs} {w : Int} (h : zj w = false) : readE s w = none := by unfold readE; rw [if_neg fun h1 => by rw [h] at h1; cases h1.1]
theorem zj2 {s : Bs} {w : Int} (h : ¬ 6 ≤ s.size) : readE s w = none := by unfold readE; rw [if_neg fun h1 => h h1.2.1]
theorem zmu {s : Bs} {w : Int} (h : ¬ nmEnd s ≤ s.size) : readE s w = none := by unfold readE; rw [if_neg fun h1 => h h1.2.2]
theorem zr0 (s : Bs) (w : Int) (hs : s.size ≤ 1099511627776) : Lqdp none [.s s, .i w] = some (encOE (readE s w)) := by
  rw [eqdp_i, zd8]
  by_cases h6 : 6 ≤ s.size
  · cases hw : zj w
    · simp (disch := omega) only [push_cast, zhp hw] <;> rfl
    have b5 := zw s 5; have b0 := zw s 0
    have hz : (s.extract 6 s.size).size = s.size - 6 := by rw [size_extract]; omega
    have hnm := zu4 s
    by_cases hn : nmEnd s ≤ s.size
    · have hn' : 6 + byteAt s 5 ≤ s.size := by unfold nmEnd at hn; omega
      have x1 : (s.extract 6 s.size).extract 0 (byteAt s 5).toNat = s.extract 6 (nmEnd s) := by rw [zeh]; unfold nmEnd; congr 1; omega
      have x2 : (s.extract 6 s.size).extract (byteAt s 5).toNat (s.size - 6) = s.extract (nmEnd s) s.size := by rw [zeh]; unfold nmEnd; congr 1; omega
      have hsz : (s.extract 6 (nmEnd s)).size ≤ 4611686018427387904 := by rw [size_extract]; omega
      unfold readE
      rw [if_pos ⟨hw, h6, hn⟩]
      by_cases h1 : byteAt s 0 = 1
      · simp (disch := omega) only [push_cast, hz, zhv s h6, x1, x2, if_pos h1]
        rw [zr7 _ _ (by rw [size_extract]; omega)]
        cases ht : readT (s.extract (nmEnd s) s.size) w with
        | none => simp (disch := omega) only [push_cast, encOT] <;> rfl
        | some t =>
          have := zgc ⟨1, E0, s.extract 6 (nmEnd s), num4 s, t⟩ w hsz
          rw [← h1] at this
          simp (disch := omega) only [push_cast, encOT, show Lqe none [.i (byteAt s 0), .s E0, .s (s.extract 6 (nmEnd s)), .i (num4 s), .s t.text, .l (encS t.refs), .i w] = _ from this]
          rw [h1]
          cases zg ⟨1, E0, s.extract 6 (nmEnd s), num4 s, t⟩ w <;> rfl
      · have := zgc ⟨byteAt s 0, s.extract (nmEnd s) s.size, s.extract 6 (nmEnd s), num4 s, ⟨E0, []⟩⟩ w hsz
        simp (disch := omega) only [push_cast, hz, zhv s h6, x1, x2, if_neg h1, show Lqe none [.i (byteAt s 0), .s (s.extract (nmEnd s) s.size), .s (s.extract 6 (nmEnd s)), .i (num4 s), .s E0, .l [], .i w] = _ from this]
        cases zg ⟨byteAt s 0, s.extract (nmEnd s) s.size, s.extract 6 (nmEnd s), num4 s, ⟨E0, []⟩⟩ w <;> rfl
    · have hn' : ¬ 6 + byteAt s 5 ≤ s.size := by unfold nmEnd at hn; omega
      simp (disch := omega) only [push_cast, hz, zhv s h6, zmu hn] <;> rfl
  · simp (disch := omega) only [push_cast, zj2 h6] <;> rfl
theorem zhb (s : Bs) (w k : Int) (a nm : Bs) (m : Int) (t : Thing) (z1 z2 : Int) (y1 y2 y3 : Bs) (y4 : Rw) (hn : nm.size ≤ 4611686018427387904) :
    Lqck (some 9) [.s s, .i w, .i z1, .s y1, .s y2, .i z2, .s y3, .i k, .s a, .s nm, .i m, .s t.text, .l (encS t.refs), .l y4] = some (if zg ⟨k, a, nm, m, t⟩ w = true ∧ formE ⟨k, a, nm, m, t⟩ = s then encOE (some ⟨k, a, nm, m, t⟩) else encOE none) := by
  rw [eqck_9]
  have h1 := zhk ⟨k, a, nm, m, t⟩ w hn
  have h2 := zdu ⟨k, a, nm, m, t⟩ w hn
  simp (disch := omega) only [push_cast, show Lqu none [.i k, .s a, .s nm, .i m, .s t.text, .l (encS t.refs), .i w] = _ from h1, show Lqv none [.i k, .s a, .s nm, .i m, .s t.text, .l (encS t.refs), .i w] = _ from h2]
  cases he : zg ⟨k, a, nm, m, t⟩ w
  · simp (disch := omega) only [push_cast]
    rw [if_neg fun h => by cases h.1]; rfl
  · by_cases hf : formE ⟨k, a, nm, m, t⟩ = s
    · simp (disch := omega) only [push_cast]; rw [if_pos ⟨trivial, hf⟩]; rfl
    · simp (disch := omega) only [push_cast]; rw [if_neg fun h => hf h.2]; rfl
theorem zvc (s : Bs) (w : Int) (hs : s.size ≤ 1099511627776) : Lqck none [.s s, .i w] = some (encOE (readE s w)) := by
  rw [eqck_i, zq]
  cases hw : zj w
  · simp (disch := omega) only [push_cast, zhp hw] <;> rfl
  by_cases h6 : 6 ≤ s.size
  · have b5 := zw s 5; have b0 := zw s 0; have b1 := zw s 1; have b2 := zw s 2; have b3 := zw s 3; have b4 := zw s 4
    by_cases hn : nmEnd s ≤ s.size
    · have hn' : 6 + byteAt s 5 ≤ s.size := by unfold nmEnd at hn; omega
      have hne : (6 + byteAt s 5).toNat = nmEnd s := by unfold nmEnd; omega
      have hsz : (s.extract 6 (nmEnd s)).size ≤ 4611686018427387904 := by rw [size_extract]; omega
      have hnum : byteAt s 1 * 16777216 + byteAt s 2 * 65536 + byteAt s 3 * 256 + byteAt s 4 = num4 s := rfl
      have hnn : (6 : Int) ≤ (nmEnd s : Int) := by unfold nmEnd; omega
      unfold readE
      rw [if_pos ⟨hw, h6, hn⟩]
      by_cases h1 : byteAt s 0 = 1
      · simp (disch := omega) only [push_cast, hne, hnum, if_pos h1]
        rw [zsy _ _ (by rw [size_extract]; omega)]
        cases ht : readT (s.extract (nmEnd s) s.size) w with
        | none =>
          simp (disch := omega) only [push_cast, encOT]
          have := zhb s w (byteAt s 0) E0 (s.extract 6 (nmEnd s)) (num4 s) ⟨E0, []⟩ 0 0 E0 E0 E0 [] hsz
          rw [show Lqck (some 9) [.s s, .i w, .i 0, .s E0, .s E0, .i 0, .s E0, .i (byteAt s 0), .s E0, .s (s.extract 6 (nmEnd s)), .i (num4 s), .s E0, .l [], .l []] = _ from this]
          rw [if_neg]
          rintro ⟨he, hf⟩
          have h2 := zg3 he
          rw [hf] at h2
          unfold readE at h2
          rw [if_pos ⟨hw, h6, hn⟩, if_pos h1, ht] at h2
          cases h2
        | some t =>
          simp (disch := omega) only [push_cast, encOT]
          rw [zhb _ _ _ _ _ _ t _ _ _ _ _ _ hsz, h1]
          by_cases he : zg ⟨1, E0, s.extract 6 (nmEnd s), num4 s, t⟩ w = true
          · have hf := zfs s t h6 hn E0 (by rw [if_pos h1, if_pos h1, (zls ht).1]) (by rw [if_pos h1])
            rw [h1] at hf
            rw [if_pos ⟨he, hf⟩, if_pos he]
          · rw [if_neg fun h => he h.1, if_neg he]
      · simp (disch := omega) only [push_cast, hne, hnum, if_neg h1]
        have := zhb s w (byteAt s 0) (s.extract (nmEnd s) s.size) (s.extract 6 (nmEnd s)) (num4 s) ⟨E0, []⟩ 0 0 E0 E0 E0 [] hsz
        rw [show Lqck (some 9) [.s s, .i w, .i 0, .s E0, .s E0, .i 0, .s E0, .i (byteAt s 0), .s (s.extract (nmEnd s) s.size), .s (s.extract 6 (nmEnd s)), .i (num4 s), .s E0, .l [], .l []] = _ from this]
        by_cases he : zg ⟨byteAt s 0, s.extract (nmEnd s) s.size, s.extract 6 (nmEnd s), num4 s, ⟨E0, []⟩⟩ w = true
        · have hf := zfs s ⟨E0, []⟩ h6 hn (s.extract (nmEnd s) s.size) (by rw [if_neg h1, if_neg h1]) (by rw [if_neg h1])
          rw [if_pos ⟨he, hf⟩, if_pos he]
        · rw [if_neg fun h => he h.1, if_neg he]
    · have hn' : ¬ 6 + byteAt s 5 ≤ s.size := by unfold nmEnd at hn; omega
      simp (disch := omega) only [push_cast, zmu hn] <;> rfl
  · simp (disch := omega) only [push_cast, zj2 h6] <;> rfl
end KV
end
section
namespace KV
open Go Go.Eng
open Classical
structure Kept where
  sum : Bs
  born : Int
  thing : Thing
structure Pin where
  name : Bs
  sum : Bs
structure Lease where
  number : Int
  sum : Bs
  till : Int
structure State where
  width : Int
  now : Int
  given : Int
  births : Int
  things : List Kept
  pins : List Pin
  leases : List Lease
def K0 : Kept := ⟨.empty, 0, ⟨.empty, []⟩⟩
def P0 : Pin := ⟨.empty, .empty⟩
def L0 : Lease := ⟨0, .empty, 0⟩
def cK (k : Kept) : List C := [.s k.sum, .i k.born, .s k.thing.text, .l (encS k.thing.refs)]
def cP (p : Pin) : List C := [.s p.name, .s p.sum]
def cL (l : Lease) : List C := [.i l.number, .s l.sum, .i l.till]
def encK (l : List Kept) : Rw := l.map cK
def encP (l : List Pin) : Rw := l.map cP
def encL (l : List Lease) : Rw := l.map cL
def encSt (s : State) : Lv := [.i s.width, .i s.now, .i s.given, .i s.births, .l (encK s.things), .l (encP s.pins), .l (encL s.leases)]
@[push_cast] theorem zcu (l : List Kept) : (encK l).length = l.length := by simp [encK]
@[push_cast] theorem zbx (l : List Pin) : (encP l).length = l.length := by simp [encP]
@[push_cast] theorem zb2 (l : List Lease) : (encL l).length = l.length := by simp [encL]
theorem zni {α : Type} (d : α) (l : List α) (i : Nat) (h : l.length ≤ i) : nth d l i = d := by
  rw [nth, List.getD_eq_getElem?_getD, List.getElem?_eq_none h]; rfl
theorem zbg {α β : Type} (f : α → List C) (d : α) (l : List α) (i o : Nat) (g : C → β) (h : g (.i 0) = g ((f d).getD o (.i 0))) : g (rd (l.map f) i o) = g ((f (nth d l i)).getD o (.i 0)) := by
  rcases Nat.lt_or_ge i l.length with h1 | h1
  · rw [zg0 f d _ _ _ h1]
  · rw [zie _ _ _ _ h1, zni d l i h1, h]
@[push_cast] theorem zvm (l : List Kept) (i : Nat) : (rd (encK l) i 0).str = (nth K0 l i).sum := zbg cK K0 l i 0 C.str rfl
@[push_cast] theorem zvg (l : List Kept) (i : Nat) : (rd (encK l) i 1).int = (nth K0 l i).born := zbg cK K0 l i 1 C.int rfl
@[push_cast] theorem zvr (l : List Kept) (i : Nat) : (rd (encK l) i 2).str = (nth K0 l i).thing.text := zbg cK K0 l i 2 C.str rfl
@[push_cast] theorem zvf (l : List Kept) (i : Nat) : (rd (encK l) i 3).list = encS (nth K0 l i).thing.refs := zbg cK K0 l i 3 C.list rfl
@[push_cast] theorem zgw (l : List Pin) (i : Nat) : (rd (encP l) i 0).str = (nth P0 l i).name := zbg cP P0 l i 0 C.str rfl
@[push_cast] theorem zia (l : List Pin) (i : Nat) : (rd (encP l) i 1).str = (nth P0 l i).sum := zbg cP P0 l i 1 C.str rfl
@[push_cast] theorem zhc (l : List Lease) (i : Nat) : (rd (encL l) i 0).int = (nth L0 l i).number := zbg cL L0 l i 0 C.int rfl
@[push_cast] theorem zh1 (l : List Lease) (i : Nat) : (rd (encL l) i 1).str = (nth L0 l i).sum := zbg cL L0 l i 1 C.str rfl
@[push_cast] theorem zh2 (l : List Lease) (i : Nat) : (rd (encL l) i 2).int = (nth L0 l i).till := zbg cL L0 l i 2 C.int rfl
theorem zbc (l m : List Kept) : encK l ++ encK m = encK (l ++ m) := by simp [encK]
theorem zcg (l m : List Pin) : encP l ++ encP m = encP (l ++ m) := by simp [encP]
theorem zdm (l m : List Lease) : encL l ++ encL m = encL (l ++ m) := by simp [encL]
theorem zdj (a : Bs) (b : Int) (c : Bs) (r : List Bs) : ([[.s a, .i b, .s c, .l (encS r)]] : Rw) = encK [⟨a, b, ⟨c, r⟩⟩] := rfl
theorem zej (a b : Bs) : ([[.s a, .s b]] : Rw) = encP [⟨a, b⟩] := rfl
theorem zb8 (l : List Kept) (a b : Nat) : Eng.sub (encK l) a b = encK ((l.drop a).take (b - a)) := zf8 _ _ _ _
theorem zfg (l : List Pin) (a b : Nat) : Eng.sub (encP l) a b = encP ((l.drop a).take (b - a)) := zf8 _ _ _ _
theorem zm6 (l : List Lease) (a b : Nat) : Eng.sub (encL l) a b = encL ((l.drop a).take (b - a)) := zf8 _ _ _ _
theorem wrP (l : List Pin) (i : Nat) (x : Bs) (h : i < l.length) : wrs (encP l) i 1 [.s x] = encP (l.set i ⟨(nth P0 l i).name, x⟩) := by
  unfold wrs wrs wr encP
  rw [List.map_set]
  congr 1
  have : (l.map cP).getD i [] = cP (nth P0 l i) := by rw [zm P0 l i h, List.getD_eq_getElem?_getD]; simp [h]
  rw [this]; rfl
theorem zhz {f : Nat → Nat → Option Lv} {q : Nat → Bool} {n r : Nat} (hr : r ≤ n) (h1 : ∀ j, j < r → q j = true) (h2 : ∀ j, r ≤ j → j < n → q j = false)
    (step : ∀ lo hi, lo < hi → hi ≤ n → f lo hi = cond (q ((lo + hi) / 2)) (f ((lo + hi) / 2 + 1) hi) (f lo ((lo + hi) / 2))) (last : ∀ lo, lo ≤ n → f lo lo = some [.i (lo : Int)]) : f 0 n = some [.i (r : Int)] := by
  have : ∀ m lo hi, hi - lo = m → lo ≤ r → r ≤ hi → hi ≤ n → f lo hi = some [.i (r : Int)] := by
    intro m
    induction m using Nat.strongRecOn with
    | ind m ih =>
      intro lo hi hm hlo hhi hn
      rcases Nat.lt_or_ge lo hi with hlt | hge
      · rw [step lo hi hlt hn]
        rcases Nat.lt_or_ge ((lo + hi) / 2) r with h | h
        · rw [h1 _ h]; exact ih _ (by omega) _ _ rfl (by omega) hhi hn
        · rw [h2 _ h (by omega)]; exact ih _ (by omega) _ _ rfl hlo h (by omega)
      · have e1 : lo = r := by omega
        have e2 : hi = r := by omega
        subst e1; subst e2; exact last _ hn
  exact this n 0 n (by omega) (by omega) hr (Nat.le_refl _)
theorem zl6 {α : Type} {f : Nat → Option Lv} {l : List α} {d : α} {p : α → Bool} {ret : Nat → Option Lv} {e : Option Lv} (step : ∀ i, i < l.length → f i = cond (p (nth d l i)) (ret i) (f (i + 1))) (last : f l.length = e) :
    f 0 = match l.findIdx? p with | some i => ret i | none => e := by
  have : ∀ m i, l.length - i = m → i ≤ l.length → f i = match (l.drop i).findIdx? p with | some j => ret (i + j) | none => e := by
    intro m
    induction m with
    | zero =>
      intro i hm hi
      have : i = l.length := by omega
      subst this; rw [last, List.drop_length]; rfl
    | succ m ih =>
      intro i hm hi
      rw [step i (by omega), zc8 d (show i < l.length by omega), List.findIdx?_cons]
      cases p (nth d l i)
      · rw [cond_false, ih (i + 1) (by omega) (by omega)]
        cases (l.drop (i + 1)).findIdx? p with
        | none => rfl
        | some j => simp only [Option.map_some]; rw [show i + 1 + j = i + (j + 1) by omega]; rfl
      · rfl
  have h := this l.length 0 (by omega) (by omega)
  rw [List.drop_zero] at h
  rw [h]
  cases l.findIdx? p with
  | none => rfl
  | some j => simp
def lb {α : Type} (q : α → Bool) (l : List α) : Nat := (l.takeWhile q).length
theorem lb_le {α : Type} (q : α → Bool) (l : List α) : lb q l ≤ l.length := by
  unfold lb
  induction l with
  | nil => simp
  | cons a l ih => rw [List.takeWhile_cons]; split <;> simp <;> omega
theorem lb_lt {α : Type} (q : α → Bool) (d : α) : ∀ (l : List α) j, j < lb q l → q (nth d l j) = true
  | [], j, h => by simp [lb] at h
  | a :: l, j, h => by
    unfold lb at h
    rw [List.takeWhile_cons] at h
    split at h
    · rename_i hq
      cases j with
      | zero => exact hq
      | succ j => rw [zc9]; exact lb_lt q d l j (by simpa [lb] using h)
    · simp at h
theorem lb_at {α : Type} (q : α → Bool) (d : α) : ∀ (l : List α), lb q l < l.length → q (nth d l (lb q l)) = false
  | [], h => by simp at h
  | a :: l, h => by
    unfold lb at h ⊢
    rw [List.takeWhile_cons] at h ⊢
    split
    · rename_i hq
      rw [if_pos hq] at h
      simp only [List.length_cons, zc9] at h ⊢
      exact lb_at q d l (by unfold lb; omega)
    · rename_i hq; simp only [List.length_nil, zit]; simpa using hq
end KV
end
section
namespace KV
open Go Go.Eng
open Classical
theorem zfr {α : Type} {R : α → α → Prop} (d : α) {l : List α} (h : l.Pairwise R) {i j : Nat} (hij : i < j) (hj : j < l.length) : R (nth d l i) (nth d l j) := by
  rw [zm d l i (by omega), zm d l j hj]
  exact List.pairwise_iff_getElem.1 h i j (by omega) hj hij
theorem lb_hi {α : Type} {R : α → α → Prop} {q : α → Bool} (d : α) {l : List α} (h : l.Pairwise R) (mono : ∀ a b, R a b → q b = true → q a = true) : ∀ j, lb q l ≤ j → j < l.length → q (nth d l j) = false := by
  intro j h1 h2
  cases hq : q (nth d l j)
  · rfl
  · rcases Nat.eq_or_lt_of_le h1 with e | h3
    · rw [← e] at hq; rw [lb_at q d l (by omega)] at hq; exact hq.symm
    · have := mono _ _ (zfr d h h3 h2) hq
      rw [lb_at q d l (by omega)] at this; cases this
theorem zcn {α : Type} {R : α → α → Prop} {q : α → Bool} {p : α → Prop} (d : α) {l : List α} (h : l.Pairwise R) (hp : ∀ a, p a → q a = false) (hR : ∀ a b, R a b → p b → q a = true) {j : Nat} (hj : j < l.length) (hk : p (nth d l j)) : j = lb q l := by
  have h1 : lb q l ≤ j := by
    rcases Nat.lt_or_ge j (lb q l) with h3 | h3
    · have := lb_lt q d l j h3; rw [hp _ hk] at this; cases this
    · exact h3
  rcases Nat.eq_or_lt_of_le h1 with e | h3
  · exact e.symm
  · have := hR _ _ (zfr d h h3 hj) hk
    rw [lb_at q d l (by omega)] at this; cases this
theorem zdi {α : Type} {R : α → α → Prop} {q : α → Bool} {p : α → Prop} (d : α) {l : List α} (h : l.Pairwise R) (hp : ∀ a, p a → q a = false) (hR : ∀ a b, R a b → p b → q a = true) :
    (∃ a ∈ l, p a) ↔ lb q l < l.length ∧ p (nth d l (lb q l)) := by
  constructor
  · rintro ⟨a, ha, hpa⟩
    obtain ⟨j, hj, rfl⟩ := z9 d ha
    have := zcn d h hp hR hj hpa
    rw [← this]; exact ⟨hj, hpa⟩
  · rintro ⟨h1, h2⟩; exact ⟨_, zi h1, h2⟩
theorem zpe {α : Type} {R : α → α → Prop} {q : α → Bool} {p : α → Prop} [DecidablePred p] (d : α) {l : List α} (h : l.Pairwise R) (hp : ∀ a, p a → q a = false) (hR : ∀ a b, R a b → p b → q a = true) :
    l.findIdx? (fun a => decide (p a)) = if ∃ a ∈ l, p a then some (lb q l) else none := by
  split
  · rename_i he
    obtain ⟨h1, h2⟩ := (zdi d h hp hR).1 he
    rw [List.findIdx?_eq_some_iff_getElem]
    refine ⟨h1, ?_, fun j hj => ?_⟩
    · rw [← zm d l _ h1]; exact decide_eq_true h2
    · rw [← zm d l j (by omega)]
      simp only [decide_eq_true_eq]
      intro hpj
      have := zcn d h hp hR (show j < l.length by omega) hpj
      omega
  · rename_i he
    rw [List.findIdx?_eq_none_iff]
    intro a ha
    exact decide_eq_false fun hpa => he ⟨a, ha, hpa⟩
theorem zhr {α : Type} {R : α → α → Prop} {q : α → Bool} {p : α → Prop} [DecidablePred p] (d : α) {l : List α} (h : l.Pairwise R) (hp : ∀ a, p a → q a = false) (hR : ∀ a b, R a b → p b → q a = true) (he : ∃ a ∈ l, p a) :
    l.filter (fun a => !decide (p a)) = l.take (lb q l) ++ l.drop (lb q l + 1) := by
  obtain ⟨h1, h2⟩ := (zdi d h hp hR).1 he
  conv => lhs; rw [← List.take_append_drop (lb q l) l, List.filter_append, zc8 d h1, List.filter_cons]
  rw [if_neg (by simp [h2])]
  congr 1
  · apply List.filter_eq_self.2
    intro a ha
    obtain ⟨j, hj, rfl⟩ := List.mem_iff_getElem.1 ha
    simp only [List.getElem_take, Bool.not_eq_true', decide_eq_false_iff_not]
    rw [List.length_take] at hj
    rw [← zm d l j (by omega)]
    intro hpj; have := zcn d h hp hR (show j < l.length by omega) hpj; omega
  · apply List.filter_eq_self.2
    intro a ha
    obtain ⟨j, hj, rfl⟩ := List.mem_iff_getElem.1 ha
    simp only [List.getElem_drop, Bool.not_eq_true', decide_eq_false_iff_not]
    rw [List.length_drop] at hj
    rw [← zm d l _ (by omega)]
    intro hpj; have := zcn d h hp hR (show lb q l + 1 + j < l.length by omega) hpj; omega
def SrtK (l : List Kept) : Prop := l.Pairwise fun a b => slt a.sum b.sum = true
def SrtP (l : List Pin) : Prop := l.Pairwise fun a b => slt a.name b.name = true
def SrtL (l : List Lease) : Prop := l.Pairwise fun a b => a.number < b.number
def qK (x : Bs) (k : Kept) : Bool := slt k.sum x
def qP (x : Bs) (k : Pin) : Bool := slt k.name x
def qL (x : Int) (k : Lease) : Bool := decide (k.number < x)
def hasT (l : List Kept) (x : Bs) : Prop := ∃ k ∈ l, k.sum = x
def hasP (l : List Pin) (x : Bs) : Prop := ∃ k ∈ l, k.name = x
def hasL (l : List Lease) (x : Int) : Prop := ∃ k ∈ l, k.number = x
theorem kp (x : Bs) (a : Kept) (h : a.sum = x) : qK x a = false := by unfold qK; rw [h, zdt]
theorem kR (x : Bs) (a b : Kept) (h : slt a.sum b.sum = true) (hb : b.sum = x) : qK x a = true := by unfold qK; rw [← hb]; exact h
theorem pp (x : Bs) (a : Pin) (h : a.name = x) : qP x a = false := by unfold qP; rw [h, zdt]
theorem pR (x : Bs) (a b : Pin) (h : slt a.name b.name = true) (hb : b.name = x) : qP x a = true := by unfold qP; rw [← hb]; exact h
theorem lp (x : Int) (a : Lease) (h : a.number = x) : qL x a = false := by unfold qL; simp; omega
theorem lR (x : Int) (a b : Lease) (h : a.number < b.number) (hb : b.number = x) : qL x a = true := by unfold qL; simp; omega
theorem zbk {l : List Kept} (h : SrtK l) (x : Bs) : hasT l x ↔ lb (qK x) l < l.length ∧ (nth K0 l (lb (qK x) l)).sum = x := zdi K0 h (kp x) (kR x)
theorem zdz {l : List Pin} (h : SrtP l) (x : Bs) : hasP l x ↔ lb (qP x) l < l.length ∧ (nth P0 l (lb (qP x) l)).name = x := zdi P0 h (pp x) (pR x)
theorem zmz {l : List Lease} (h : SrtL l) (x : Int) : hasL l x ↔ lb (qL x) l < l.length ∧ (nth L0 l (lb (qL x) l)).number = x := zdi L0 h (lp x) (lR x)
structure VS (s : State) : Prop where
  wd : 1 ≤ s.width ∧ s.width ≤ 8
  now : 0 ≤ s.now ∧ s.now ≤ 1000000000
  given : 0 ≤ s.given ∧ s.given ≤ 1000000000
  births : 0 ≤ s.births ∧ s.births ≤ 1000000000
  nT : s.things.length ≤ 600
  nP : s.pins.length ≤ 100
  nL : s.leases.length ≤ 200
  srtT : SrtK s.things
  okT : ∀ k ∈ s.things, ThingOk k.thing s.width ∧ k.sum = sumM (formM k.thing) s.width ∧ 1 ≤ k.born ∧ k.born ≤ s.births
  ndT : (s.things.map (·.born)).Nodup
  refs : ∀ k ∈ s.things, ∀ r ∈ k.thing.refs, ∃ j ∈ s.things, j.sum = r ∧ j.born < k.born
  srtP : SrtP s.pins
  okP : ∀ p ∈ s.pins, NameOk p.name ∧ hasT s.things p.sum
  srtL : SrtL s.leases
  okL : ∀ l ∈ s.leases, 1 ≤ l.number ∧ l.number ≤ s.given ∧ hasT s.things l.sum ∧ s.now < l.till ∧ l.till ≤ s.now + 100000
structure Out where
  code : Int
  st : State
  sum : Bs
  lease : Int
  a : Bs
  b : Bs
def fail (s : State) (c : Int) : Out := ⟨c, s, E0, 0, E0, E0⟩
def done (s : State) : Out := ⟨0, s, E0, 0, E0, E0⟩
def lent (s : State) (x : Bs) (hold : Int) : State := { s with given := s.given + 1, leases := s.leases ++ [⟨s.given + 1, x, s.now + hold⟩] }
def insK (k : Kept) (l : List Kept) : List Kept := l.take (lb (qK k.sum) l) ++ k :: l.drop (lb (qK k.sum) l)
noncomputable def delK (x : Bs) (l : List Kept) : List Kept := l.filter fun k => !decide (k.sum = x)
noncomputable def putP (n x : Bs) (l : List Pin) : List Pin := if hasP l n then l.set (lb (qP n) l) ⟨n, x⟩ else l.take (lb (qP n) l) ++ ⟨n, x⟩ :: l.drop (lb (qP n) l)
noncomputable def delP (n : Bs) (l : List Pin) : List Pin := l.filter fun k => !decide (k.name = n)
noncomputable def delL (n : Int) (l : List Lease) : List Lease := l.filter fun k => !decide (k.number = n)
def held (s : State) (x : Bs) : Prop := (∃ p ∈ s.pins, p.sum = x) ∨ ∃ l ∈ s.leases, l.sum = x
def isRef (l : List Kept) (x : Bs) : Prop := ∃ k ∈ l, x ∈ k.thing.refs
def room (s : State) : Prop := s.leases.length < 200 ∧ s.given < 1000000000
noncomputable def putS (s : State) (e : Entry) : Out :=
  if ∃ r ∈ e.thing.refs, ¬ hasT s.things r then fail s 2
  else if hasT s.things (sumM (formM e.thing) s.width) then
    (if formM (nth K0 s.things (lb (qK (sumM (formM e.thing) s.width)) s.things)).thing = formM e.thing then
      (if room s then { done (lent s (sumM (formM e.thing) s.width) e.number) with sum := sumM (formM e.thing) s.width, lease := s.given + 1 } else fail s 4)
    else { fail s 3 with a := formM (nth K0 s.things (lb (qK (sumM (formM e.thing) s.width)) s.things)).thing, b := formM e.thing })
  else if room s ∧ s.things.length < 600 ∧ s.births < 1000000000 then
    { done (lent { s with births := s.births + 1, things := insK ⟨sumM (formM e.thing) s.width, s.births + 1, e.thing⟩ s.things } (sumM (formM e.thing) s.width) e.number) with sum := sumM (formM e.thing) s.width, lease := s.given + 1 }
  else fail s 4
noncomputable def chg (s : State) (e : Entry) : Out :=
  if e.kind = 1 then putS s e
  else if e.kind = 2 then
    (if hasT s.things e.sum then (if hasP s.pins e.name ∨ s.pins.length < 100 then done { s with pins := putP e.name e.sum s.pins } else fail s 4) else fail s 2)
  else if e.kind = 3 then (if hasP s.pins e.name then done { s with pins := delP e.name s.pins } else fail s 5)
  else if e.kind = 4 then
    (if hasT s.things e.sum then (if room s then { done (lent s e.sum e.number) with lease := s.given + 1 } else fail s 4) else fail s 2)
  else if e.kind = 5 then (if hasL s.leases e.number then done { s with leases := delL e.number s.leases } else fail s 5)
  else if e.kind = 6 then (if s.now + e.number ≤ 1000000000 then done { s with now := s.now + e.number, leases := s.leases.filter fun l => decide (s.now + e.number < l.till) } else fail s 4)
  else (if hasT s.things e.sum then (if held s e.sum ∨ isRef s.things e.sum then fail s 6 else done { s with things := delK e.sum s.things }) else fail s 2)
end KV
end
section
namespace KV
open Go Go.Eng
open Classical
theorem zg5 {lo hi : Nat} (h : lo + hi ≤ 4294967296) : IntKind.i64.wrap ((IntKind.u64.wrap (IntKind.i64.wrap ((lo : Int) + (hi : Int)))).fdiv (2 ^ 1)) = (((lo + hi) / 2 : Nat) : Int) := by
  rw [w64 (n := (lo : Int) + (hi : Int)) (by omega), zgq, Int.fdiv_eq_ediv_of_nonneg _ (by decide), w64 (by omega)]
  omega
theorem zpp (w now g b : Int) (T : List Kept) (P L : Rw) (x : Bs) (h : SrtK T) (hn : T.length ≤ 1000000) :
    Lqb7 none [.i (T.length : Int), .i w, .i now, .i g, .i b, .l (encK T), .l P, .l L, .s x] = some [.i (lb (qK x) T : Int)] := by
  rw [eqb7_i]
  refine zhz (f := fun lo hi => Lqb7 (some 2) [.i (lo : Int), .i (hi : Int), .s x, .i w, .i now, .i g, .i b, .l (encK T), .l P, .l L]) (q := fun j => qK x (nth K0 T j)) (lb_le _ _) (fun j hj => lb_lt _ K0 _ _ hj) (fun j h1 h2 => lb_hi K0 h (fun a c hac hc => zbq hac hc) j h1 h2) (fun lo hi hl hh => ?_) (fun lo hl => ?_)
  · show Lqb7 _ _ = _
    rw [eqb7_2, zg5 (by omega), eqd0_i]
    have : (lo + hi) / 2 < hi := by omega
    generalize (lo + hi) / 2 = m at this
    simp (disch := omega) only [push_cast]
    unfold qK
    cases slt (nth K0 T m).sum x <;> rfl
  · show Lqb7 _ _ = _
    rw [eqb7_2]; simp (disch := omega) only [push_cast]
theorem zpg (w now g b : Int) (T L : Rw) (P : List Pin) (x : Bs) (h : SrtP P) (hn : P.length ≤ 1000000) :
    Lqb8 none [.i (P.length : Int), .i w, .i now, .i g, .i b, .l T, .l (encP P), .l L, .s x] = some [.i (lb (qP x) P : Int)] := by
  rw [eqb8_i]
  refine zhz (f := fun lo hi => Lqb8 (some 2) [.i (lo : Int), .i (hi : Int), .s x, .i w, .i now, .i g, .i b, .l T, .l (encP P), .l L]) (q := fun j => qP x (nth P0 P j)) (lb_le _ _) (fun j hj => lb_lt _ P0 _ _ hj) (fun j h1 h2 => lb_hi P0 h (fun a c hac hc => zbq hac hc) j h1 h2) (fun lo hi hl hh => ?_) (fun lo hl => ?_)
  · show Lqb8 _ _ = _
    rw [eqb8_2, zg5 (by omega), eqd1_i]
    have : (lo + hi) / 2 < hi := by omega
    generalize (lo + hi) / 2 = m at this
    simp (disch := omega) only [push_cast]
    unfold qP
    cases slt (nth P0 P m).name x <;> rfl
  · show Lqb8 _ _ = _
    rw [eqb8_2]; simp (disch := omega) only [push_cast]
theorem zto (w now g b : Int) (T P : Rw) (L : List Lease) (x : Int) (h : SrtL L) (hn : L.length ≤ 1000000) :
    Lqb9 none [.i (L.length : Int), .i w, .i now, .i g, .i b, .l T, .l P, .l (encL L), .i x] = some [.i (lb (qL x) L : Int)] := by
  rw [eqb9_i]
  refine zhz (f := fun lo hi => Lqb9 (some 2) [.i (lo : Int), .i (hi : Int), .i x, .i w, .i now, .i g, .i b, .l T, .l P, .l (encL L)]) (q := fun j => qL x (nth L0 L j)) (lb_le _ _) (fun j hj => lb_lt _ L0 _ _ hj) (fun j h1 h2 => lb_hi L0 h (fun a c hac hc => by unfold qL at hc ⊢; simp at hc ⊢; omega) j h1 h2) (fun lo hi hl hh => ?_) (fun lo hl => ?_)
  · show Lqb9 _ _ = _
    rw [eqb9_2, zg5 (by omega), eqd2_i]
    have : (lo + hi) / 2 < hi := by omega
    generalize (lo + hi) / 2 = m at this
    simp (disch := omega) only [push_cast]
    unfold qL
    by_cases hq : (nth L0 L m).number < x
    · rw [show decide (x ≤ (nth L0 L m).number) = false by simp; omega, show decide ((nth L0 L m).number < x) = true by simp; omega]; rfl
    · rw [show decide (x ≤ (nth L0 L m).number) = true by simp; omega, show decide ((nth L0 L m).number < x) = false by simp; omega]; rfl
  · show Lqb9 _ _ = _
    rw [eqb9_2]; simp (disch := omega) only [push_cast]
theorem zbp (w now g b : Int) (T : List Kept) (P L : Rw) (x : Bs) (h : SrtK T) (hn : T.length ≤ 1000000) :
    Lqbk none [.s x, .i w, .i now, .i g, .i b, .l (encK T), .l P, .l L] = some [.i (lb (qK x) T : Int), .b (decide (hasT T x))] := by
  have hl := lb_le (qK x) T
  have hi := zbk h x
  rw [eqbk_i, zcu, zpp w now g b T P L x h hn]
  by_cases h1 : lb (qK x) T < T.length
  · simp (disch := omega) only [push_cast]
    by_cases h2 : (nth K0 T (lb (qK x) T)).sum = x
    · rw [decide_eq_true h2, decide_eq_true (hi.2 ⟨h1, h2⟩)]
    · rw [decide_eq_false h2, decide_eq_false fun h3 => h2 (hi.1 h3).2]
  · simp (disch := omega) only [push_cast]
    rw [decide_eq_false fun h3 => h1 (hi.1 h3).1]
theorem zkm (w now g b : Int) (T L : Rw) (P : List Pin) (x : Bs) (h : SrtP P) (hn : P.length ≤ 1000000) :
    Lqdm none [.s x, .i w, .i now, .i g, .i b, .l T, .l (encP P), .l L] = some [.i (lb (qP x) P : Int), .b (decide (hasP P x))] := by
  have hl := lb_le (qP x) P
  have hi := zdz h x
  rw [eqdm_i, zbx, zpg w now g b T L P x h hn]
  by_cases h1 : lb (qP x) P < P.length
  · simp (disch := omega) only [push_cast]
    by_cases h2 : (nth P0 P (lb (qP x) P)).name = x
    · rw [decide_eq_true h2, decide_eq_true (hi.2 ⟨h1, h2⟩)]
    · rw [decide_eq_false h2, decide_eq_false fun h3 => h2 (hi.1 h3).2]
  · simp (disch := omega) only [push_cast]
    rw [decide_eq_false fun h3 => h1 (hi.1 h3).1]
theorem ztn (w now g b : Int) (T P : Rw) (L : List Lease) (x : Int) (h : SrtL L) (hn : L.length ≤ 1000000) :
    Lqdq none [.i x, .i w, .i now, .i g, .i b, .l T, .l P, .l (encL L)] = some [.i (lb (qL x) L : Int), .b (decide (hasL L x))] := by
  have hl := lb_le (qL x) L
  have hi := zmz h x
  rw [eqdq_i, zb2, zto w now g b T P L x h hn]
  by_cases h1 : lb (qL x) L < L.length
  · simp (disch := omega) only [push_cast]
    by_cases h2 : (nth L0 L (lb (qL x) L)).number = x
    · rw [decide_eq_true h2, decide_eq_true (hi.2 ⟨h1, h2⟩)]
    · rw [decide_eq_false h2, decide_eq_false fun h3 => h2 (hi.1 h3).2]
  · simp (disch := omega) only [push_cast]
    rw [decide_eq_false fun h3 => h1 (hi.1 h3).1]
theorem zbu {α : Type} {f : Nat → Option Lv} {l : List α} (d : α) {p : α → Prop} [DecidablePred p] {T E : Option Lv} (step : ∀ i, i < l.length → f i = cond (decide (p (nth d l i))) T (f (i + 1))) (last : f l.length = E) : f 0 = if (∃ a ∈ l, p a) then T else E := by
  have := zl6 (f := f) (l := l) (d := d) (p := fun a => decide (p a)) (ret := fun _ => T) (e := E) step last
  rw [this]
  by_cases h : ∃ a ∈ l, p a
  · rw [if_pos h]
    cases hf : l.findIdx? (fun a => decide (p a)) with
    | none =>
      rw [List.findIdx?_eq_none_iff] at hf
      obtain ⟨a, ha, hp⟩ := h
      have := hf a ha; simp [hp] at this
    | some i => rfl
  · rw [if_neg h]
    cases hf : l.findIdx? (fun a => decide (p a)) with
    | none => rfl
    | some i =>
      obtain ⟨h1, h2, _⟩ := List.findIdx?_eq_some_iff_getElem.1 hf
      exact absurd ⟨_, List.getElem_mem h1, of_decide_eq_true h2⟩ h
theorem zmw (s : State) (x : Bs) (h1 : s.pins.length ≤ 1000000) (h2 : s.leases.length ≤ 1000000) : Lq0 none (.s x :: encSt s) = some [.b (decide (held s x))] := by
  unfold encSt
  rw [eq0_i]
  have a1 := zbu (f := fun i : Nat => Lq0 (some 8) [.s x, .l (encL s.leases), .i (s.leases.length : Int), .i (i : Int)]) L0 (l := s.leases) (p := fun l => l.sum = x) (T := some [.b true]) (E := some [.b false]) (fun i hi => by
    show Lq0 _ _ = cond _ _ (Lq0 _ _)
    rw [eq0_8]; simp (disch := omega) only [push_cast]) (by show Lq0 _ _ = _; rw [eq0_8]; simp (disch := omega) only [push_cast])
  have a2 := zbu (f := fun i : Nat => Lq0 (some 2) [.s x, .l (encP s.pins), .i (s.pins.length : Int), .i (i : Int), .i s.width, .i s.now, .i s.given, .i s.births, .l (encK s.things), .l (encP s.pins), .l (encL s.leases)]) P0 (l := s.pins) (p := fun l => l.sum = x) (T := some [.b true]) (E := Lq0 (some 8) [.s x, .l (encL s.leases), .i (s.leases.length : Int), .i 0]) (fun i hi => by
    show Lq0 _ _ = cond _ _ (Lq0 _ _)
    rw [eq0_2]; simp (disch := omega) only [push_cast]) (by show Lq0 _ _ = _; rw [eq0_2]; simp (disch := omega) only [push_cast])
  rw [zbx]
  refine a2.trans ?_
  by_cases h : ∃ p ∈ s.pins, p.sum = x
  · rw [if_pos h, decide_eq_true (p := held s x) (Or.inl h)]
  · rw [if_neg h]
    refine a1.trans ?_
    by_cases h3 : ∃ l ∈ s.leases, l.sum = x
    · rw [if_pos h3, decide_eq_true (p := held s x) (Or.inr h3)]
    · rw [if_neg h3, decide_eq_false (p := held s x) (by rintro (h4 | h4); exact h h4; exact h3 h4)]
theorem zjb (a b c d : Int) (T : List Kept) (P L : Rw) (x : Bs) (h1 : T.length ≤ 1000000) (h2 : ∀ k ∈ T, k.thing.refs.length ≤ 1000000) : Lq2 none [.s x, .i a, .i b, .i c, .i d, .l (encK T), .l P, .l L] = some [.b (decide (isRef T x))] := by
  rw [eq2_i]
  have a2 := zbu (f := fun i : Nat => Lq2 (some 2) [.s x, .l (encK T), .i (T.length : Int), .i (i : Int)]) K0 (l := T) (p := fun k => x ∈ k.thing.refs) (T := some [.b true]) (E := some [.b false]) (fun i hi => by
    show Lq2 _ _ = cond _ _ (Lq2 _ _)
    have hr := h2 _ (zi (d := K0) hi)
    rw [eq2_2]; simp (disch := omega) only [push_cast]
    have a1 := zbu (f := fun j : Nat => Lq2 (some 5) [.s x, .l (encK T), .i (T.length : Int), .i (i : Int), .l (encS (nth K0 T i).thing.refs), .i ((nth K0 T i).thing.refs.length : Int), .i (j : Int)]) .empty (l := (nth K0 T i).thing.refs) (p := fun r => r = x) (T := some [.b true]) (E := Lq2 (some 2) [.s x, .l (encK T), .i (T.length : Int), .i ((i : Int) + 1)]) (fun j hj => by
      show Lq2 _ _ = cond _ _ (Lq2 _ _)
      rw [eq2_5]; simp (disch := omega) only [push_cast]) (by show Lq2 _ _ = _; rw [eq2_5]; simp (disch := omega) only [push_cast])
    refine a1.trans ?_
    by_cases h : ∃ r ∈ (nth K0 T i).thing.refs, r = x
    · rw [if_pos h, decide_eq_true (p := x ∈ (nth K0 T i).thing.refs) (by obtain ⟨r, hr, rfl⟩ := h; exact hr), cond_true]
    · rw [if_neg h, decide_eq_false (p := x ∈ (nth K0 T i).thing.refs) (fun h3 => h ⟨x, h3, rfl⟩), cond_false]) (by show Lq2 _ _ = _; rw [eq2_2]; simp (disch := omega) only [push_cast])
  rw [zcu]
  refine a2.trans ?_
  by_cases h : ∃ k ∈ T, x ∈ k.thing.refs
  · rw [if_pos h, decide_eq_true (p := isRef T x) h]
  · rw [if_neg h, decide_eq_false (p := isRef T x) h]
end KV
end
section
namespace KV
open Go Go.Eng
open Classical
def zy (o : Out) : Lv := [.i o.code, .i 0, .i 0, .i 0, .i 0, .l [], .l [], .l [], .s o.sum, .i o.lease, .s o.a, .s o.b] ++ encSt o.st
theorem zbo (c : Int) : Lqbt none [.i c] = some [.i c, .i 0, .i 0, .i 0, .i 0, .l [], .l [], .l [], .s E0, .i 0, .s E0, .s E0] := by rw [eqbt_i]
theorem zeg (a b c d e f g h i : Int) (j : Bs) (k : Int) (l m : Bs) (T P L x y z : Rw) : Lqa (some 78) [.i a, .i b, .i c, .i d, .i e, .i f, .i g, .i h, .i i, .s j, .i k, .s l, .s m, .l T, .l P, .l L, .l x, .l y, .l z] =
    some [.i 0, .i 0, .i 0, .i 0, .i 0, .l [], .l [], .l [], .s E0, .i 0, .s E0, .s E0, .i a, .i b, .i c, .i d, .l T, .l P, .l L] := by
  rw [eqa_78, zbo]; simp (disch := omega) only [push_cast]
theorem zlo (a b c d e f g h i : Int) (j : Bs) (k : Int) (l m : Bs) (T P L x y z : Rw) : Lqa (some 76) [.i a, .i b, .i c, .i d, .i e, .i f, .i g, .i h, .i i, .s j, .i k, .s l, .s m, .l T, .l P, .l L, .l x, .l y, .l z] =
    some [.i 6, .i 0, .i 0, .i 0, .i 0, .l [], .l [], .l [], .s E0, .i 0, .s E0, .s E0, .i a, .i b, .i c, .i d, .l T, .l P, .l L] := by
  rw [eqa_76, zbo]; simp (disch := omega) only [push_cast]
theorem zfq (a b c d e f g h i : Int) (j : Bs) (k : Int) (l m : Bs) (T P L x y z : Rw) : Lqa (some 21) [.i a, .i b, .i c, .i d, .i e, .i f, .i g, .i h, .i i, .s j, .i k, .s l, .s m, .l T, .l P, .l L, .l x, .l y, .l z] =
    some [.i 4, .i 0, .i 0, .i 0, .i 0, .l [], .l [], .l [], .s E0, .i 0, .s E0, .s E0, .i a, .i b, .i c, .i d, .l T, .l P, .l L] := by
  rw [eqa_21, zbo]; simp (disch := omega) only [push_cast]
theorem zmq (x : Bs) (w now gv b k : Int) (s n : Bs) (m : Int) (t : Bs) (r T P : Rw) (L : List Lease) (hl : L.length ≤ 1000000) (hg : 0 ≤ gv ∧ gv ≤ 1000000000) (hn : 0 ≤ now ∧ now ≤ 1000000000) (hm : 0 ≤ m ∧ m ≤ 1000000000) :
    Lqdl none [.s x, .i w, .i now, .i gv, .i b, .i k, .s s, .s n, .i m, .s t, .l r, .l T, .l P, .l (encL L)] =
      some [.i 0, .i 0, .i 0, .i 0, .i 0, .l [], .l [], .l [], .s E0, .i (gv + 1), .s E0, .s E0, .i w, .i now, .i (gv + 1), .i b, .i k, .s s, .s n, .i m, .s t, .l r, .l T, .l P, .l (encL (L ++ [⟨gv + 1, x, now + m⟩]))] := by
  rw [eqdl_i, ← zdm, mostE]; simp (disch := omega) only [push_cast] <;> rfl
theorem zez {α : Type} (l : List α) (i : Nat) : (l.drop 0).take (i - 0) = l.take i := by simp
theorem zes {α : Type} (l : List α) (i : Nat) : (l.drop i).take (l.length - i) = l.drop i := List.take_of_length_le (by simp)
def args4 (s : State) (e : Entry) : Lv := [.i s.width, .i s.now, .i s.given, .i s.births, .i e.kind, .s e.sum, .s e.name, .i e.number, .s e.thing.text, .l (encS e.thing.refs), .i 0, .i 0, .i 0, .i 0, .i 0, .s E0, .i 0, .s E0, .s E0, .l (encK s.things), .l (encP s.pins), .l (encL s.leases), .l [], .l [], .l []]
section
variable {s : State} {e : Entry} (V : VS s)
include V
theorem zru (hk : e.kind = 2) (r : Bool) : Lqa (some 4) (.b r :: args4 s e) = some (zy (chg s e)) := by
  unfold args4 chg
  have h1 := V.nT; have h2 := V.nP
  rw [eqa_4, if_neg (by omega), if_pos hk, hk]
  by_cases hT : hasT s.things e.sum
  · have hl := lb_le (qP e.name) s.pins
    rw [if_pos hT]
    simp (disch := omega) only [push_cast, zbp _ _ _ _ s.things _ _ e.sum V.srtT (by omega), decide_eq_true hT, zkm _ _ _ _ _ _ s.pins e.name V.srtP (by omega)]
    by_cases hP : hasP s.pins e.name
    · have hi := (zdz V.srtP e.name).1 hP
      rw [if_pos (Or.inl hP), decide_eq_true hP]
      simp (disch := omega) only [push_cast, zbo]
      rw [wrP _ _ _ hi.1, hi.2]
      unfold zy done encSt putP
      rw [if_pos hP]; rfl
    · rw [decide_eq_false hP]
      by_cases hc : s.pins.length = 100
      · rw [if_neg (by rintro (h | h); exact hP h; omega)]
        simp (disch := omega) only [push_cast, zbo]; rfl
      · rw [if_pos (Or.inr (by omega))]
        have hs1 : Eng.sub (encP s.pins) 0 (lb (qP e.name) s.pins) = encP (s.pins.take (lb (qP e.name) s.pins)) := by rw [zfg, zez]
        have hs2 : Eng.sub (encP s.pins) (lb (qP e.name) s.pins) s.pins.length = encP (s.pins.drop (lb (qP e.name) s.pins)) := by rw [zfg, zes]
        simp (disch := omega) only [push_cast, hs1, hs2, mostE, List.length_append, List.length_take, List.length_drop]
        rw [zeg, zej, zcg, zcg]
        unfold zy done encSt putP
        rw [if_neg hP, List.append_assoc]; rfl
  · rw [if_neg hT]
    simp (disch := omega) only [push_cast, zbp _ _ _ _ s.things _ _ e.sum V.srtT (by omega), decide_eq_false hT, zbo]; rfl
theorem zti (hk : e.kind = 3) (r : Bool) : Lqa (some 4) (.b r :: args4 s e) = some (zy (chg s e)) := by
  unfold args4 chg
  have h1 := V.nT; have h2 := V.nP
  rw [eqa_4, if_neg (by omega), if_neg (by omega), if_pos hk, hk]
  have hl := lb_le (qP e.name) s.pins
  simp (disch := omega) only [push_cast, zkm _ _ _ _ _ _ s.pins e.name V.srtP (by omega)]
  by_cases hP : hasP s.pins e.name
  · have hi := (zdz V.srtP e.name).1 hP
    rw [if_pos hP, decide_eq_true hP]
    have hs1 : Eng.sub (encP s.pins) 0 (lb (qP e.name) s.pins) = encP (s.pins.take (lb (qP e.name) s.pins)) := by rw [zfg, zez]
    have hs2 : Eng.sub (encP s.pins) (lb (qP e.name) s.pins + 1) s.pins.length = encP (s.pins.drop (lb (qP e.name) s.pins + 1)) := by rw [zfg, zes]
    simp (disch := omega) only [push_cast, hs1, hs2, mostE, List.length_append, List.length_take, List.length_drop]
    rw [zeg, zcg]
    unfold zy done encSt delP
    rw [zhr P0 V.srtP (pp e.name) (pR e.name) hP]; rfl
  · rw [if_neg hP, decide_eq_false hP]
    simp (disch := omega) only [push_cast, zbo]; rfl
theorem zo9 (hk : e.kind = 4) (hm : 0 ≤ e.number ∧ e.number ≤ 1000000000) : Lqa (some 4) (.b (decide (room s)) :: args4 s e) = some (zy (chg s e)) := by
  unfold args4 chg
  have h1 := V.nT; have h2 := V.nL
  rw [eqa_4, if_neg (by omega), if_neg (by omega), if_neg (by omega), if_pos hk, hk]
  by_cases hT : hasT s.things e.sum
  · rw [if_pos hT]
    simp (disch := omega) only [push_cast, zbp _ _ _ _ s.things _ _ e.sum V.srtT (by omega), decide_eq_true hT]
    by_cases hr : room s
    · rw [if_pos hr, decide_eq_true hr]
      simp (disch := omega) only [push_cast, zmq e.sum s.width s.now s.given s.births 4 e.sum e.name e.number e.thing.text (encS e.thing.refs) (encK s.things) (encP s.pins) s.leases (by omega) V.given V.now hm]; rfl
    · rw [if_neg hr, decide_eq_false hr]
      simp (disch := omega) only [push_cast, zbo]; rfl
  · rw [if_neg hT]
    simp (disch := omega) only [push_cast, zbp _ _ _ _ s.things _ _ e.sum V.srtT (by omega), decide_eq_false hT, zbo]; rfl
theorem zty (hk : e.kind = 5) (r : Bool) : Lqa (some 4) (.b r :: args4 s e) = some (zy (chg s e)) := by
  unfold args4 chg
  have h1 := V.nT; have h2 := V.nL
  rw [eqa_4, if_neg (by omega), if_neg (by omega), if_neg (by omega), if_neg (by omega), if_pos hk, hk]
  have hl := lb_le (qL e.number) s.leases
  simp (disch := omega) only [push_cast, ztn _ _ _ _ _ _ s.leases e.number V.srtL (by omega)]
  by_cases hP : hasL s.leases e.number
  · have hi := (zmz V.srtL e.number).1 hP
    rw [if_pos hP, decide_eq_true hP]
    have hs1 : Eng.sub (encL s.leases) 0 (lb (qL e.number) s.leases) = encL (s.leases.take (lb (qL e.number) s.leases)) := by rw [zm6, zez]
    have hs2 : Eng.sub (encL s.leases) (lb (qL e.number) s.leases + 1) s.leases.length = encL (s.leases.drop (lb (qL e.number) s.leases + 1)) := by rw [zm6, zes]
    simp (disch := omega) only [push_cast, hs1, hs2, mostE, List.length_append, List.length_take, List.length_drop]
    rw [zeg, zdm]
    unfold zy done encSt delL
    rw [zhr L0 V.srtL (lp e.number) (lR e.number) hP]; rfl
  · rw [if_neg hP, decide_eq_false hP]
    simp (disch := omega) only [push_cast, zbo]; rfl
theorem zs4 (hk : e.kind = 6) (hm : 0 ≤ e.number ∧ e.number ≤ 1000000000) (r : Bool) : Lqa (some 4) (.b r :: args4 s e) = some (zy (chg s e)) := by
  unfold args4 chg
  have h2 := V.nL; have h3 := V.now
  rw [eqa_4, if_neg (by omega), if_neg (by omega), if_neg (by omega), if_neg (by omega), if_neg (by omega), if_pos hk, hk]
  by_cases hn : s.now + e.number ≤ 1000000000
  · rw [if_pos hn]
    simp (disch := omega) only [push_cast]
    have := z6 (f := fun (i : Nat) (a : List Lease) => Lqa (some 65) [.i (s.leases.length : Int), .i (i : Int), .i s.width, .i (s.now + e.number), .i s.given, .i s.births, .i 0, .i 0, .i 0, .i 0, .i 0, .s E0, .i 0, .s E0, .s E0, .l (encL a), .l (encL s.leases), .l (encK s.things), .l (encP s.pins), .l [], .l [], .l []]) (n := s.leases.length)
      (T := some (zy (done { s with now := s.now + e.number, leases := s.leases.filter fun l => decide (s.now + e.number < l.till) })))
      (I := fun i a => a = (s.leases.take i).filter fun l => decide (s.now + e.number < l.till)) (fun i a hi hI => by
        have hle : a.length ≤ i := by rw [hI]; exact Nat.le_trans (List.length_filter_le _ _) (by simp; omega)
        by_cases ht : s.now + e.number < (nth L0 s.leases i).till
        · refine ⟨a ++ [nth L0 s.leases i], ?_, ?_⟩
          · show Lqa _ _ = Lqa _ _
            rw [eqa_65, mostE, ← zdm]; simp (disch := omega) only [push_cast] <;> rfl
          · show a ++ [nth L0 s.leases i] = _
            rw [zbb L0 hi, List.filter_append, ← hI]; simp [ht]
        · refine ⟨a, ?_, ?_⟩
          · show Lqa _ _ = Lqa _ _
            rw [eqa_65]; simp (disch := omega) only [push_cast]
          · show a = _
            rw [zbb L0 hi, List.filter_append, ← hI]; simp [ht]) (fun a hI => by
        show Lqa _ _ = _
        rw [eqa_65]; simp (disch := omega) only [push_cast, zeg]
        rw [hI, List.take_length]; rfl) 0 [] (Nat.zero_le _) rfl
    exact this
  · rw [if_neg hn]
    simp (disch := omega) only [push_cast, zbo]; rfl
theorem zqb (hk : e.kind = 7) (r : Bool) : Lqa (some 4) (.b r :: args4 s e) = some (zy (chg s e)) := by
  unfold args4 chg
  have h1 := V.nT; have h2 := V.nP; have h3 := V.nL
  rw [eqa_4, if_neg (by omega), if_neg (by omega), if_neg (by omega), if_neg (by omega), if_neg (by omega), if_neg (by omega), hk]
  have hl := lb_le (qK e.sum) s.things
  by_cases hT : hasT s.things e.sum
  · have hi := (zbk V.srtT e.sum).1 hT
    have hh := zmw s e.sum (by omega) (by omega)
    have hr := zjb s.width s.now s.given s.births s.things (encP s.pins) (encL s.leases) e.sum (by omega) (fun k hk => by have := (V.okT k hk).1.refs; omega)
    rw [if_pos hT]
    unfold encSt at hh
    simp (disch := omega) only [push_cast, zbp _ _ _ _ s.things _ _ e.sum V.srtT (by omega), decide_eq_true hT, hh]
    by_cases c1 : held s e.sum
    · rw [if_pos (Or.inl c1), decide_eq_true c1]
      simp (disch := omega) only [push_cast, zlo]; rfl
    · rw [decide_eq_false c1]
      by_cases c2 : isRef s.things e.sum
      · rw [if_pos (Or.inr c2)]
        simp (disch := omega) only [push_cast, hr, decide_eq_true c2, zlo]; rfl
      · rw [if_neg (by rintro (h | h); exact c1 h; exact c2 h)]
        have hs1 : Eng.sub (encK s.things) 0 (lb (qK e.sum) s.things) = encK (s.things.take (lb (qK e.sum) s.things)) := by rw [zb8, zez]
        have hs2 : Eng.sub (encK s.things) (lb (qK e.sum) s.things + 1) s.things.length = encK (s.things.drop (lb (qK e.sum) s.things + 1)) := by rw [zb8, zes]
        simp (disch := omega) only [push_cast, hr, decide_eq_false c2, hs1, hs2, mostE, List.length_append, List.length_take, List.length_drop]
        rw [zeg, zbc]
        unfold zy done encSt delK
        rw [zhr K0 V.srtT (kp e.sum) (kR e.sum) hT]; rfl
  · rw [if_neg hT]
    simp (disch := omega) only [push_cast, zbp _ _ _ _ s.things _ _ e.sum V.srtT (by omega), decide_eq_false hT, zbo]; rfl
end
end KV
end
section
namespace KV
open Go Go.Eng
open Classical
section
variable {s : State} {e : Entry} (V : VS s)
include V
theorem zi8 (x : Bs) (b : Int) (T : Rw) (hm : 0 ≤ e.number ∧ e.number ≤ 1000000000) :
    Lqa (some 27) [.s x, .i s.width, .i s.now, .i s.given, .i b, .i 0, .i 0, .i 0, .i 0, .i 0, .s E0, .i 0, .s E0, .s E0, .i e.kind, .s e.sum, .s e.name, .i e.number, .s e.thing.text, .l (encS e.thing.refs), .l T, .l (encP s.pins), .l (encL s.leases), .l [], .l [], .l []] =
      some [.i 0, .i 0, .i 0, .i 0, .i 0, .l [], .l [], .l [], .s x, .i (s.given + 1), .s E0, .s E0, .i s.width, .i s.now, .i (s.given + 1), .i b, .l T, .l (encP s.pins), .l (encL (s.leases ++ [⟨s.given + 1, x, s.now + e.number⟩]))] := by
  have h2 := V.nL
  rw [eqa_27]
  simp (disch := omega) only [push_cast, zmq x s.width s.now s.given b e.kind e.sum e.name e.number e.thing.text (encS e.thing.refs) T (encP s.pins) s.leases (by omega) V.given V.now hm]
theorem zro (h : ThingOk e.thing s.width) (hm : 0 ≤ e.number ∧ e.number ≤ 1000000000) (hr : ∀ r ∈ e.thing.refs, hasT s.things r) :
    Lqa (some 7) [.b (decide (room s)), .l (encS e.thing.refs), .i (e.thing.refs.length : Int), .i (e.thing.refs.length : Int), .i s.width, .i s.now, .i s.given, .i s.births, .i e.kind, .s e.sum, .s e.name, .i e.number, .s e.thing.text, .l (encS e.thing.refs), .i 0, .i 0, .i 0, .i 0, .i 0, .s E0, .i 0, .s E0, .s E0, .l (encK s.things), .l (encP s.pins), .l (encL s.leases), .l [], .l [], .l []] = some (zy (putS s e)) := by
  have h1 := V.nT; have h2 := V.nL; have h3 := V.births
  have hw : zj s.width = true := zz.2 V.wd
  have hz := zbj h
  have hfs := zbl e.thing
  unfold putS
  rw [eqa_7, if_neg (by rintro ⟨r, h4, h5⟩; exact h5 (hr r h4))]
  have hl := lb_le (qK (sumM (formM e.thing) s.width)) s.things
  generalize hx : sumM (formM e.thing) s.width = x at hl
  simp (disch := omega) only [push_cast, zgy h, znw (formM e.thing) s.width (by omega), hx, zbp _ _ _ _ s.things _ _ x V.srtT (by omega)]
  by_cases hT : hasT s.things x
  · have hi := (zbk V.srtT x).1 hT
    have hk := (V.okT _ (zi (d := K0) hi.1)).1
    rw [if_pos hT, decide_eq_true hT]
    simp (disch := omega) only [push_cast, zgy hk]
    by_cases hf : formM (nth K0 s.things (lb (qK x) s.things)).thing = formM e.thing
    · rw [if_pos hf, decide_eq_true hf]
      by_cases hro : room s
      · rw [if_pos hro, decide_eq_true hro]
        simp (disch := omega) only [push_cast]
        rw [eqa_22]
        simp (disch := omega) only [push_cast, zi8 V x s.births (encK s.things) hm]; rfl
      · rw [if_neg hro, decide_eq_false hro]
        simp (disch := omega) only [push_cast, zfq]; rfl
    · rw [if_neg hf, decide_eq_false hf]
      simp (disch := omega) only [push_cast] <;> rfl
  · rw [if_neg hT, decide_eq_false hT]
    by_cases hro : room s
    · rw [decide_eq_true hro]
      by_cases c1 : s.things.length = 600
      · rw [if_neg (by omega)]
        simp (disch := omega) only [push_cast, zfq]; rfl
      · by_cases c2 : s.births = 1000000000
        · rw [if_neg (by omega)]
          simp (disch := omega) only [push_cast, zfq]; rfl
        · rw [if_pos ⟨hro, by omega, by omega⟩]
          simp (disch := omega) only [push_cast]
          have hs1 : Eng.sub (encK s.things) 0 (lb (qK x) s.things) = encK (s.things.take (lb (qK x) s.things)) := by rw [zb8, zez]
          have hs2 : Eng.sub (encK s.things) (lb (qK x) s.things) s.things.length = encK (s.things.drop (lb (qK x) s.things)) := by rw [zb8, zes]
          rw [eqa_22]
          simp (disch := omega) only [push_cast, hs1, hs2, mostE, List.length_append, List.length_take, List.length_drop, zcc (encS e.thing.refs) (by rw [z4]; omega)]
          rw [zdj, zbc, zbc, List.append_assoc]
          rw [zi8 V x (s.births + 1) _ hm]; rfl
    · rw [decide_eq_false hro, if_neg (by rintro ⟨h4, _⟩; exact hro h4)]
      simp (disch := omega) only [push_cast, zfq]; rfl
theorem zun (hk : e.kind = 1) (h : ThingOk e.thing s.width) (hm : 0 ≤ e.number ∧ e.number ≤ 1000000000) : Lqa (some 4) (.b (decide (room s)) :: args4 s e) = some (zy (chg s e)) := by
  have h1 := V.nT; have h4 := h.refs
  unfold args4 chg
  rw [eqa_4, if_pos hk]
  simp (disch := omega) only [push_cast]
  have := zbu (f := fun i : Nat => Lqa (some 7) [.b (decide (room s)), .l (encS e.thing.refs), .i (e.thing.refs.length : Int), .i (i : Int), .i s.width, .i s.now, .i s.given, .i s.births, .i e.kind, .s e.sum, .s e.name, .i e.number, .s e.thing.text, .l (encS e.thing.refs), .i 0, .i 0, .i 0, .i 0, .i 0, .s E0, .i 0, .s E0, .s E0, .l (encK s.things), .l (encP s.pins), .l (encL s.leases), .l [], .l [], .l []])
    .empty (l := e.thing.refs) (p := fun r => ¬ hasT s.things r) (T := some (zy (fail s 2))) (E := Lqa (some 7) [.b (decide (room s)), .l (encS e.thing.refs), .i (e.thing.refs.length : Int), .i (e.thing.refs.length : Int), .i s.width, .i s.now, .i s.given, .i s.births, .i e.kind, .s e.sum, .s e.name, .i e.number, .s e.thing.text, .l (encS e.thing.refs), .i 0, .i 0, .i 0, .i 0, .i 0, .s E0, .i 0, .s E0, .s E0, .l (encK s.things), .l (encP s.pins), .l (encL s.leases), .l [], .l [], .l []]) (fun i hi => by
      show Lqa _ _ = cond _ _ (Lqa _ _)
      rw [eqa_7]
      simp (disch := omega) only [push_cast, zbp _ _ _ _ s.things _ _ (nth .empty e.thing.refs i) V.srtT (by omega), zbo]
      by_cases hT : hasT s.things (nth .empty e.thing.refs i)
      · rw [decide_eq_true hT, decide_eq_false (not_not_intro hT)]; rfl
      · rw [decide_eq_false hT, decide_eq_true hT]; rfl) rfl
  refine this.trans ?_
  by_cases hr : ∃ r ∈ e.thing.refs, ¬ hasT s.things r
  · rw [if_pos hr]; unfold putS; rw [if_pos hr]
  · rw [if_neg hr, zro V h hm fun r hr2 => Classical.byContradiction fun h5 => hr ⟨r, hr2, h5⟩]
theorem zig (he : zg e s.width = true) : Lqa none (encE e ++ encSt s) = some (zy (chg s e)) := by
  have h2 := V.nL; have hg := V.given
  have hnum := EntryOk.num he; have hk := EntryOk.kd he
  show Lqa none [.i e.kind, .s e.sum, .s e.name, .i e.number, .s e.thing.text, .l (encS e.thing.refs), .i s.width, .i s.now, .i s.given, .i s.births, .l (encK s.things), .l (encP s.pins), .l (encL s.leases)] = _
  have : Lqa none [.i e.kind, .s e.sum, .s e.name, .i e.number, .s e.thing.text, .l (encS e.thing.refs), .i s.width, .i s.now, .i s.given, .i s.births, .l (encK s.things), .l (encP s.pins), .l (encL s.leases)] = Lqa (some 4) (.b (decide (room s)) :: args4 s e) := by
    rw [eqa_i]
    by_cases hl : s.leases.length < 200
    · have : decide (room s) = decide (s.given < 1000000000) := decide_eq_decide.2 ⟨fun h => h.2, fun h => ⟨hl, h⟩⟩
      simp (disch := omega) only [push_cast, this]; rfl
    · rw [decide_eq_false fun h : room s => hl h.1]; simp (disch := omega) only [push_cast]; rfl
  rw [this]
  have hc : e.kind = 1 ∨ e.kind = 2 ∨ e.kind = 3 ∨ e.kind = 4 ∨ e.kind = 5 ∨ e.kind = 6 ∨ e.kind = 7 := by omega
  rcases hc with h | h | h | h | h | h | h
  · exact zun V h (EntryOk.thing he h) hnum
  · exact zru V h _
  · exact zti V h _
  · exact zo9 V h hnum
  · exact zty V h _
  · exact zs4 V h hnum _
  · exact zqb V h _
end
end KV
end
section
namespace KV
open Go Go.Eng
open Classical
noncomputable def findT (T : List Kept) (x : Bs) : Int := if hasT T x then (lb (qK x) T : Int) else -1
theorem zcl (w now g b : Int) (T : List Kept) (P L : Rw) (x : Bs) (h : SrtK T) (hn : T.length ≤ 1000000) : Lqg none [.i w, .i now, .i g, .i b, .l (encK T), .l P, .l L, .s x] = some [.i (findT T x)] := by
  rw [eqg_i]
  have := zl6 (f := fun i : Nat => Lqg (some 2) [.s x, .i (i : Int), .i w, .i now, .i g, .i b, .l (encK T), .l P, .l L]) (l := T) (d := K0) (p := fun k => decide (k.sum = x)) (ret := fun i => some [.i (i : Int)]) (e := some [.i (-1)]) (fun i hi => by
    show Lqg _ _ = cond _ _ (Lqg _ _)
    rw [eqg_2]; simp (disch := omega) only [push_cast]) (by show Lqg _ _ = _; rw [eqg_2]; simp (disch := omega) only [push_cast])
  refine this.trans ?_
  rw [zpe K0 h (kp x) (kR x)]
  unfold findT
  by_cases hT : hasT T x
  · rw [if_pos hT, if_pos (show ∃ a ∈ T, a.sum = x from hT)]
  · rw [if_neg hT, if_neg (show ¬ ∃ a ∈ T, a.sum = x from hT)]
theorem zbi {T : List Kept} {x : Bs} : findT T x < 0 ↔ ¬ hasT T x := by
  unfold findT; split
  · rename_i h; simp [h]
  · rename_i h; simp [h]
def zt (o : Out) : Lv := if o.code = 0 then [.i 0, .i o.st.width, .i o.st.now, .i o.st.given, .i o.st.births, .l (encK o.st.things), .l (encP o.st.pins), .s o.sum, .i o.lease, .s o.a, .s o.b, .l (encL o.st.leases)]
  else [.i o.code, .i 0, .i 0, .i 0, .i 0, .l [], .l [], .s o.sum, .i o.lease, .s o.a, .s o.b, .l []]
theorem z0 (l : List Bs) (x : Bs) (h : l.length ≤ 4611686018427387904) : Lqp none [.l (encS l), .s x] = some [.b (decide (x ∈ l))] := by
  rw [eqp_i]
  have := zbu (f := fun i : Nat => Lqp (some 2) [.l (encS l), .s x, .i (i : Int)]) .empty (l := l) (p := fun r => r = x) (T := some [.b true]) (E := some [.b false]) (fun i hi => by
    show Lqp _ _ = cond _ _ (Lqp _ _)
    rw [eqp_2]; simp (disch := omega) only [push_cast]) (by show Lqp _ _ = _; rw [eqp_2]; simp (disch := omega) only [push_cast])
  refine this.trans ?_
  by_cases h : ∃ r ∈ l, r = x
  · rw [if_pos h, decide_eq_true (p := x ∈ l) (by obtain ⟨r, hr, rfl⟩ := h; exact hr)]
  · rw [if_neg h, decide_eq_false (p := x ∈ l) (fun h3 => h ⟨x, h3, rfl⟩)]
theorem zlb (s : State) (x : Bs) (h1 : s.pins.length ≤ 1000000) (h2 : s.leases.length ≤ 1000000) : Lqw none (encSt s ++ [.s x]) = some [.b (decide (held s x))] := by
  show Lqw none [.i s.width, .i s.now, .i s.given, .i s.births, .l (encK s.things), .l (encP s.pins), .l (encL s.leases), .s x] = _
  rw [eqw_i]
  have a1 := zbu (f := fun i : Nat => Lqw (some 7) [.s x, .i (i : Int), .i s.width, .i s.now, .i s.given, .i s.births, .l (encK s.things), .l (encP s.pins), .l (encL s.leases)]) L0 (l := s.leases) (p := fun l => l.sum = x) (T := some [.b true]) (E := some [.b false]) (fun i hi => by
    show Lqw _ _ = cond _ _ (Lqw _ _)
    rw [eqw_7]; simp (disch := omega) only [push_cast]) (by show Lqw _ _ = _; rw [eqw_7]; simp (disch := omega) only [push_cast])
  have a2 := zbu (f := fun i : Nat => Lqw (some 2) [.s x, .i (i : Int), .i s.width, .i s.now, .i s.given, .i s.births, .l (encK s.things), .l (encP s.pins), .l (encL s.leases)]) P0 (l := s.pins) (p := fun l => l.sum = x) (T := some [.b true]) (E := Lqw (some 7) [.s x, .i 0, .i s.width, .i s.now, .i s.given, .i s.births, .l (encK s.things), .l (encP s.pins), .l (encL s.leases)]) (fun i hi => by
    show Lqw _ _ = cond _ _ (Lqw _ _)
    rw [eqw_2]; simp (disch := omega) only [push_cast]) (by show Lqw _ _ = _; rw [eqw_2]; simp (disch := omega) only [push_cast])
  refine a2.trans ?_
  by_cases h : ∃ p ∈ s.pins, p.sum = x
  · rw [if_pos h, decide_eq_true (p := held s x) (Or.inl h)]
  · rw [if_neg h]
    refine a1.trans ?_
    by_cases h3 : ∃ l ∈ s.leases, l.sum = x
    · rw [if_pos h3, decide_eq_true (p := held s x) (Or.inr h3)]
    · rw [if_neg h3, decide_eq_false (p := held s x) (by rintro (h4 | h4); exact h h4; exact h3 h4)]
theorem zfx (w now gv b : Int) (T P : Rw) (x : Bs) (m : Int) (L : List Lease) (hl : L.length ≤ 1000000) (hg : 0 ≤ gv ∧ gv ≤ 1000000000) (hn : 0 ≤ now ∧ now ≤ 1000000000) (hm : 0 ≤ m ∧ m ≤ 1000000000) :
    Lqcq none [.i w, .i now, .i gv, .i b, .l T, .l P, .s x, .i m, .l (encL L)] = some (if L.length < 200 ∧ gv < 1000000000 then [.i 0, .i w, .i now, .i (gv + 1), .i b, .l T, .l P, .s E0, .i (gv + 1), .s E0, .s E0, .l (encL (L ++ [⟨gv + 1, x, now + m⟩]))] else [.i 4, .i 0, .i 0, .i 0, .i 0, .l [], .l [], .s E0, .i 0, .s E0, .s E0, .l []]) := by
  rw [eqcq_i, ← zdm, mostE]
  by_cases h1 : L.length < 200
  · by_cases h2 : gv < 1000000000
    · rw [if_pos ⟨h1, h2⟩]; simp (disch := omega) only [push_cast] <;> rfl
    · rw [if_neg fun h => h2 h.2]; simp (disch := omega) only [push_cast]
  · rw [if_neg fun h => h1 h.1]; simp (disch := omega) only [push_cast]
theorem zcv (w now g b : Int) (T : List Kept) (P L : Rw) (hT : T.length ≤ 1000000) (hr : ∀ k ∈ T, k.thing.refs.length ≤ 1000000) (hP : P.length ≤ 1000000) (hL : L.length ≤ 1000000) :
    Lqo none [.i w, .i now, .i g, .i b, .l (encK T), .l P, .l L] = some [.i w, .i now, .i g, .i b, .l (encK T), .l P, .l L] := by
  rw [eqo_i]
  have := z6 (f := fun (i : Nat) (a : List Kept) => Lqo (some 4) [.i (i : Int), .i w, .i now, .i g, .i b, .l (encK T), .l P, .l L, .i 0, .i 0, .i 0, .i 0, .i w, .i now, .i g, .i b, .l P, .l L, .l [], .l [], .l [], .l (encK a)]) (n := T.length) (T := some [.i w, .i now, .i g, .i b, .l (encK T), .l P, .l L])
    (I := fun i a => a = T.take i) (fun i a hi hI => ⟨a ++ [nth K0 T i], by
      show Lqo _ _ = Lqo _ _
      have hk := hr _ (zi (d := K0) hi)
      have hl : a.length ≤ i := by rw [hI]; simp; omega
      rw [eqo_4, mostE, ← zbc]
      simp (disch := omega) only [push_cast, zfa _ (encS (nth K0 T i).thing.refs) (by rw [z4]; omega)] <;> rfl, by show a ++ [nth K0 T i] = _; rw [zbb K0 hi, hI]⟩) (fun a hI => by
      show Lqo _ _ = _
      rw [eqo_4, mostE]
      simp (disch := omega) only [push_cast, List.nil_append]
      rw [hI, List.take_length]) 0 [] (Nat.zero_le _) rfl
  exact this
section
variable {s : State} {e : Entry} (V : VS s)
include V
theorem zb0 : ∀ k ∈ s.things, k.thing.refs.length ≤ 1000000 := fun k hk => by have := (V.okT k hk).1.refs; omega
theorem zuk (x : Bs) (bn : Int) (t : Thing) (hx : ¬ hasT s.things x) (hb : 0 ≤ bn ∧ bn ≤ 1000000000) (hm : 0 ≤ e.number ∧ e.number ≤ 1000000000) :
    Lqt (some 20) [.s x, .b false, .i 0, .i s.width, .i s.now, .i s.given, .i bn, .l (encK s.things), .l (encP s.pins), .i e.kind, .s e.sum, .s e.name, .i e.number, .s e.thing.text, .l (encS e.thing.refs), .i 0, .i 0, .i 0, .i 0, .i 0, .s E0, .i 0, .s E0, .s E0, .l [], .s x, .i bn, .s t.text, .l (encS t.refs), .l (encL s.leases), .l [], .l [], .l []] =
      some (if room s then [.i 0, .i s.width, .i s.now, .i (s.given + 1), .i bn, .l (encK (insK ⟨x, bn, t⟩ s.things)), .l (encP s.pins), .s x, .i (s.given + 1), .s E0, .s E0, .l (encL (s.leases ++ [⟨s.given + 1, x, s.now + e.number⟩]))] else [.i 4, .i 0, .i 0, .i 0, .i 0, .l [], .l [], .s E0, .i 0, .s E0, .s E0, .l []]) := by
  have h1 := V.nT; have h2 := V.nL
  have hl := lb_le (qK x) s.things
  have := z6 (f := fun (i : Nat) (a : Bool × List Kept) => Lqt (some 20) [.s x, .b a.1, .i (i : Int), .i s.width, .i s.now, .i s.given, .i bn, .l (encK s.things), .l (encP s.pins), .i e.kind, .s e.sum, .s e.name, .i e.number, .s e.thing.text, .l (encS e.thing.refs), .i 0, .i 0, .i 0, .i 0, .i 0, .s E0, .i 0, .s E0, .s E0, .l (encK a.2), .s x, .i bn, .s t.text, .l (encS t.refs), .l (encL s.leases), .l [], .l [], .l []]) (n := s.things.length)
    (T := some (if room s then [.i 0, .i s.width, .i s.now, .i (s.given + 1), .i bn, .l (encK (insK ⟨x, bn, t⟩ s.things)), .l (encP s.pins), .s x, .i (s.given + 1), .s E0, .s E0, .l (encL (s.leases ++ [⟨s.given + 1, x, s.now + e.number⟩]))] else [.i 4, .i 0, .i 0, .i 0, .i 0, .l [], .l [], .s E0, .i 0, .s E0, .s E0, .l []]))
    (I := fun i a => (i ≤ lb (qK x) s.things ∧ a = (false, s.things.take i)) ∨ (lb (qK x) s.things < i ∧ a = (true, s.things.take (lb (qK x) s.things) ++ ⟨x, bn, t⟩ :: (s.things.drop (lb (qK x) s.things)).take (i - lb (qK x) s.things)))) (fun i a hi hI => by
      rcases hI with ⟨hi2, rfl⟩ | ⟨hi2, rfl⟩
      · rcases Nat.eq_or_lt_of_le hi2 with he | hlt
        · refine ⟨(true, (s.things.take i ++ [⟨x, bn, t⟩]) ++ [nth K0 s.things i]), ?_, .inr ⟨by omega, ?_⟩⟩
          · show Lqt _ _ = Lqt _ _
            have c1 : slt (nth K0 s.things i).sum x = false := by rw [he]; exact lb_at (qK x) K0 s.things (by omega)
            have c2 : ¬ (nth K0 s.things i).sum = x := fun h => hx ⟨_, zi hi, h⟩
            rw [eqt_20, mostE, ← zbc, ← zbc]
            simp (disch := omega) only [push_cast, c1, Bool.false_or, decide_eq_false c2, List.length_append, List.length_take]
            rw [zdj, zdj]
          · rw [← he, Nat.add_sub_cancel_left, zc8 K0 hi]; simp
        · refine ⟨(false, s.things.take i ++ [nth K0 s.things i]), ?_, .inl ⟨hlt, by rw [zbb K0 hi]⟩⟩
          show Lqt _ _ = Lqt _ _
          have c1 : slt (nth K0 s.things i).sum x = true := lb_lt (qK x) K0 s.things i hlt
          rw [eqt_20, mostE, ← zbc]
          simp (disch := omega) only [push_cast, c1, Bool.true_or, List.length_append, List.length_take]
          rw [zdj]
      · refine ⟨(true, (s.things.take (lb (qK x) s.things) ++ ⟨x, bn, t⟩ :: (s.things.drop (lb (qK x) s.things)).take (i - lb (qK x) s.things)) ++ [nth K0 s.things i]), ?_, .inr ⟨by omega, ?_⟩⟩
        · show Lqt _ _ = Lqt _ _
          rw [eqt_20, mostE]
          conv => rhs; rw [← zbc]
          simp (disch := omega) only [push_cast, List.length_append, List.length_take, List.length_drop]
          rw [zdj]
        · congr 1
          have hd : nth K0 s.things i = nth K0 (s.things.drop (lb (qK x) s.things)) (i - lb (qK x) s.things) := by
            rw [zm _ _ _ hi, zm _ _ _ (by simp; omega)]; simp; congr 1; omega
          rw [hd, show i + 1 - lb (qK x) s.things = (i - lb (qK x) s.things) + 1 by omega, zbb K0 (by simp; omega)]
          simp) (fun a hI => by
      show Lqt _ _ = _
      rw [eqt_20]
      rcases hI with ⟨hi2, rfl⟩ | ⟨hi2, rfl⟩
      · have hlb : lb (qK x) s.things = s.things.length := by omega
        have hins : insK ⟨x, bn, t⟩ s.things = s.things ++ [⟨x, bn, t⟩] := by
          unfold insK; simp only; rw [hlb, List.take_length, List.drop_length]
        rw [List.take_length, zdj, zbc, hins, mostE]
        simp (disch := omega) only [push_cast, zfx s.width s.now s.given bn _ (encP s.pins) x e.number s.leases (by omega) V.given V.now hm, List.length_append]
        by_cases hr : room s
        · rw [if_pos hr, if_pos (show s.leases.length < 200 ∧ s.given < 1000000000 from hr)]; simp (disch := omega) only [push_cast] <;> rfl
        · rw [if_neg hr, if_neg (show ¬ (s.leases.length < 200 ∧ s.given < 1000000000) from hr)]; simp (disch := omega) only [push_cast] <;> rfl
      · have hins : s.things.take (lb (qK x) s.things) ++ ⟨x, bn, t⟩ :: (s.things.drop (lb (qK x) s.things)).take (s.things.length - lb (qK x) s.things) = insK ⟨x, bn, t⟩ s.things := by
          unfold insK; simp only; rw [List.take_of_length_le (l := s.things.drop _) (by simp)]
        rw [hins]
        simp (disch := omega) only [push_cast, zfx s.width s.now s.given bn _ (encP s.pins) x e.number s.leases (by omega) V.given V.now hm]
        by_cases hr : room s
        · rw [if_pos hr, if_pos (show s.leases.length < 200 ∧ s.given < 1000000000 from hr)]; simp (disch := omega) only [push_cast] <;> rfl
        · rw [if_neg hr, if_neg (show ¬ (s.leases.length < 200 ∧ s.given < 1000000000) from hr)]; simp (disch := omega) only [push_cast] <;> rfl) 0 (false, []) (Nat.zero_le _) (.inl ⟨Nat.zero_le _, rfl⟩)
  exact this
theorem zdn (x : Bs) (P L : Rw) : Lqg none [.i s.width, .i s.now, .i s.given, .i s.births, .l (encK s.things), .l P, .l L, .s x] = some [.i (findT s.things x)] := by
  have h1 := V.nT
  exact zcl _ _ _ _ _ _ _ _ V.srtT (by omega)
def zcf (s : State) (e : Entry) : Lv := [.i s.width, .i s.now, .i s.given, .i s.births, .l (encK s.things), .l (encP s.pins), .i e.kind, .s e.sum, .s e.name, .i e.number, .s e.thing.text, .l (encS e.thing.refs), .l (encL s.leases)]
theorem zoi (h : ThingOk e.thing s.width) (hm : 0 ≤ e.number ∧ e.number ≤ 1000000000) : Lqt none (zcf s e) = some (zt (putS s e)) := by
  have h1 := V.nT; have h2 := V.nL; have h3 := V.births
  have hz := zbj h
  have hfs := zbl e.thing
  unfold zcf
  rw [eqt_i]
  simp (disch := omega) only [push_cast, zci, formT, if_pos (zcs.2 h), zbr (formM e.thing) s.width (by omega)]
  have hput := putS.eq_1 s e
  have hl := lb_le (qK (sumM (formM e.thing) s.width)) s.things
  generalize hx : sumM (formM e.thing) s.width = x at hl hput ⊢
  have := zbu (f := fun i : Nat => Lqt (some 4) [.s (formM e.thing), .s x, .i (i : Int), .i s.width, .i s.now, .i s.given, .i s.births, .l (encK s.things), .l (encP s.pins), .i e.kind, .s e.sum, .s e.name, .i e.number, .s e.thing.text, .l (encS e.thing.refs), .i 0, .i 0, .i 0, .i 0, .i 0, .s E0, .i 0, .s E0, .s E0, .l (encL s.leases), .l [], .l [], .l []])
    .empty (l := e.thing.refs) (p := fun r => ¬ hasT s.things r) (T := some (zt (fail s 2))) (E := Lqt (some 4) [.s (formM e.thing), .s x, .i (e.thing.refs.length : Int), .i s.width, .i s.now, .i s.given, .i s.births, .l (encK s.things), .l (encP s.pins), .i e.kind, .s e.sum, .s e.name, .i e.number, .s e.thing.text, .l (encS e.thing.refs), .i 0, .i 0, .i 0, .i 0, .i 0, .s E0, .i 0, .s E0, .s E0, .l (encL s.leases), .l [], .l [], .l []]) (fun i hi => by
      show Lqt _ _ = cond _ _ (Lqt _ _)
      rw [eqt_4]
      simp (disch := omega) only [push_cast, zdn V]
      by_cases hT : hasT s.things (nth .empty e.thing.refs i)
      · rw [decide_eq_false (show ¬ findT s.things (nth .empty e.thing.refs i) < 0 from fun h => zbi.1 h hT), decide_eq_false (not_not_intro hT)]; rfl
      · rw [decide_eq_true (zbi.2 hT), decide_eq_true hT]; rfl) rfl
  refine this.trans ?_
  by_cases hr : ∃ r ∈ e.thing.refs, ¬ hasT s.things r
  · rw [if_pos hr]; unfold putS; rw [if_pos hr]
  rw [if_neg hr, hput, if_neg hr, eqt_4]
  simp (disch := omega) only [push_cast, zdn V]
  unfold findT
  by_cases hT : hasT s.things x
  · have hi := (zbk V.srtT x).1 hT
    have hk := (V.okT _ (zi (d := K0) hi.1)).1
    rw [if_pos hT, if_pos hT]
    simp (disch := omega) only [push_cast, zci, formT, if_pos (zcs.2 hk)]
    by_cases hf : formM (nth K0 s.things (lb (qK x) s.things)).thing = formM e.thing
    · rw [if_pos hf, decide_eq_true hf]
      simp (disch := omega) only [push_cast, zfx s.width s.now s.given s.births (encK s.things) (encP s.pins) x e.number s.leases (by omega) V.given V.now hm]
      by_cases hro : room s
      · rw [if_pos hro, if_pos (show s.leases.length < 200 ∧ s.given < 1000000000 from hro)]; simp (disch := omega) only [push_cast] <;> rfl
      · rw [if_neg hro, if_neg (show ¬ (s.leases.length < 200 ∧ s.given < 1000000000) from hro)]; simp (disch := omega) only [push_cast] <;> rfl
    · rw [if_neg hf, decide_eq_false hf]; simp (disch := omega) only [push_cast] <;> rfl
  · rw [if_neg hT, if_neg hT]
    by_cases c1 : s.things.length < 600
    · by_cases c2 : s.births < 1000000000
      · simp (disch := omega) only [push_cast, zfa _ (encS e.thing.refs) (by rw [z4]; omega)]
        have := zuk (e := e) V x (s.births + 1) e.thing hT (by omega) hm
        rw [this]
        by_cases hro : room s
        · rw [if_pos hro, if_pos ⟨hro, c1, c2⟩]; rfl
        · rw [if_neg hro, if_neg fun h => hro h.1]; rfl
      · simp (disch := omega) only [push_cast]
        rw [if_neg fun h => c2 h.2.2]; rfl
    · simp (disch := omega) only [push_cast]
      rw [if_neg fun h => c1 h.2.1]; rfl
end
end KV
end
section
namespace KV
open Go Go.Eng
open Classical
theorem zqq {α : Type} {R : α → α → Prop} {q : α → Bool} {p : α → Prop} [DecidablePred p] (d : α) {l : List α} (h : l.Pairwise R) (hp : ∀ a, p a → q a = false) (hR : ∀ a b, R a b → p b → q a = true) :
    (l.drop (lb q l)).filter (fun a => !decide (p a)) = if ∃ a ∈ l, p a then l.drop (lb q l + 1) else l.drop (lb q l) := by
  have tail : ∀ k, lb q l < k → (l.drop k).filter (fun a => !decide (p a)) = l.drop k := fun k hk => by
    apply List.filter_eq_self.2
    intro a ha
    obtain ⟨j, hj, rfl⟩ := List.mem_iff_getElem.1 ha
    simp only [List.getElem_drop, Bool.not_eq_true', decide_eq_false_iff_not]
    rw [List.length_drop] at hj
    rw [← zm d l _ (by omega)]
    intro hpj; have := zcn d h hp hR (show k + j < l.length by omega) hpj; omega
  split
  · rename_i he
    obtain ⟨h1, h2⟩ := (zdi d h hp hR).1 he
    rw [zc8 d h1, List.filter_cons, if_neg (by simp [h2]), tail _ (by omega)]
  · rename_i he
    apply List.filter_eq_self.2
    intro a ha
    simp only [Bool.not_eq_true', decide_eq_false_iff_not]
    exact fun hpa => he ⟨a, List.mem_of_mem_drop ha, hpa⟩
theorem zk4 {l : List Pin} (h : SrtP l) (n x : Bs) : l.take (lb (qP n) l) ++ ⟨n, x⟩ :: (l.drop (lb (qP n) l)).filter (fun k => !decide (k.name = n)) = putP n x l := by
  rw [zqq P0 h (pp n) (pR n)]
  unfold putP
  by_cases hP : hasP l n
  · rw [if_pos (show ∃ a ∈ l, a.name = n from hP), if_pos hP, List.set_eq_take_append_cons_drop, if_pos ((zdz h n).1 hP).1]
  · rw [if_neg (show ¬ ∃ a ∈ l, a.name = n from hP), if_neg hP]
theorem zpy (l : List Pin) (n x : Bs) : (putP n x l).length = if hasP l n then l.length else l.length + 1 := by
  have := lb_le (qP n) l
  unfold putP; split
  · rw [List.length_set]
  · simp; omega
theorem zel {α : Type} (d : α) {l : List α} {p : α → Bool} {f : Nat → List α → Option Lv} {T : Option Lv} (step : ∀ i a, i < l.length → a.length ≤ i → f i a = f (i + 1) (if p (nth d l i) = true then a ++ [nth d l i] else a)) (last : f l.length (l.filter p) = T) : f 0 [] = T := by
  refine z6 (f := f) (n := l.length) (T := T) (I := fun i a => a = (l.take i).filter p) (fun i a hi hI => ?_) (fun a hI => ?_) 0 [] (Nat.zero_le _) rfl
  · refine ⟨_, step i a hi ?_, ?_⟩
    · rw [hI]; exact Nat.le_trans (List.length_filter_le _ _) (by simp; omega)
    · rw [zbb d hi, List.filter_append, ← hI]
      by_cases h : p (nth d l i) = true
      · rw [if_pos h]; simp [h]
      · rw [if_neg h]; simp [h]
  · rw [hI, List.take_length]; exact last
theorem znn {α : Type} {l : List α} {p : α → Prop} [DecidablePred p] : (l.filter fun a => !decide (p a)).length = l.length ↔ ¬ ∃ a ∈ l, p a := by
  rw [List.length_filter_eq_length_iff]
  simp
def zbf (o : Out) : Lv := if o.code = 0 then [.i 0, .i o.st.width, .i o.st.now, .i o.st.given, .i o.st.births, .l (encK o.st.things), .s o.sum, .i o.lease, .s o.a, .s o.b, .l (encP o.st.pins), .l (encL o.st.leases)]
  else [.i o.code, .i 0, .i 0, .i 0, .i 0, .l [], .s o.sum, .i o.lease, .s o.a, .s o.b, .l [], .l []]
theorem zn9 {o : Out} (h : o.code = 0) : zt o = [.i 0, .i o.st.width, .i o.st.now, .i o.st.given, .i o.st.births, .l (encK o.st.things), .l (encP o.st.pins), .s o.sum, .i o.lease, .s o.a, .s o.b, .l (encL o.st.leases)] := by unfold zt; rw [if_pos h]
theorem zp9 {o : Out} (h : ¬ o.code = 0) : zt o = [.i o.code, .i 0, .i 0, .i 0, .i 0, .l [], .l [], .s o.sum, .i o.lease, .s o.a, .s o.b, .l []] := by unfold zt; rw [if_neg h]
section
variable {s : State} {e : Entry} (V : VS s)
include V
theorem zqs (hk : e.kind = 2) : Lq3 none (zcf s e) = some (zbf (chg s e)) := by
  have h2 := V.nP
  have hl := lb_le (qP e.name) s.pins
  unfold zcf chg
  rw [eq3_i, if_neg (by omega), if_pos hk]
  simp (disch := omega) only [push_cast, zdn V]
  by_cases hT : hasT s.things e.sum
  · rw [if_pos hT, decide_eq_false (show ¬ findT s.things e.sum < 0 from fun h => zbi.1 h hT)]
    simp (disch := omega) only [push_cast]
    have := z6 (f := fun (i : Nat) (a : Bool × List Pin) => Lq3 (some 6) [.b a.1, .i (i : Int), .i s.width, .i s.now, .i s.given, .i s.births, .l (encK s.things), .l (encP s.pins), .i e.kind, .s e.sum, .s e.name, .i e.number, .s e.thing.text, .l (encS e.thing.refs), .i 0, .i 0, .i 0, .i 0, .i 0, .s E0, .i 0, .s E0, .s E0, .l (encP a.2), .l (encL s.leases), .l [], .l [], .l []]) (n := s.pins.length)
      (T := some (zbf (if hasP s.pins e.name ∨ s.pins.length < 100 then done { s with pins := putP e.name e.sum s.pins } else fail s 4)))
      (I := fun i a => (i ≤ lb (qP e.name) s.pins ∧ a = (false, s.pins.take i)) ∨ (lb (qP e.name) s.pins < i ∧ a = (true, s.pins.take (lb (qP e.name) s.pins) ++ ⟨e.name, e.sum⟩ :: ((s.pins.drop (lb (qP e.name) s.pins)).take (i - lb (qP e.name) s.pins)).filter (fun k => !decide (k.name = e.name))))) (fun i a hi hI => by
        have step11 : ∀ (b : Bool) (l : List Pin), l.length ≤ 1000 → Lq3 (some 11) [.b b, .i (i : Int), .i s.width, .i s.now, .i s.given, .i s.births, .l (encK s.things), .l (encP s.pins), .i e.kind, .s e.sum, .s e.name, .i e.number, .s e.thing.text, .l (encS e.thing.refs), .i 0, .i 0, .i 0, .i 0, .i 0, .s E0, .i 0, .s E0, .s E0, .l (encP l), .l (encL s.leases), .l [], .l [], .l []] =
            Lq3 (some 6) [.b b, .i ((i + 1 : Nat) : Int), .i s.width, .i s.now, .i s.given, .i s.births, .l (encK s.things), .l (encP s.pins), .i e.kind, .s e.sum, .s e.name, .i e.number, .s e.thing.text, .l (encS e.thing.refs), .i 0, .i 0, .i 0, .i 0, .i 0, .s E0, .i 0, .s E0, .s E0, .l (encP (if (nth P0 s.pins i).name = e.name then l else l ++ [nth P0 s.pins i])), .l (encL s.leases), .l [], .l [], .l []] := fun b l hll => by
          rw [eq3_11, mostE]
          by_cases hc : (nth P0 s.pins i).name = e.name
          · rw [if_pos hc]; simp (disch := omega) only [push_cast]
          · rw [if_neg hc, ← zcg]; simp (disch := omega) only [push_cast]; rfl
        rcases hI with ⟨hi2, rfl⟩ | ⟨hi2, rfl⟩
        · rcases Nat.eq_or_lt_of_le hi2 with he | hlt
          · refine ⟨_, ?_, .inr ⟨by omega, rfl⟩⟩
            show Lq3 _ _ = Lq3 _ _
            have c1 : slt (nth P0 s.pins i).name e.name = false := by rw [he]; exact lb_at (qP e.name) P0 s.pins (by omega)
            rw [eq3_6, mostE]
            simp (disch := omega) only [push_cast, c1, List.length_append, List.length_take]
            rw [zej, zcg, step11 true _ (by simp; omega)]
            rw [← he, Nat.add_sub_cancel_left, zc8 P0 hi]
            by_cases hc : (nth P0 s.pins i).name = e.name
            · simp [hc]
            · simp [hc]
          · refine ⟨(false, s.pins.take (i + 1)), ?_, .inl ⟨hlt, rfl⟩⟩
            show Lq3 _ _ = Lq3 _ _
            have c1 : slt (nth P0 s.pins i).name e.name = true := lb_lt (qP e.name) P0 s.pins i hlt
            have c2 : ¬ (nth P0 s.pins i).name = e.name := zrd c1
            rw [eq3_6, mostE]
            simp (disch := omega) only [push_cast, c1]
            rw [step11 false _ (by simp; omega), if_neg c2, zbb P0 hi]; simp (disch := omega) only [push_cast]
        · have hfl := List.length_filter_le (fun k : Pin => !decide (k.name = e.name)) ((s.pins.drop (lb (qP e.name) s.pins)).take (i - lb (qP e.name) s.pins))
          simp only [List.length_take, List.length_drop] at hfl
          refine ⟨_, ?_, .inr ⟨by omega, rfl⟩⟩
          show Lq3 _ _ = Lq3 _ _
          rw [eq3_6]
          simp (disch := omega) only [push_cast]
          rw [step11 true _ (by simp; omega)]
          have hd : nth P0 s.pins i = nth P0 (s.pins.drop (lb (qP e.name) s.pins)) (i - lb (qP e.name) s.pins) := by
            rw [zm _ _ _ hi, zm _ _ _ (by simp; omega)]; simp; congr 1; omega
          rw [show i + 1 - lb (qP e.name) s.pins = (i - lb (qP e.name) s.pins) + 1 by omega, zbb P0 (by simp; omega), ← hd]
          by_cases hc : (nth P0 s.pins i).name = e.name
          · simp [hc, List.filter_append]
          · simp [hc, List.filter_append]) (fun a hI => by
        show Lq3 _ _ = _
        have hpl := zpy s.pins e.name e.sum
        rw [eq3_6]
        rcases hI with ⟨hi2, rfl⟩ | ⟨hi2, rfl⟩
        · have hlb : lb (qP e.name) s.pins = s.pins.length := by omega
          have hnP : ¬ hasP s.pins e.name := fun h => by have := ((zdz V.srtP e.name).1 h).1; omega
          have hF : s.pins ++ [⟨e.name, e.sum⟩] = putP e.name e.sum s.pins := by
            rw [← zk4 V.srtP, hlb, List.take_length, List.drop_length]; rfl
          rw [List.take_length, zej, zcg, hF, mostE]
          rw [if_neg hnP] at hpl
          by_cases hc : s.pins.length < 100
          · rw [if_pos (Or.inr hc)]
            simp (disch := omega) only [push_cast, hpl, List.length_append] <;> rfl
          · rw [if_neg (by rintro (h | h); exact hnP h; exact hc h)]
            simp (disch := omega) only [push_cast, hpl, List.length_append] <;> rfl
        · rw [List.take_of_length_le (l := s.pins.drop _) (by simp), zk4 V.srtP]
          by_cases hP : hasP s.pins e.name
          · rw [if_pos hP] at hpl
            rw [if_pos (Or.inl hP)]
            simp (disch := omega) only [push_cast, hpl] <;> rfl
          · rw [if_neg hP] at hpl
            by_cases hc : s.pins.length < 100
            · rw [if_pos (Or.inr hc)]
              simp (disch := omega) only [push_cast, hpl] <;> rfl
            · rw [if_neg (by rintro (h | h); exact hP h; exact hc h)]
              simp (disch := omega) only [push_cast, hpl] <;> rfl) 0 (false, []) (Nat.zero_le _) (.inl ⟨Nat.zero_le _, rfl⟩)
    exact this
  · rw [if_neg hT, decide_eq_true (zbi.2 hT)]; simp (disch := omega) only [push_cast] <;> rfl
theorem zor (hk : e.kind = 3) : Lqby none [.i s.width, .i s.now, .i s.given, .i s.births, .l (encK s.things), .l (encP s.pins), .s e.name, .l (encL s.leases)] = some (zbf (chg s e)) := by
  have h2 := V.nP
  unfold chg
  rw [eqby_i, if_neg (by omega), if_neg (by omega), if_pos hk]
  refine zel P0 (l := s.pins) (p := fun k => !decide (k.name = e.name)) (f := fun i a => Lqby (some 3) [.s e.name, .i (i : Int), .i s.width, .i s.now, .i s.given, .i s.births, .l (encK s.things), .l (encP s.pins), .i 0, .i 0, .i 0, .i 0, .i 0, .s E0, .i 0, .s E0, .s E0, .l (encP a), .l (encL s.leases), .l [], .l [], .l []]) (fun i a hi ha => ?_) ?_
  · show Lqby _ _ = Lqby _ _
    rw [eqby_3, mostE]
    by_cases hc : (nth P0 s.pins i).name = e.name
    · rw [if_neg (by simp [hc])]; simp (disch := omega) only [push_cast]
    · rw [if_pos (by simp [hc]), ← zcg]; simp (disch := omega) only [push_cast] <;> rfl
  · show Lqby _ _ = _
    rw [eqby_3]
    have hfl := znn (l := s.pins) (p := fun k => k.name = e.name)
    by_cases hP : hasP s.pins e.name
    · rw [if_pos hP]
      have : ¬ (s.pins.filter fun a => !decide (a.name = e.name)).length = s.pins.length := fun h => hfl.1 h hP
      simp (disch := omega) only [push_cast] <;> rfl
    · rw [if_neg hP]
      have : (s.pins.filter fun a => !decide (a.name = e.name)).length = s.pins.length := hfl.2 hP
      simp (disch := omega) only [push_cast] <;> rfl
theorem zsi (hk : e.kind = 5) : Lqbz none [.i s.width, .i s.now, .i s.given, .i s.births, .l (encK s.things), .l (encP s.pins), .i e.number, .l (encL s.leases)] = some (zt (chg s e)) := by
  have h2 := V.nL
  unfold chg
  rw [eqbz_i, if_neg (by omega), if_neg (by omega), if_neg (by omega), if_neg (by omega), if_pos hk]
  refine zel L0 (l := s.leases) (p := fun k => !decide (k.number = e.number)) (f := fun i a => Lqbz (some 3) [.i e.number, .i (i : Int), .i s.width, .i s.now, .i s.given, .i s.births, .l (encK s.things), .l (encP s.pins), .i 0, .i 0, .i 0, .i 0, .i 0, .s E0, .i 0, .s E0, .s E0, .l (encL a), .l (encL s.leases), .l [], .l [], .l []]) (fun i a hi ha => ?_) ?_
  · show Lqbz _ _ = Lqbz _ _
    rw [eqbz_3, mostE]
    by_cases hc : (nth L0 s.leases i).number = e.number
    · rw [if_neg (by simp [hc])]; simp (disch := omega) only [push_cast]
    · rw [if_pos (by simp [hc]), ← zdm]; simp (disch := omega) only [push_cast] <;> rfl
  · show Lqbz _ _ = _
    rw [eqbz_3]
    have hfl := znn (l := s.leases) (p := fun k => k.number = e.number)
    by_cases hP : hasL s.leases e.number
    · rw [if_pos hP]
      have : ¬ (s.leases.filter fun a => !decide (a.number = e.number)).length = s.leases.length := fun h => hfl.1 h hP
      simp (disch := omega) only [push_cast] <;> rfl
    · rw [if_neg hP]
      have : (s.leases.filter fun a => !decide (a.number = e.number)).length = s.leases.length := hfl.2 hP
      simp (disch := omega) only [push_cast] <;> rfl
theorem zui (hk : e.kind = 6) (hm : 0 ≤ e.number ∧ e.number ≤ 1000000000) : Lqb0 none [.i s.width, .i s.now, .i s.given, .i s.births, .l (encK s.things), .l (encP s.pins), .i e.number, .l (encL s.leases)] = some (zt (chg s e)) := by
  have h2 := V.nL; have h3 := V.now
  unfold chg
  rw [eqb0_i, if_neg (by omega), if_neg (by omega), if_neg (by omega), if_neg (by omega), if_neg (by omega), if_pos hk]
  by_cases hn : s.now + e.number ≤ 1000000000
  · rw [if_pos hn]
    simp (disch := omega) only [push_cast]
    refine zel L0 (l := s.leases) (p := fun l => decide (s.now + e.number < l.till)) (f := fun i a => Lqb0 (some 6) [.i (i : Int), .i s.width, .i (s.now + e.number), .i s.given, .i s.births, .l (encK s.things), .l (encP s.pins), .i 0, .i 0, .i 0, .i 0, .i 0, .s E0, .i 0, .s E0, .s E0, .l (encL a), .l (encL s.leases), .l [], .l [], .l []]) (fun i a hi ha => ?_) ?_
    · show Lqb0 _ _ = Lqb0 _ _
      rw [eqb0_6, mostE]
      by_cases hc : s.now + e.number < (nth L0 s.leases i).till
      · rw [if_pos (by simp [hc]), ← zdm]; simp (disch := omega) only [push_cast] <;> rfl
      · rw [if_neg (by simp [hc])]; simp (disch := omega) only [push_cast]
    · show Lqb0 _ _ = _
      rw [eqb0_6]; simp (disch := omega) only [push_cast] <;> rfl
  · rw [if_neg hn]; simp (disch := omega) only [push_cast] <;> rfl
theorem zub (hr : ¬ isRef s.things e.sum) : Lq7 (some 7) [.s e.sum, .i 0, .i s.width, .i s.now, .i s.given, .i s.births, .l (encK s.things), .l (encP s.pins), .i 0, .i 0, .i 0, .i 0, .i 0, .s E0, .i 0, .s E0, .s E0, .l (encK []), .l (encL s.leases), .l [], .l [], .l []] =
    some [.i 0, .i s.width, .i s.now, .i s.given, .i s.births, .l (encP s.pins), .s E0, .i 0, .s E0, .s E0, .l (encK (delK e.sum s.things)), .l (encL s.leases)] := by
  have h1 := V.nT
  refine zel K0 (l := s.things) (p := fun k => !decide (k.sum = e.sum)) (f := fun i a => Lq7 (some 7) [.s e.sum, .i (i : Int), .i s.width, .i s.now, .i s.given, .i s.births, .l (encK s.things), .l (encP s.pins), .i 0, .i 0, .i 0, .i 0, .i 0, .s E0, .i 0, .s E0, .s E0, .l (encK a), .l (encL s.leases), .l [], .l [], .l []]) (fun i a hi ha => ?_) ?_
  · show Lq7 _ _ = Lq7 _ _
    have hm := zi (d := K0) hi
    have hrl := zb0 V _ hm
    have hn : ¬ e.sum ∈ (nth K0 s.things i).thing.refs := fun h => hr ⟨_, hm, h⟩
    rw [eq7_7, mostE]
    by_cases hc : (nth K0 s.things i).sum = e.sum
    · rw [if_neg (by simp [hc])]; simp (disch := omega) only [push_cast, z0 _ e.sum (show (nth K0 s.things i).thing.refs.length ≤ 4611686018427387904 by omega), decide_eq_false hn]
    · rw [if_pos (by simp [hc]), ← zbc]; simp (disch := omega) only [push_cast, z0 _ e.sum (show (nth K0 s.things i).thing.refs.length ≤ 4611686018427387904 by omega), decide_eq_false hn] <;> rfl
  · show Lq7 _ _ = _
    rw [eq7_7]; simp (disch := omega) only [push_cast] <;> rfl
theorem ztg (hr : isRef s.things e.sum) : ∀ (i : Nat) (a : List Kept), i ≤ s.things.length → (a.length ≤ i ∧ ∃ j, i ≤ j ∧ j < s.things.length ∧ e.sum ∈ (nth K0 s.things j).thing.refs) → Lq7 (some 7) [.s e.sum, .i (i : Int), .i s.width, .i s.now, .i s.given, .i s.births, .l (encK s.things), .l (encP s.pins), .i 0, .i 0, .i 0, .i 0, .i 0, .s E0, .i 0, .s E0, .s E0, .l (encK a), .l (encL s.leases), .l [], .l [], .l []] =
    some [.i 6, .i 0, .i 0, .i 0, .i 0, .l [], .s E0, .i 0, .s E0, .s E0, .l [], .l []] := by
  have h1 := V.nT
  intro i a hi hI
  refine zgk (f := fun i a => Lq7 (some 7) [.s e.sum, .i (i : Int), .i s.width, .i s.now, .i s.given, .i s.births, .l (encK s.things), .l (encP s.pins), .i 0, .i 0, .i 0, .i 0, .i 0, .s E0, .i 0, .s E0, .s E0, .l (encK a), .l (encL s.leases), .l [], .l [], .l []]) (n := s.things.length) (I := fun i a => a.length ≤ i ∧ ∃ j, i ≤ j ∧ j < s.things.length ∧ e.sum ∈ (nth K0 s.things j).thing.refs)
    (T := fun r => r = some [.i 6, .i 0, .i 0, .i 0, .i 0, .l [], .s E0, .i 0, .s E0, .s E0, .l [], .l []]) (fun i a hi hI => ?_) (fun a hI => ?_) i a hi hI
  · obtain ⟨ha, j, hj1, hj2, hj3⟩ := hI
    have hm := zi (d := K0) hi
    have hrl := zb0 V _ hm
    by_cases hn : e.sum ∈ (nth K0 s.things i).thing.refs
    · right
      show Lq7 _ _ = _
      rw [eq7_7]
      simp (disch := omega) only [push_cast, z0 _ e.sum (show (nth K0 s.things i).thing.refs.length ≤ 4611686018427387904 by omega), decide_eq_true hn]
    · left
      have hj : i + 1 ≤ j := by
        rcases Nat.eq_or_lt_of_le hj1 with h | h
        · rw [h] at hn; exact absurd hj3 hn
        · exact h
      by_cases hc : (nth K0 s.things i).sum = e.sum
      · refine ⟨a, ?_, by omega, j, hj, hj2, hj3⟩
        show Lq7 _ _ = Lq7 _ _
        rw [eq7_7]
        simp (disch := omega) only [push_cast, z0 _ e.sum (show (nth K0 s.things i).thing.refs.length ≤ 4611686018427387904 by omega), decide_eq_false hn]
      · refine ⟨a ++ [nth K0 s.things i], ?_, by simp; omega, j, hj, hj2, hj3⟩
        show Lq7 _ _ = Lq7 _ _
        rw [eq7_7, mostE, ← zbc]
        simp (disch := omega) only [push_cast, z0 _ e.sum (show (nth K0 s.things i).thing.refs.length ≤ 4611686018427387904 by omega), decide_eq_false hn] <;> rfl
  · obtain ⟨_, j, h1, h2, _⟩ := hI; omega
theorem zqi (hk : e.kind = 7) : (Lq7 none [.i s.width, .i s.now, .i s.given, .i s.births, .l (encK s.things), .l (encP s.pins), .s e.sum, .l (encL s.leases)]).bind (fun y9 => some [.i ((g y9 0).int), .i ((g y9 1).int), .i ((g y9 2).int), .i ((g y9 3).int), .i ((g y9 4).int), .l ((g y9 10).list), .l ((g y9 5).list), .s ((g y9 6).str), .i ((g y9 7).int), .s ((g y9 8).str), .s ((g y9 9).str), .l ((g y9 11).list)]) = some (zt (chg s e)) := by
  have h2 := V.nP; have h3 := V.nL
  have hh := zlb s e.sum (by omega) (by omega)
  unfold encSt at hh
  unfold chg
  rw [eq7_i, if_neg (by omega), if_neg (by omega), if_neg (by omega), if_neg (by omega), if_neg (by omega), if_neg (by omega)]
  simp (disch := omega) only [push_cast, zdn V, show Lqw none [.i s.width, .i s.now, .i s.given, .i s.births, .l (encK s.things), .l (encP s.pins), .l (encL s.leases), .s e.sum] = _ from hh]
  by_cases hT : hasT s.things e.sum
  · rw [if_pos hT, decide_eq_false (show ¬ findT s.things e.sum < 0 from fun h => zbi.1 h hT)]
    by_cases c1 : held s e.sum
    · rw [if_pos (Or.inl c1), decide_eq_true c1]; simp (disch := omega) only [push_cast] <;> rfl
    · rw [decide_eq_false c1]
      by_cases c2 : isRef s.things e.sum
      · rw [if_pos (Or.inr c2)]
        have := ztg V c2 0 [] (Nat.zero_le _) ⟨Nat.le_refl _, by
          obtain ⟨k, hk1, hk2⟩ := c2
          obtain ⟨j, hj, rfl⟩ := z9 K0 hk1
          exact ⟨j, Nat.zero_le _, hj, hk2⟩⟩
        simp (disch := omega) only [push_cast]
        rw [show Lq7 (some 7) [.s e.sum, .i 0, .i s.width, .i s.now, .i s.given, .i s.births, .l (encK s.things), .l (encP s.pins), .i 0, .i 0, .i 0, .i 0, .i 0, .s E0, .i 0, .s E0, .s E0, .l [], .l (encL s.leases), .l [], .l [], .l []] = _ from this]
        rfl
      · rw [if_neg (by rintro (h | h); exact c1 h; exact c2 h)]
        have := zub V c2
        simp (disch := omega) only [push_cast]
        rw [show Lq7 (some 7) [.s e.sum, .i 0, .i s.width, .i s.now, .i s.given, .i s.births, .l (encK s.things), .l (encP s.pins), .i 0, .i 0, .i 0, .i 0, .i 0, .s E0, .i 0, .s E0, .s E0, .l [], .l (encL s.leases), .l [], .l [], .l []] = _ from this]
        rfl
  · rw [if_neg hT, decide_eq_true (zbi.2 hT)]; simp (disch := omega) only [push_cast] <;> rfl
theorem zil (o : Out) : [Lf.i ((g (zt o) 0).int), .i ((g (zt o) 1).int), .i ((g (zt o) 2).int), .i ((g (zt o) 3).int), .i ((g (zt o) 4).int), .l ((g (zt o) 5).list), .l ((g (zt o) 6).list), .s ((g (zt o) 7).str), .i ((g (zt o) 8).int), .s ((g (zt o) 9).str), .s ((g (zt o) 10).str), .l ((g (zt o) 11).list)] = zt o := by
  unfold zt; split <;> rfl
theorem ziy (o : Out) : [Lf.i ((g (zbf o) 0).int), .i ((g (zbf o) 1).int), .i ((g (zbf o) 2).int), .i ((g (zbf o) 3).int), .i ((g (zbf o) 4).int), .l ((g (zbf o) 5).list), .l ((g (zbf o) 10).list), .s ((g (zbf o) 6).str), .i ((g (zbf o) 7).int), .s ((g (zbf o) 8).str), .s ((g (zbf o) 9).str), .l ((g (zbf o) 11).list)] = zt o := by
  unfold zt zbf; split <;> rfl
theorem znd (he : zg e s.width = true) : Lqcs none (zcf s e) = some (zt (chg s e)) := by
  have h1 := V.nT; have h2 := V.nL; have h4 := V.nP
  have hnum := EntryOk.num he; have hk := EntryOk.kd he
  have hc : e.kind = 1 ∨ e.kind = 2 ∨ e.kind = 3 ∨ e.kind = 4 ∨ e.kind = 5 ∨ e.kind = 6 ∨ e.kind = 7 := by omega
  unfold zcf
  rw [eqcs_i]
  rcases hc with h | h | h | h | h | h | h
  · have := zoi V (EntryOk.thing he h) hnum
    unfold zcf at this
    have hp : chg s e = putS s e := by unfold chg; rw [if_pos h]
    simp (disch := omega) only [push_cast]
    rw [this, Option.bind_some, zil V, hp]
  · have := zqs V h
    unfold zcf at this
    simp (disch := omega) only [push_cast]
    rw [this, Option.bind_some, ziy V]
  · have := zor V h
    simp (disch := omega) only [push_cast]
    rw [this, Option.bind_some, ziy V]
  · simp (disch := omega) only [push_cast, zdn V]
    unfold chg
    rw [if_neg (by omega), if_neg (by omega), if_neg (by omega), if_pos h]
    by_cases hT : hasT s.things e.sum
    · rw [if_pos hT, decide_eq_false (show ¬ findT s.things e.sum < 0 from fun h => zbi.1 h hT)]
      simp (disch := omega) only [push_cast, zcv s.width s.now s.given s.births s.things (encP s.pins) (encL s.leases) (by omega) (zb0 V) (by rw [zbx]; omega) (by rw [zb2]; omega), zfx s.width s.now s.given s.births (encK s.things) (encP s.pins) e.sum e.number s.leases (by omega) V.given V.now hnum]
      by_cases hro : room s
      · rw [if_pos hro, if_pos (show s.leases.length < 200 ∧ s.given < 1000000000 from hro)]; simp (disch := omega) only [push_cast] <;> rfl
      · rw [if_neg hro, if_neg (show ¬ (s.leases.length < 200 ∧ s.given < 1000000000) from hro)]; simp (disch := omega) only [push_cast] <;> rfl
    · rw [if_neg hT, decide_eq_true (zbi.2 hT)]; simp (disch := omega) only [push_cast] <;> rfl
  · have := zsi V h
    simp (disch := omega) only [push_cast]
    rw [this, Option.bind_some, zil V]
  · have := zui V h hnum
    simp (disch := omega) only [push_cast]
    rw [this, Option.bind_some, zil V]
  · have := zqi V h
    simp (disch := omega) only [push_cast]
    exact this
end
end KV
end
section
namespace KV
open Go Go.Eng
open Classical
theorem EntryOk.hold {e : Entry} {w : Int} (h : zg e w = true) (hk : e.kind = 1 ∨ e.kind = 4 ∨ e.kind = 6) : 1 ≤ e.number ∧ e.number ≤ 100000 := by
  unfold zg numB at h; simp only [Bool.and_eq_true, decide_eq_true_eq] at h
  have := h.2.2.2.2.1
  rw [if_pos hk] at this
  exact of_decide_eq_true this
theorem EntryOk.name {e : Entry} {w : Int} (h : zg e w = true) (hk : e.kind = 2) : NameOk e.name := by
  unfold zg namB at h; simp only [Bool.and_eq_true, decide_eq_true_eq] at h
  have := h.2.2.2.1
  rw [if_pos (by unfold uN; simp [hk])] at this
  exact zl7.1 this
theorem zbv {k a : Kept} {l : List Kept} : a ∈ insK k l ↔ a = k ∨ a ∈ l := by
  unfold insK
  rw [List.mem_append, List.mem_cons]
  conv => rhs; rw [← List.take_append_drop (lb (qK k.sum) l) l, List.mem_append]
  constructor
  · rintro (h | h | h)
    · exact .inr (.inl h)
    · exact .inl h
    · exact .inr (.inr h)
  · rintro (h | h | h)
    · exact .inr (.inl h)
    · exact .inl h
    · exact .inr (.inr h)
theorem zmv {α : Type} {l : List α} {i : Nat} {a : α} (d : α) (h : a ∈ l.take i) : ∃ j, j < i ∧ j < l.length ∧ nth d l j = a := by
  obtain ⟨j, hj, rfl⟩ := List.mem_iff_getElem.1 h
  rw [List.length_take] at hj
  exact ⟨j, by omega, by omega, by rw [zm d l j (by omega), List.getElem_take]⟩
theorem zut {α : Type} {l : List α} {i : Nat} {a : α} (d : α) (h : a ∈ l.drop i) : ∃ j, i ≤ j ∧ j < l.length ∧ nth d l j = a := by
  obtain ⟨j, hj, rfl⟩ := List.mem_iff_getElem.1 h
  rw [List.length_drop] at hj
  exact ⟨i + j, by omega, by omega, by rw [zm d l _ (by omega), List.getElem_drop]⟩
theorem zjs {α : Type} {R : α → α → Prop} {q : α → Bool} (d k : α) {l : List α} (h : l.Pairwise R) (mono : ∀ a b, R a b → q b = true → q a = true) (h1 : ∀ a, a ∈ l → q a = true → R a k) (h2 : ∀ a, a ∈ l → q a = false → R k a) (tr : ∀ a b c, R a b → R b c → R a c) : (l.take (lb q l) ++ k :: l.drop (lb q l)).Pairwise R := by
  have hd : ∀ a ∈ l.drop (lb q l), R k a := fun a ha => by
    obtain ⟨j, hj1, hj2, rfl⟩ := zut d ha
    exact h2 _ (zi hj2) (lb_hi d h mono j hj1 hj2)
  have ht : ∀ a ∈ l.take (lb q l), R a k := fun a ha => by
    obtain ⟨j, hj1, hj2, rfl⟩ := zmv d ha
    exact h1 _ (zi hj2) (lb_lt q d l j hj1)
  rw [List.pairwise_append, List.pairwise_cons]
  refine ⟨h.sublist (List.take_sublist _ _), ⟨hd, h.sublist (List.drop_sublist _ _)⟩, fun a ha b hb => ?_⟩
  rcases List.mem_cons.1 hb with rfl | hb
  · exact ht a ha
  · exact tr _ _ _ (ht a ha) (hd b hb)
theorem zn2 {k : Kept} {l : List Kept} (h : SrtK l) (hk : ¬ hasT l k.sum) : SrtK (insK k l) :=
  zjs (R := fun (a b : Kept) => slt a.sum b.sum = true) (q := qK k.sum) K0 k h (fun a b hab hb => zbq hab hb) (fun a _ ha => ha) (fun a hm ha => by
    rcases zh9.1 (show slt a.sum k.sum = false from ha) with h1 | h1
    · exact absurd ⟨a, hm, h1⟩ hk
    · exact h1) (fun a b c h1 h2 => zbq h1 h2)
theorem zsv (k : Kept) (l : List Kept) : (insK k l).length = l.length + 1 := by
  have := lb_le (qK k.sum) l
  unfold insK; simp; omega
theorem zl8 {k : Kept} {l : List Kept} {x : Bs} (h : hasT l x) : hasT (insK k l) x := by
  obtain ⟨j, h1, h2⟩ := h; exact ⟨j, zbv.2 (.inr h1), h2⟩
theorem zs3 {l : List Pin} (h : SrtP l) (n x : Bs) : SrtP (putP n x l) := by
  unfold putP
  split
  · rename_i hP
    have hi := (zdz h n).1 hP
    unfold SrtP at h ⊢
    rw [List.pairwise_iff_getElem] at h ⊢
    intro i j hi' hj' hij
    rw [List.length_set] at hi' hj'
    have key : ∀ i (hi' : i < l.length), ((l.set (lb (qP n) l) ⟨n, x⟩)[i]'(by rw [List.length_set]; exact hi')).name = l[i].name := fun i hi' => by
      rw [List.getElem_set]
      split
      · rename_i he
        subst he
        rw [← zm P0 l _ hi']; exact hi.2.symm
      · rfl
    rw [key i hi', key j hj']
    exact h i j hi' hj' hij
  · rename_i hP
    exact zjs (R := fun (a b : Pin) => slt a.name b.name = true) (q := qP n) P0 ⟨n, x⟩ h (fun a b hab hb => zbq hab hb) (fun a _ ha => ha) (fun a hm ha => by
      rcases zh9.1 (show slt a.name n = false from ha) with h1 | h1
      · exact absurd ⟨a, hm, h1⟩ hP
      · exact h1) (fun a b c h1 h2 => zbq h1 h2)
theorem zl0 {l : List Pin} {n x : Bs} {a : Pin} (h : a ∈ putP n x l) : a = ⟨n, x⟩ ∨ a ∈ l := by
  unfold putP at h
  split at h
  · rcases List.mem_or_eq_of_mem_set h with h | h
    · exact .inr h
    · exact .inl h
  · rw [List.mem_append, List.mem_cons] at h
    rcases h with h | h | h
    · exact .inr (List.mem_of_mem_take h)
    · exact .inl h
    · exact .inr (List.mem_of_mem_drop h)
theorem zn1 (l : List Pin) (n x : Bs) : (putP n x l).length ≤ l.length + 1 ∧ (hasP l n → (putP n x l).length = l.length) := by
  have := lb_le (qP n) l
  unfold putP; split
  · simp
  · rename_i h; exact ⟨by simp; omega, fun h1 => absurd h1 h⟩
theorem zhh {s : State} (V : VS s) {x : Bs} {m : Int} (hr : room s) (hx : hasT s.things x) (hm : 1 ≤ m ∧ m ≤ 100000) : VS (lent s x m) := by
  have hg := V.given
  obtain ⟨r1, r2⟩ := hr
  refine ⟨V.wd, V.now, ?_, V.births, V.nT, V.nP, ?_, V.srtT, V.okT, V.ndT, V.refs, V.srtP, V.okP, ?_, ?_⟩
  · show 0 ≤ s.given + 1 ∧ s.given + 1 ≤ 1000000000; omega
  · show (s.leases ++ [_]).length ≤ 200; simp; omega
  · show (s.leases ++ [_]).Pairwise _
    rw [List.pairwise_append]
    refine ⟨V.srtL, List.pairwise_singleton _ _, fun a ha b hb => ?_⟩
    rw [List.mem_singleton] at hb
    subst hb
    have := (V.okL a ha).2.1
    show a.number < s.given + 1; omega
  · intro l hl
    show 1 ≤ l.number ∧ l.number ≤ s.given + 1 ∧ hasT s.things l.sum ∧ s.now < l.till ∧ l.till ≤ s.now + 100000
    rcases List.mem_append.1 hl with h | h
    · obtain ⟨a, b, c, d⟩ := V.okL l h; exact ⟨a, by omega, c, d⟩
    · rw [List.mem_singleton] at h
      subst h
      refine ⟨?_, ?_, hx, ?_, ?_⟩ <;> simp only <;> omega
theorem zeq {s : Bs} {w : Int} (hw : 1 ≤ w ∧ w ≤ 8) : ((sumM s w).size : Int) = w := zlj (zz.2 hw)
theorem zpr {s : State} (V : VS s) {t : Thing} (ht : ThingOk t s.width) (hx : ¬ hasT s.things (sumM (formM t) s.width)) (hr : ∀ r ∈ t.refs, hasT s.things r) (h1 : s.things.length < 600) (h2 : s.births < 1000000000) :
    VS { s with births := s.births + 1, things := insK ⟨sumM (formM t) s.width, s.births + 1, t⟩ s.things } := by
  have hb := V.births
  refine ⟨V.wd, V.now, V.given, ?_, ?_, V.nP, V.nL, zn2 V.srtT hx, ?_, ?_, ?_, V.srtP, ?_, V.srtL, ?_⟩
  · show 0 ≤ s.births + 1 ∧ s.births + 1 ≤ 1000000000; omega
  · show (insK _ _).length ≤ 600; rw [zsv]; omega
  · intro k hk
    show ThingOk k.thing s.width ∧ k.sum = sumM (formM k.thing) s.width ∧ 1 ≤ k.born ∧ k.born ≤ s.births + 1
    rcases zbv.1 hk with rfl | hk
    · exact ⟨ht, rfl, by simp only; omega, by simp only; omega⟩
    · obtain ⟨a, b, c, d⟩ := V.okT k hk; exact ⟨a, b, c, by omega⟩
  · show ((insK _ _).map (·.born)).Nodup
    unfold insK
    rw [List.map_append, List.map_cons]
    have hp : (List.map (·.born) (s.things.take (lb (qK (sumM (formM t) s.width)) s.things)) ++ (s.births + 1) :: List.map (·.born) (s.things.drop (lb (qK (sumM (formM t) s.width)) s.things))).Perm ((s.births + 1) :: s.things.map (·.born)) := by
      refine List.perm_middle.trans ?_
      rw [← List.map_append, List.take_append_drop]
    rw [hp.nodup_iff, List.nodup_cons]
    refine ⟨fun hm => ?_, V.ndT⟩
    obtain ⟨k, hk, he⟩ := List.mem_map.1 hm
    have := (V.okT k hk).2.2.2; omega
  · intro k hk r hkr
    rcases zbv.1 hk with rfl | hk
    · obtain ⟨j, h3, h4⟩ := hr r hkr
      refine ⟨j, zbv.2 (.inr h3), h4, ?_⟩
      have := (V.okT j h3).2.2.2
      simp only; omega
    · obtain ⟨j, h3, h4, h5⟩ := V.refs k hk r hkr
      exact ⟨j, zbv.2 (.inr h3), h4, h5⟩
  · intro p hp; exact ⟨(V.okP p hp).1, zl8 (V.okP p hp).2⟩
  · intro l hl; obtain ⟨a, b, c, d⟩ := V.okL l hl; exact ⟨a, b, zl8 c, d⟩
theorem zbz {x : Bs} {l : List Kept} {a : Kept} : a ∈ delK x l ↔ a ∈ l ∧ a.sum ≠ x := by unfold delK; simp
theorem zqh {s : State} (V : VS s) {x : Bs} (hh : ¬ held s x) (hr : ¬ isRef s.things x) : VS { s with things := delK x s.things } := by
  have hs : (delK x s.things).Sublist s.things := List.filter_sublist
  have keep : ∀ y, y ≠ x → hasT s.things y → hasT (delK x s.things) y := fun y hy ⟨j, h1, h2⟩ => ⟨j, zbz.2 ⟨h1, by rw [h2]; exact hy⟩, h2⟩
  refine ⟨V.wd, V.now, V.given, V.births, Nat.le_trans hs.length_le V.nT, V.nP, V.nL, V.srtT.sublist hs, fun k hk => V.okT k (zbz.1 hk).1, (V.ndT.sublist (hs.map _)), ?_, V.srtP, ?_, V.srtL, ?_⟩
  · intro k hk r hkr
    obtain ⟨j, h3, h4, h5⟩ := V.refs k (zbz.1 hk).1 r hkr
    refine ⟨j, zbz.2 ⟨h3, ?_⟩, h4, h5⟩
    rw [h4]; rintro rfl; exact hr ⟨k, (zbz.1 hk).1, hkr⟩
  · intro p hp; exact ⟨(V.okP p hp).1, keep _ (fun h => hh (.inl ⟨p, hp, h⟩)) (V.okP p hp).2⟩
  · intro l hl; obtain ⟨a, b, c, d⟩ := V.okL l hl; exact ⟨a, b, keep _ (fun h => hh (.inr ⟨l, hl, h⟩)) c, d⟩
theorem zdc {s : State} (V : VS s) {e : Entry} (he : zg e s.width = true) (hc : (chg s e).code = 0) : VS (chg s e).st := by
  have hk := EntryOk.kd he
  unfold chg at hc ⊢
  split at hc
  · rename_i h1
    rw [if_pos h1]
    have hh := EntryOk.hold he (.inl h1)
    have ht := EntryOk.thing he h1
    unfold putS at hc ⊢
    split at hc
    · cases hc
    · rename_i hr
      rw [if_neg hr]
      have hr' : ∀ r ∈ e.thing.refs, hasT s.things r := fun r hr2 => Classical.byContradiction fun h5 => hr ⟨r, hr2, h5⟩
      split at hc
      · rename_i hT
        rw [if_pos hT]
        split at hc
        · rename_i hf
          rw [if_pos hf]
          split at hc
          · rename_i hro; rw [if_pos hro]; exact zhh V hro hT hh
          · cases hc
        · cases hc
      · rename_i hT
        rw [if_neg hT]
        split at hc
        · rename_i hro
          rw [if_pos hro]
          exact zhh (zpr V ht hT hr' hro.2.1 hro.2.2) hro.1 ⟨_, zbv.2 (.inl rfl), rfl⟩ hh
        · cases hc
  · rename_i h1
    rw [if_neg h1]
    split at hc
    · rename_i h2
      rw [if_pos h2]
      split at hc
      · rename_i hT
        rw [if_pos hT]
        split at hc
        · rename_i hP
          rw [if_pos hP]
          have hpl := zn1 s.pins e.name e.sum
          have hn := V.nP
          refine ⟨V.wd, V.now, V.given, V.births, V.nT, ?_, V.nL, V.srtT, V.okT, V.ndT, V.refs, zs3 V.srtP _ _, ?_, V.srtL, V.okL⟩
          · show (putP e.name e.sum s.pins).length ≤ 100
            rcases hP with hP | hP
            · rw [hpl.2 hP]; exact hn
            · omega
          · intro p hp
            rcases zl0 hp with rfl | hp
            · exact ⟨EntryOk.name he h2, hT⟩
            · exact V.okP p hp
        · cases hc
      · cases hc
    · rename_i h2
      rw [if_neg h2]
      split at hc
      · rename_i h3
        rw [if_pos h3]
        split at hc
        · rename_i hP
          rw [if_pos hP]
          have hs : (delP e.name s.pins).Sublist s.pins := List.filter_sublist
          exact ⟨V.wd, V.now, V.given, V.births, V.nT, Nat.le_trans hs.length_le V.nP, V.nL, V.srtT, V.okT, V.ndT, V.refs, V.srtP.sublist hs, fun p hp => V.okP p (hs.subset hp), V.srtL, V.okL⟩
        · cases hc
      · rename_i h3
        rw [if_neg h3]
        split at hc
        · rename_i h4
          rw [if_pos h4]
          split at hc
          · rename_i hT
            rw [if_pos hT]
            split at hc
            · rename_i hro; rw [if_pos hro]; exact zhh V hro hT (EntryOk.hold he (.inr (.inl h4)))
            · cases hc
          · cases hc
        · rename_i h4
          rw [if_neg h4]
          split at hc
          · rename_i h5
            rw [if_pos h5]
            split at hc
            · rename_i hP
              rw [if_pos hP]
              have hs : (delL e.number s.leases).Sublist s.leases := List.filter_sublist
              exact ⟨V.wd, V.now, V.given, V.births, V.nT, V.nP, Nat.le_trans hs.length_le V.nL, V.srtT, V.okT, V.ndT, V.refs, V.srtP, V.okP, V.srtL.sublist hs, fun l hl => V.okL l (hs.subset hl)⟩
            · cases hc
          · rename_i h5
            rw [if_neg h5]
            split at hc
            · rename_i h6
              rw [if_pos h6]
              split at hc
              · rename_i hn
                rw [if_pos hn]
                have hh := EntryOk.hold he (.inr (.inr h6))
                have hnow := V.now
                have hs : (s.leases.filter fun l => decide (s.now + e.number < l.till)).Sublist s.leases := List.filter_sublist
                refine ⟨V.wd, ?_, V.given, V.births, V.nT, V.nP, Nat.le_trans hs.length_le V.nL, V.srtT, V.okT, V.ndT, V.refs, V.srtP, V.okP, V.srtL.sublist hs, fun l hl => ?_⟩
                · show 0 ≤ s.now + e.number ∧ s.now + e.number ≤ 1000000000; omega
                · obtain ⟨a, b, c, d, f⟩ := V.okL l (hs.subset hl)
                  have hl2 := (List.mem_filter.1 hl).2
                  simp only [decide_eq_true_eq] at hl2
                  exact ⟨a, b, c, hl2, by show l.till ≤ s.now + e.number + 100000; omega⟩
              · cases hc
            · rename_i h6
              rw [if_neg h6]
              split at hc
              · rename_i hT
                rw [if_pos hT]
                split at hc
                · cases hc
                · rename_i hn
                  rw [if_neg hn]
                  exact zqh V (fun h => hn (.inl h)) (fun h => hn (.inr h))
              · cases hc
theorem zfi (s : State) (e : Entry) : (chg s e).st.width = s.width := by
  unfold chg putS fail done lent
  repeat' split
  all_goals rfl
theorem zcj {w : Int} (hw : 1 ≤ w ∧ w ≤ 8) : VS ⟨w, 0, 0, 0, [], [], []⟩ := by
  refine ⟨hw, by simp, by simp, by simp, by simp, by simp, by simp, List.Pairwise.nil, (fun k hk => by cases hk), List.nodup_nil, (fun k hk => by cases hk), List.Pairwise.nil, (fun k hk => by cases hk), List.Pairwise.nil, (fun k hk => by cases hk)⟩
end KV
end
section
namespace KV
open Go Go.Eng
open Classical
def empty (w : Int) : State := ⟨w, 0, 0, 0, [], [], []⟩
noncomputable def runL (w : Int) : State → List Bs → Nat → State ⊕ Nat
  | s, [], _ => .inl s
  | s, x :: l, i => match readE x w with
    | none => .inr (i + 1)
    | some e => if (chg s e).code = 0 then runL w (chg s e).st l (i + 1) else .inr (i + 1)
theorem zcq {w : Int} : ∀ (l : List Bs) (s : State) (i : Nat) (s' : State), VS s → s.width = w → runL w s l i = .inl s' → VS s' ∧ s'.width = w
  | [], s, i, s', V, hw, h => by simp only [runL] at h; cases h; exact ⟨V, hw⟩
  | x :: l, s, i, s', V, hw, h => by
    simp only [runL] at h
    split at h
    · cases h
    · rename_i e he
      split at h
      · rename_i hc
        have hE := (zg7 he).2
        rw [← hw] at hE
        exact zcq l _ _ _ (zdc V hE hc) ((zfi s e).trans hw) h
      · cases h
theorem ze1 {w : Int} : ∀ (l m : List Bs) (s : State) (i : Nat), runL w s (l ++ m) i = match runL w s l i with | .inl s' => runL w s' m (i + l.length) | .inr n => .inr n
  | [], m, s, i => by simp [runL]
  | x :: l, m, s, i => by
    simp only [List.cons_append, runL]
    cases readE x w with
    | none => rfl
    | some e =>
      simp only
      split
      · rw [ze1 l m]; simp only [List.length_cons]; rw [show i + 1 + l.length = i + (l.length + 1) by omega]
      · rfl
theorem zjf {w : Int} : ∀ (l : List Bs) (s : State) (i n : Nat), runL w s l i = .inr n → i < n ∧ n ≤ i + l.length
  | [], s, i, n, h => by simp [runL] at h
  | x :: l, s, i, n, h => by
    simp only [runL] at h
    rw [List.length_cons]
    split at h
    · cases h; omega
    · split at h
      · have := zjf l _ _ _ h; omega
      · cases h; omega
def zgg : State ⊕ Nat → Lv
  | .inl s => [.i s.width, .i s.now, .i s.given, .i s.births, .i 0, .l (encK s.things), .l (encP s.pins), .l (encL s.leases)]
  | .inr n => [.i 0, .i 0, .i 0, .i 0, .i (n : Int), .l [], .l [], .l []]
def Small (l : List Bs) : Prop := l.length ≤ 1099511627776 ∧ ∀ x ∈ l, x.size ≤ 1099511627776
theorem ztr (w : Int) (l : List Bs) (hl : Small l) : ∀ (m i : Nat) (s : State), l.length - i = m → i ≤ l.length → VS s → s.width = w →
    Lqcn (some 3) [.i w, .l (encS l), .i (l.length : Int), .i (i : Int), .i 0, .i 0, .i 0, .i 0, .i s.width, .i s.now, .i s.given, .i s.births, .l [], .l [], .l [], .l (encK s.things), .l (encP s.pins), .l (encL s.leases)] = some (zgg (runL w s (l.drop i) i)) := by
  intro m
  induction m with
  | zero =>
    intro i s hm hi V hw
    have : i = l.length := by omega
    subst this
    rw [eqcn_3, List.drop_length]; simp (disch := omega) only [push_cast] <;> rfl
  | succ m ih =>
    intro i s hm hi V hw
    have hlt : i < l.length := by omega
    have hlen := hl.1
    rw [eqcn_3, zc8 .empty hlt]
    simp only [runL]
    simp (disch := omega) only [push_cast, zr0 (nth .empty l i) w (hl.2 _ (zi hlt))]
    cases he : readE (nth .empty l i) w with
    | none => simp (disch := omega) only [push_cast, encOE] <;> rfl
    | some e =>
      have hE := (zg7 he).2
      rw [← hw] at hE
      have := zig V hE
      have h2 : Lqa none [.i e.kind, .s e.sum, .s e.name, .i e.number, .s e.thing.text, .l (encS e.thing.refs), .i s.width, .i s.now, .i s.given, .i s.births, .l (encK s.things), .l (encP s.pins), .l (encL s.leases)] = _ := this
      simp (disch := omega) only [push_cast, encOE, h2]
      simp only [zy, encSt, List.cons_append, List.nil_append]
      by_cases hc : (chg s e).code = 0
      · rw [if_pos hc]
        have := ih (i + 1) (chg s e).st (by omega) (by omega) (zdc V hE hc) ((zfi s e).trans hw)
        simp (disch := omega) only [push_cast]
        exact this
      · rw [if_neg hc]
        simp (disch := omega) only [push_cast, decide_eq_false hc] <;> rfl
theorem zp7 (w : Int) (l : List Bs) (hl : Small l) (hw : 1 ≤ w ∧ w ≤ 8) : Lqcn none [.i w, .l (encS l)] = some (zgg (runL w (empty w) l 0)) := by
  rw [eqcn_i, z4]
  exact ztr w l hl l.length 0 (empty w) (by omega) (Nat.zero_le _) (zcj hw) rfl
def zd9 : State ⊕ Nat → Lv
  | .inl s => [.i 0, .i s.width, .i s.now, .i s.given, .i s.births, .s E0, .i 0, .s E0, .s E0, .l (encK s.things), .l (encP s.pins), .l (encL s.leases)]
  | .inr n => [.i 7, .i 0, .i 0, .i 0, .i 0, .s E0, .i (n : Int), .s E0, .s E0, .l [], .l [], .l []]
def rep1 : Lv := [.i 1, .i 0, .i 0, .i 0, .i 0, .s E0, .i 0, .s E0, .s E0, .l [], .l [], .l []]
theorem zu6 (w : Int) (l : List Bs) (hl : Small l) : ∀ (m i : Nat) (s : State), l.length - i = m → i ≤ l.length → VS s → s.width = w →
    Lqb1 (some 5) [.i w, .l (encS l), .i (i : Int), .i 0, .i 0, .i 0, .i 0, .i 0, .s E0, .i 0, .s E0, .s E0, .i s.width, .i s.now, .i s.given, .i s.births, .l (encK s.things), .l (encP s.pins), .l [], .l [], .l [], .l (encL s.leases)] = some (zd9 (runL w s (l.drop i) i)) := by
  intro m
  induction m with
  | zero =>
    intro i s hm hi V hw
    have h1 := V.nT; have h2 := V.nP; have h3 := V.nL
    have : i = l.length := by omega
    subst this
    rw [eqb1_5, List.drop_length]
    simp (disch := omega) only [push_cast, zcv s.width s.now s.given s.births s.things (encP s.pins) (encL s.leases) (by omega) (zb0 V) (by rw [zbx]; omega) (by rw [zb2]; omega)]
    rfl
  | succ m ih =>
    intro i s hm hi V hw
    have hlt : i < l.length := by omega
    have hlen := hl.1
    rw [eqb1_5, zc8 .empty hlt]
    simp only [runL]
    simp (disch := omega) only [push_cast, zvc (nth .empty l i) w (hl.2 _ (zi hlt))]
    cases he : readE (nth .empty l i) w with
    | none => simp (disch := omega) only [push_cast, encOE] <;> rfl
    | some e =>
      have hE := (zg7 he).2
      rw [← hw] at hE
      have := znd V hE
      unfold zcf at this
      by_cases hc : (chg s e).code = 0
      · rw [zn9 hc] at this
        simp (disch := omega) only [push_cast, encOE, this]
        rw [if_pos hc]
        exact ih (i + 1) (chg s e).st (by omega) (by omega) (zdc V hE hc) ((zfi s e).trans hw)
      · rw [zp9 hc] at this
        simp (disch := omega) only [push_cast, encOE, this]
        rw [if_neg hc]; rfl
theorem zjc (w : Int) (l : List Bs) (hl : Small l) : Lqb1 none [.i w, .l (encS l)] = some (if zj w = true ∧ l.length ≤ 4000 then zd9 (runL w (empty w) l 0) else rep1) := by
  rw [eqb1_i, zq]
  cases hw : zj w
  · simp (disch := omega) only [push_cast, false_and] <;> rfl
  · by_cases hn : l.length ≤ 4000
    · simp (disch := omega) only [push_cast]
      rw [if_pos ⟨trivial, hn⟩]
      exact zu6 w l hl l.length 0 (empty w) (by omega) (Nat.zero_le _) (zcj (zz.1 hw)) rfl
    · simp (disch := omega) only [push_cast]
      rw [if_neg fun h => hn h.2]; rfl
structure LogOk (a b : List Bs) : Prop where
  sa : ∀ x ∈ a, x.size ≤ 5000
  sb : ∀ x ∈ b, x.size ≤ 5000
  n : a.length + b.length ≤ 4000
theorem znc (l : List Bs) : (∀ j, 0 ≤ j → j < l.length → (nth .empty l j).size ≤ 5000) ↔ ∀ x ∈ l, x.size ≤ 5000 := by
  constructor
  · intro h x hx
    obtain ⟨i, hi, rfl⟩ := z9 .empty hx
    exact h i (Nat.zero_le _) hi
  · intro h j _ hj; exact h _ (zi hj)
theorem zlr (a b : List Bs) : (if (∀ j, 0 ≤ j → j < a.length → (nth .empty a j).size ≤ 5000) then (if (∀ j, 0 ≤ j → j < b.length → (nth .empty b j).size ≤ 5000) then some [Lf.b (decide ((a.length : Int) + (b.length : Int) ≤ 4000))] else some [.b false]) else some [.b false]) = some [.b (decide (LogOk a b))] := by
  rw [znc, znc]
  by_cases h1 : ∀ x ∈ a, x.size ≤ 5000
  · rw [if_pos h1]
    by_cases h2 : ∀ x ∈ b, x.size ≤ 5000
    · rw [if_pos h2]
      by_cases h3 : a.length + b.length ≤ 4000
      · rw [decide_eq_true (p := LogOk a b) ⟨h1, h2, h3⟩, decide_eq_true (by omega)]
      · rw [decide_eq_false (p := LogOk a b) fun h => h3 h.n, decide_eq_false (by omega)]
    · rw [if_neg h2, decide_eq_false (p := LogOk a b) fun h => h2 h.sb]
  · rw [if_neg h1, decide_eq_false (p := LogOk a b) fun h => h1 h.sa]
theorem zb7 (a b : List Bs) (ha : Small a) (hb : Small b) : Lqn none [.l (encS a), .l (encS b)] = some [.b (decide (LogOk a b))] := by
  have h1 := ha.1; have h2 := hb.1
  rw [eqn_i, ← zlr]
  have l2 := zu (f := fun i : Nat => Lqn (some 7) [.i (i : Int), .l (encS a), .l (encS b)]) (P := fun j => (nth .empty b j).size ≤ 5000) (n := b.length) (T := some [Lf.b (decide ((a.length : Int) + (b.length : Int) ≤ 4000))]) (F := some [.b false]) (fun i hi => by
    show (_ → Lqn _ _ = _) ∧ (_ → Lqn _ _ = _)
    rw [eqn_7]
    by_cases hc : (nth .empty b i).size ≤ 5000 <;> simp (disch := omega) only [push_cast] <;> simp [hc]) (by show Lqn _ _ = _; rw [eqn_7]; simp (disch := omega) only [push_cast]) 0 (Nat.zero_le _)
  have l1 := zu (f := fun i : Nat => Lqn (some 2) [.i (i : Int), .l (encS a), .l (encS b)]) (P := fun j => (nth .empty a j).size ≤ 5000) (n := a.length) (T := Lqn (some 7) [.i 0, .l (encS a), .l (encS b)]) (F := some [.b false]) (fun i hi => by
    show (_ → Lqn _ _ = _) ∧ (_ → Lqn _ _ = _)
    rw [eqn_2]
    by_cases hc : (nth .empty a i).size ≤ 5000 <;> simp (disch := omega) only [push_cast] <;> simp [hc]) (by show Lqn _ _ = _; rw [eqn_2]; simp (disch := omega) only [push_cast]) 0 (Nat.zero_le _)
  refine l1.trans ?_
  rw [show Lqn (some 7) [.i 0, .l (encS a), .l (encS b)] = _ from l2]
theorem zqo (a b : List Bs) (ha : Small a) (hb : Small b) : Lq5 none [.l (encS a), .l (encS b)] = some [.b (decide (LogOk a b))] := by
  have h1 := ha.1; have h2 := hb.1
  rw [eq5_i, ← zlr]
  have r0 : (rd [[C.l (encS a)], [.l (encS b)]] 0 0).list = encS a := rfl
  have r1 : (rd [[C.l (encS a)], [.l (encS b)]] 1 0).list = encS b := rfl
  have t1 : (1 : Int).toNat = 1 := rfl
  have inner : ∀ (k : Int) (c : List Bs), c.length ≤ 1099511627776 → 0 ≤ k → k ≤ 2 → Lq5 (some 5) [.i 2, .i k, .l (encS c), .i (c.length : Int), .i 0, .l (encS a), .l (encS b), .l [[.l (encS a)], [.l (encS b)]]] =
      if (∀ j, 0 ≤ j → j < c.length → (nth .empty c j).size ≤ 5000) then Lq5 (some 2) [.i 2, .i (k + 1), .l (encS a), .l (encS b), .l [[.l (encS a)], [.l (encS b)]]] else some [.b false] := fun k c hcl hk0 hk2 =>
    zu (f := fun i : Nat => Lq5 (some 5) [.i 2, .i k, .l (encS c), .i (c.length : Int), .i (i : Int), .l (encS a), .l (encS b), .l [[.l (encS a)], [.l (encS b)]]]) (P := fun j => (nth .empty c j).size ≤ 5000) (n := c.length) (fun i hi => by
      show (_ → Lq5 _ _ = _) ∧ (_ → Lq5 _ _ = _)
      rw [eq5_5]
      have hf : ∀ s : Bs, Lqdr none [.s s] = some [.b (decide ((s.size : Int) ≤ 5000))] := fun s => by rw [eqdr_i]
      by_cases hc : (nth .empty c i).size ≤ 5000 <;> simp (disch := omega) only [push_cast, hf] <;> simp [hc]) (by show Lq5 _ _ = _; rw [eq5_5]; simp (disch := omega) only [push_cast]) 0 (Nat.zero_le _)
  show Lq5 (some 2) [.i 2, .i 0, .l (encS a), .l (encS b), .l [[C.l (encS a)], [.l (encS b)]]] = _
  rw [eq5_2]
  show Lq5 (some 5) [.i 2, .i 0, .l (encS a), .i ((encS a).length : Int), .i 0, .l (encS a), .l (encS b), .l [[C.l (encS a)], [.l (encS b)]]] = _
  rw [z4, inner 0 a h1 (by omega) (by omega)]
  split
  · show Lq5 (some 2) [.i 2, .i 1, .l (encS a), .l (encS b), .l [[C.l (encS a)], [.l (encS b)]]] = _
    rw [eq5_2]
    show Lq5 (some 5) [.i 2, .i 1, .l (encS b), .i ((encS b).length : Int), .i 0, .l (encS a), .l (encS b), .l [[C.l (encS a)], [.l (encS b)]]] = _
    rw [z4, inner 1 b h2 (by omega) (by omega)]
    split
    · show Lq5 (some 2) [.i 2, .i 2, .l (encS a), .l (encS b), .l [[C.l (encS a)], [.l (encS b)]]] = _
      rw [eq5_2]; simp (disch := omega) only [push_cast]
    · rfl
  · rfl
theorem zuh (a b : List Bs) (ha : Small a) (hb : Small b) (hn : a.length + b.length ≤ 1099511627776) : Lqds none [.l (encS a), .l (encS b)] = some [.l (encS (a ++ b))] := by
  rw [eqds_i, mostE, zcc _ (by rw [z4]; exact ha.1), ← zn]; simp (disch := omega) only [push_cast]
theorem zi1 (a b : List Bs) (hn : a.length + b.length ≤ 1099511627776) : Lqcx none [.l (encS a), .l (encS b)] = some [.l (encS (a ++ b))] := by
  rw [eqcx_i, mostE, ← zn]; simp (disch := omega) only [push_cast, List.nil_append]
theorem zmo (a b : List Bs) (ha : Small a) (hb : Small b) : Lqcu none [.l (encS a), .l (encS b)] = some [.l (encS a), .l (encS b)] := by
  rw [eqcu_i, zcc _ (by rw [z4]; exact ha.1), zcc _ (by rw [z4]; exact hb.1)]; simp (disch := omega) only [push_cast]
end KV
end
section
namespace KV
open Go Go.Eng
open Classical
theorem Kept.ext' {a b : Kept} (h1 : a.sum = b.sum) (h2 : a.born = b.born) (h3 : a.thing.text = b.thing.text) (h4 : a.thing.refs = b.thing.refs) : a = b := by
  obtain ⟨s, n, ⟨x, r⟩⟩ := a; obtain ⟨s', n', ⟨x', r'⟩⟩ := b
  simp only at h1 h2 h3 h4
  subst h1; subst h2; subst h3; subst h4; rfl
theorem Pin.ext' {a b : Pin} (h1 : a.name = b.name) (h2 : a.sum = b.sum) : a = b := by
  obtain ⟨s, n⟩ := a; obtain ⟨s', n'⟩ := b
  simp only at h1 h2
  subst h1; subst h2; rfl
theorem Lease.ext' {a b : Lease} (h1 : a.number = b.number) (h2 : a.sum = b.sum) (h3 : a.till = b.till) : a = b := by
  obtain ⟨s, n, m⟩ := a; obtain ⟨s', n', m'⟩ := b
  simp only at h1 h2 h3
  subst h1; subst h2; subst h3; rfl
theorem zc2 {α : Type} (d : α) {a b : List α} (hl : a.length = b.length) (h : ∀ j, 0 ≤ j → j < a.length → nth d a j = nth d b j) : a = b := by
  apply List.ext_getElem hl
  intro i h1 h2
  rw [← zm d a i h1, ← zm d b i h2]; exact h i (Nat.zero_le _) h1
structure Small1 (s : State) : Prop where
  nT : s.things.length ≤ 1099511627776
  nP : s.pins.length ≤ 1099511627776
  nL : s.leases.length ≤ 1099511627776
  t : ∀ k ∈ s.things, 1 + szs k.thing.refs + k.thing.text.size ≤ 1099511627776 ∧ k.thing.refs.length ≤ 1099511627776
theorem VS.small {s : State} (V : VS s) : Small1 s := by
  have h1 := V.nT; have h2 := V.nP; have h3 := V.nL
  exact ⟨by omega, by omega, by omega, fun k hk => by have := zbj (V.okT k hk).1; omega⟩
def Cut (a b : State) : Prop := ∀ i, i < a.things.length → i < b.things.length → (nth K0 a.things i).thing.text = (nth K0 b.things i).thing.text → (nth K0 a.things i).thing.refs.length = (nth K0 b.things i).thing.refs.length →
  formM (nth K0 a.things i).thing = formM (nth K0 b.things i).thing → (nth K0 a.things i).thing.refs = (nth K0 b.things i).thing.refs
theorem Cut.refl (a : State) : Cut a a := fun _ _ _ _ _ _ => rfl
theorem zsn (a b : State) : a = b ↔ a.width = b.width ∧ a.now = b.now ∧ a.given = b.given ∧ a.births = b.births ∧ a.things = b.things ∧ a.pins = b.pins ∧ a.leases = b.leases := by
  constructor
  · rintro rfl; exact ⟨rfl, rfl, rfl, rfl, rfl, rfl, rfl⟩
  · rintro ⟨h1, h2, h3, h4, h5, h6, h7⟩
    obtain ⟨w, n, g, b', T, P, L⟩ := a; obtain ⟨w', n', g', b'', T', P', L'⟩ := b
    simp only at *
    subst h1; subst h2; subst h3; subst h4; subst h5; subst h6; subst h7; rfl
theorem zhe (a b : Pin) : ((Eng.seq a.name b.name) && ((Eng.seq a.sum b.sum) && true)) = decide (a = b) := by
  rw [ze2, ze2, Bool.and_true]
  by_cases h : a = b
  · subst h; simp
  · rw [decide_eq_false h]
    by_cases h1 : a.name = b.name
    · by_cases h2 : a.sum = b.sum
      · exact absurd (Pin.ext' h1 h2) h
      · simp [h2]
    · simp [h1]
theorem zgx (a b : Lease) : ((a.number == b.number) && ((Eng.seq a.sum b.sum) && ((a.till == b.till) && true))) = decide (a = b) := by
  rw [ze2, Bool.and_true]
  by_cases h : a = b
  · subst h; simp
  · rw [decide_eq_false h]
    by_cases h1 : a.number = b.number
    · by_cases h2 : a.sum = b.sum
      · by_cases h3 : a.till = b.till
        · exact absurd (Lease.ext' h1 h2 h3) h
        · simp [h3]
      · simp [h2]
    · simp [h1]
theorem zgs {a b : State} (hT : a.things = b.things) (h0 : a.width = b.width ∧ a.now = b.now ∧ a.given = b.given ∧ a.births = b.births) (hP : a.pins.length = b.pins.length) (hL : a.leases.length = b.leases.length) :
    (if (∀ j, 0 ≤ j → j < a.pins.length → nth P0 a.pins j = nth P0 b.pins j) then (if (∀ j, 0 ≤ j → j < a.leases.length → nth L0 a.leases j = nth L0 b.leases j) then some [Lf.b true] else some [.b false]) else some [.b false]) = some [.b (decide (a = b))] := by
  split
  · rename_i h1
    split
    · rename_i h2
      rw [decide_eq_true (p := a = b)]
      exact (zsn a b).2 ⟨h0.1, h0.2.1, h0.2.2.1, h0.2.2.2, hT, zc2 P0 hP h1, zc2 L0 hL h2⟩
    · rename_i h2
      rw [decide_eq_false (p := a = b)]
      rintro rfl; exact h2 fun _ _ _ => rfl
  · rename_i h1
    rw [decide_eq_false (p := a = b)]
    rintro rfl; exact h1 fun _ _ _ => rfl
theorem zue {a b : State} (ha : Small1 a) (hb : Small1 b) (hU : Cut a b) : Lqj none (encSt a ++ encSt b) = some [.b (decide (a = b))] := by
  have a1 := ha.nT; have a2 := ha.nP; have a3 := ha.nL; have b1 := hb.nT; have b2 := hb.nP; have b3 := hb.nL
  show Lqj none [.i a.width, .i a.now, .i a.given, .i a.births, .l (encK a.things), .l (encP a.pins), .l (encL a.leases), .i b.width, .i b.now, .i b.given, .i b.births, .l (encK b.things), .l (encP b.pins), .l (encL b.leases)] = _
  rw [eqj_i]
  have no : ∀ p : Prop, [Decidable p] → (a = b → p) → ¬ p → decide (a = b) = false := fun p _ h1 h2 => decide_eq_false fun h3 => h2 (h1 h3)
  by_cases h1 : a.width = b.width
  rotate_left; · rw [no _ (fun h => by rw [h]) h1]; simp (disch := omega) only [push_cast]
  by_cases h2 : a.now = b.now
  rotate_left; · rw [no _ (fun h => by rw [h]) h2]; simp (disch := omega) only [push_cast]
  by_cases h3 : a.given = b.given
  rotate_left; · rw [no _ (fun h => by rw [h]) h3]; simp (disch := omega) only [push_cast]
  by_cases h4 : a.births = b.births
  rotate_left; · rw [no _ (fun h => by rw [h]) h4]; simp (disch := omega) only [push_cast]
  by_cases h5 : a.things.length = b.things.length
  rotate_left; · rw [no _ (fun h => by rw [h]) h5]; simp (disch := omega) only [push_cast]
  by_cases h6 : a.pins.length = b.pins.length
  rotate_left; · rw [no _ (fun h => by rw [h]) h6]; simp (disch := omega) only [push_cast]
  by_cases h7 : a.leases.length = b.leases.length
  rotate_left; · rw [no _ (fun h => by rw [h]) h7]; simp (disch := omega) only [push_cast]
  simp (disch := omega) only [push_cast]
  have l3 := zu (f := fun i : Nat => Lqj (some 17) [.i (a.leases.length : Int), .i (i : Int), .i a.width, .i a.now, .i a.given, .i a.births, .l (encK a.things), .l (encP a.pins), .l (encL a.leases), .i b.width, .i b.now, .i b.given, .i b.births, .l (encK b.things), .l (encP b.pins), .l (encL b.leases)])
    (P := fun j => nth L0 a.leases j = nth L0 b.leases j) (n := a.leases.length) (T := some [.b true]) (F := some [.b false]) (fun i hi => by
      show (_ → Lqj _ _ = _) ∧ (_ → Lqj _ _ = _)
      rw [eqj_17]
      simp only [zb3, zhc, zh1, zh2, zgx]
      by_cases hc : nth L0 a.leases i = nth L0 b.leases i <;> simp (disch := omega) only [push_cast] <;> simp [hc]) (by show Lqj _ _ = _; rw [eqj_17]; simp (disch := omega) only [push_cast]) 0 (Nat.zero_le _)
  have l2 := zu (f := fun i : Nat => Lqj (some 11) [.i (a.pins.length : Int), .i (i : Int), .i a.width, .i a.now, .i a.given, .i a.births, .l (encK a.things), .l (encP a.pins), .l (encL a.leases), .i b.width, .i b.now, .i b.given, .i b.births, .l (encK b.things), .l (encP b.pins), .l (encL b.leases)])
    (P := fun j => nth P0 a.pins j = nth P0 b.pins j) (n := a.pins.length) (T := Lqj (some 17) [.i (a.leases.length : Int), .i 0, .i a.width, .i a.now, .i a.given, .i a.births, .l (encK a.things), .l (encP a.pins), .l (encL a.leases), .i b.width, .i b.now, .i b.given, .i b.births, .l (encK b.things), .l (encP b.pins), .l (encL b.leases)]) (F := some [.b false]) (fun i hi => by
      show (_ → Lqj _ _ = _) ∧ (_ → Lqj _ _ = _)
      rw [eqj_11]
      simp only [zb3, zgw, zia, zhe]
      by_cases hc : nth P0 a.pins i = nth P0 b.pins i <;> simp (disch := omega) only [push_cast] <;> simp [hc]) (by show Lqj _ _ = _; rw [eqj_11]; simp (disch := omega) only [push_cast]) 0 (Nat.zero_le _)
  have l1 := zu (f := fun i : Nat => Lqj (some 4) [.l (encK a.things), .i (a.things.length : Int), .i (i : Int), .i a.width, .i a.now, .i a.given, .i a.births, .l (encK a.things), .l (encP a.pins), .l (encL a.leases), .i b.width, .i b.now, .i b.given, .i b.births, .l (encK b.things), .l (encP b.pins), .l (encL b.leases)])
    (P := fun j => nth K0 a.things j = nth K0 b.things j) (n := a.things.length) (T := Lqj (some 11) [.i (a.pins.length : Int), .i 0, .i a.width, .i a.now, .i a.given, .i a.births, .l (encK a.things), .l (encP a.pins), .l (encL a.leases), .i b.width, .i b.now, .i b.given, .i b.births, .l (encK b.things), .l (encP b.pins), .l (encL b.leases)]) (F := some [.b false]) (fun i hi => by
      show (_ → Lqj _ _ = _) ∧ (_ → Lqj _ _ = _)
      rw [eqj_4]
      have hsa := ha.t _ (zi (d := K0) hi)
      have hsb := hb.t _ (zi (d := K0) (show i < b.things.length by omega))
      have hu := hU i hi (by omega)
      obtain ⟨x, hx⟩ : ∃ x, nth K0 a.things i = x := ⟨_, rfl⟩
      obtain ⟨y, hy⟩ : ∃ y, nth K0 b.things i = y := ⟨_, rfl⟩
      rw [hx] at hsa hu ⊢
      rw [hy] at hsb hu ⊢
      by_cases c1 : x.sum = y.sum
      · by_cases c2 : x.born = y.born
        · by_cases c3 : x.thing.text = y.thing.text
          · by_cases c4 : x.thing.refs.length = y.thing.refs.length
            · by_cases c5 : formM x.thing = formM y.thing
              · obtain rfl : x = y := Kept.ext' c1 c2 c3 (hu c3 c4 c5)
                simp (disch := omega) only [push_cast, hx, hy, zeu x.thing hsa.1 (by omega)]
                simp
              · have : ¬ x = y := fun h => c5 (by rw [h])
                simp (disch := omega) only [push_cast, hx, hy, zeu x.thing hsa.1 (by omega), zeu y.thing hsb.1 (by omega)]
                simp [this]
            · have : ¬ x = y := fun h => c4 (by rw [h])
              simp (disch := omega) only [push_cast, hx, hy]; simp [this]
          · have : ¬ x = y := fun h => c3 (by rw [h])
            simp (disch := omega) only [push_cast, hx, hy]; simp [this]
        · have : ¬ x = y := fun h => c2 (by rw [h])
          simp (disch := omega) only [push_cast, hx, hy]; simp [this]
      · have : ¬ x = y := fun h => c1 (by rw [h])
        simp (disch := omega) only [push_cast, hx, hy]; simp [this]) (by show Lqj _ _ = _; rw [eqj_4]; simp (disch := omega) only [push_cast]) 0 (Nat.zero_le _)
  refine l1.trans ?_
  split
  · rename_i hT
    have hTe : a.things = b.things := zc2 K0 h5 hT
    refine l2.trans ?_
    rw [show Lqj (some 17) [.i (a.leases.length : Int), .i 0, .i a.width, .i a.now, .i a.given, .i a.births, .l (encK a.things), .l (encP a.pins), .l (encL a.leases), .i b.width, .i b.now, .i b.given, .i b.births, .l (encK b.things), .l (encP b.pins), .l (encL b.leases)] = _ from l3]
    exact zgs hTe ⟨h1, h2, h3, h4⟩ h6 h7
  · rename_i hT
    rw [decide_eq_false (p := a = b)]
    rintro rfl; exact hT fun _ _ _ => rfl
end KV
end
section
namespace KV
open Go Go.Eng
open Classical
structure Round where
  phase : Int
  queue : List Bs
  marked : List Bs
  top : Int
  at_ : Int
  rounds : Int
def R0 : Round := ⟨0, [], [], 0, 0, 0⟩
def encR (r : Round) : Lv := [.i r.phase, .l (encS r.queue), .l (encS r.marked), .i r.top, .i r.at_, .i r.rounds]
structure RoundOk (w births : Int) (r : Round) : Prop where
  ph : 0 ≤ r.phase ∧ r.phase ≤ 2
  rds : 0 ≤ r.rounds ∧ r.rounds ≤ 1000000000
  nQ : r.queue.length ≤ 23200
  nM : r.marked.length ≤ 600
  szM : ∀ x ∈ r.marked, (x.size : Int) = w
  ndM : r.marked.Nodup
  szQ : ∀ x ∈ r.queue, (x.size : Int) = w
  rest : r.phase = 0 → r.queue = [] ∧ r.marked = [] ∧ r.top = 0 ∧ r.at_ = 0
  go : r.phase ≠ 0 → 0 ≤ r.top ∧ r.top ≤ births ∧ 1 ≤ r.at_ ∧ r.at_ ≤ r.top + 1 ∧ (r.phase = 1 → r.at_ = r.top + 1)
theorem zfe (n : Int) : Lqdu none [.i n] = some [.b (decide (0 ≤ n ∧ n ≤ 1000000000))] := by
  rw [eqdu_i]
  by_cases h : 0 ≤ n
  · simp (disch := omega) only [push_cast]; congr 3; exact decide_eq_decide.2 ⟨fun h1 => ⟨h, h1⟩, fun h1 => h1.2⟩
  · simp (disch := omega) only [push_cast]; rw [decide_eq_false (p := 0 ≤ n ∧ n ≤ 1000000000) fun h1 => h h1.1]
theorem zp (n a b : Int) : Lqx none [.i n, .i a, .i b] = some [.b (decide (a ≤ n ∧ n ≤ b))] := by
  rw [eqx_i]
  by_cases h : a ≤ n
  · simp (disch := omega) only [push_cast]; congr 3; exact decide_eq_decide.2 ⟨fun h1 => ⟨h, h1⟩, fun h1 => h1.2⟩
  · simp (disch := omega) only [push_cast]; rw [decide_eq_false (p := a ≤ n ∧ n ≤ b) fun h1 => h h1.1]
def setM (ks : List Bs) : List (C × C) := ks.map fun k => (.s k, .b true)
theorem ceq_s (x y : Bs) : ceq .s (.s x) (.s y) = decide (x = y) := by
  show (x.data == y.data) = _
  by_cases h : x = y
  · subst h; simp
  · rw [decide_eq_false h, beq_eq_false_iff_ne]
    intro e; apply h; cases x; cases y; exact congrArg _ e
theorem zjh (x : Bs) : ∀ ks : List Bs, mget .s (.s x) (setM ks) = if x ∈ ks then some (.b true) else none
  | [] => by simp [setM, mget]
  | k :: ks => by
    show cond (ceq .s (.s x) (.s k)) (some (.b true)) (mget .s (.s x) (setM ks)) = _
    rw [ceq_s, zjh x ks]
    by_cases h : x = k
    · subst h; simp
    · simp [h]
theorem zgn (x : Bs) : ∀ ks : List Bs, x ∉ ks → mput .s (.s x) (.b true) (setM ks) = setM (ks ++ [x])
  | [], _ => by simp [setM, mput]
  | k :: ks, h => by
    show cond (ceq .s (.s x) (.s k)) _ _ = _
    rw [ceq_s, decide_eq_false (fun e => h (by rw [e]; simp)), cond_false]
    show (C.s k, C.b true) :: mput .s (.s x) (.b true) (setM ks) = _
    rw [zgn x ks (fun e => h (by simp [e]))]; rfl
theorem inM (x : Bs) (ks : List Bs) : (((mget .s (.s x) (setM ks)).getD (.b false)).bool) = decide (x ∈ ks) := by
  rw [zjh]
  by_cases h : x ∈ ks
  · rw [if_pos h, decide_eq_true h]; rfl
  · rw [if_neg h, decide_eq_false h]; rfl
def mkP (w : Int) (m : List Bs) (j : Nat) : Prop := ((nth .empty m j).size : Int) = w ∧ nth .empty m j ∉ m.take j
theorem zf1 (w : Int) (m : List Bs) : (∀ j, 0 ≤ j → j < m.length → mkP w m j) ↔ (∀ x ∈ m, (x.size : Int) = w) ∧ m.Nodup := by
  have hnd : m.Nodup ↔ ∀ j, 0 ≤ j → j < m.length → nth .empty m j ∉ m.take j := by
    constructor
    · intro h j _ hj hm
      obtain ⟨i, h1, h2, h3⟩ := zmv .empty hm
      have := zfr (R := fun a b => a ≠ b) .empty h h1 hj
      exact this h3
    · intro h
      rw [List.Nodup, List.pairwise_iff_getElem]
      intro i j hi hj hij he
      apply h j (Nat.zero_le _) hj
      rw [zm _ _ _ hj, ← he]
      exact List.mem_take_iff_getElem.2 ⟨i, by omega, rfl⟩
  rw [hnd]
  constructor
  · intro h
    refine ⟨fun x hx => ?_, fun j h1 h2 => (h j h1 h2).2⟩
    obtain ⟨i, hi, rfl⟩ := z9 .empty hx
    exact (h i (Nat.zero_le _) hi).1
  · rintro ⟨h1, h2⟩ j h3 h4; exact ⟨h1 _ (zi h4), h2 j h3 h4⟩
theorem zft (w : Int) (m : List Bs) : (∀ j, 0 ≤ j → j < m.length → ((nth .empty m j).size : Int) = w) ↔ ∀ x ∈ m, (x.size : Int) = w := by
  constructor
  · intro h x hx
    obtain ⟨i, hi, rfl⟩ := z9 .empty hx
    exact h i (Nat.zero_le _) hi
  · intro h j _ hj; exact h _ (zi hj)
noncomputable def lastB (births : Int) (r : Round) : Bool := if r.phase = 0 then decide (r.queue = [] ∧ r.marked = [] ∧ r.top = 0 ∧ r.at_ = 0) else decide (0 ≤ r.top ∧ r.top ≤ births ∧ 1 ≤ r.at_ ∧ r.at_ ≤ r.top + 1 ∧ (r.phase = 1 → r.at_ = r.top + 1))
theorem zlz (w births : Int) (r : Round) : RoundOk w births r ↔ (0 ≤ r.phase ∧ r.phase ≤ 2) ∧ (0 ≤ r.rounds ∧ r.rounds ≤ 1000000000) ∧ r.queue.length ≤ 23200 ∧ r.marked.length ≤ 600 ∧ ((∀ x ∈ r.marked, (x.size : Int) = w) ∧ r.marked.Nodup) ∧ (∀ x ∈ r.queue, (x.size : Int) = w) ∧ lastB births r = true := by
  unfold lastB
  constructor
  · intro h
    refine ⟨h.ph, h.rds, h.nQ, h.nM, ⟨h.szM, h.ndM⟩, h.szQ, ?_⟩
    split
    · rename_i h0; exact decide_eq_true (h.rest h0)
    · rename_i h0; exact decide_eq_true (h.go h0)
  · rintro ⟨a, b, c, d, ⟨e1, e2⟩, f, h⟩
    refine ⟨a, b, c, d, e1, e2, f, fun h0 => ?_, fun h0 => ?_⟩
    · rw [if_pos h0] at h; exact of_decide_eq_true h
    · rw [if_neg h0] at h; exact of_decide_eq_true h
theorem zk3 (s : State) (r : Round) (hb : 0 ≤ s.births ∧ s.births ≤ 1000000000) : Lqs none (encR r ++ encSt s) = some [.b (decide (RoundOk s.width s.births r))] := by
  show Lqs none [.i r.phase, .l (encS r.queue), .l (encS r.marked), .i r.top, .i r.at_, .i r.rounds, .i s.width, .i s.now, .i s.given, .i s.births, .l (encK s.things), .l (encP s.pins), .l (encL s.leases)] = _
  rw [eqs_i]
  have hri := zlz s.width s.births r
  have no : ∀ p : Prop, (RoundOk s.width s.births r → p) → ¬ p → decide (RoundOk s.width s.births r) = false := fun p h1 h2 => decide_eq_false fun h3 => h2 (h1 h3)
  by_cases h1 : 0 ≤ r.phase
  rotate_left; · rw [no _ (fun h => h.ph.1) h1]; simp (disch := omega) only [push_cast]
  by_cases h2 : r.phase ≤ 2
  rotate_left; · rw [no _ (fun h => h.ph.2) h2]; simp (disch := omega) only [push_cast]
  by_cases h3 : 0 ≤ r.rounds ∧ r.rounds ≤ 1000000000
  rotate_left; · rw [no _ (fun h => h.rds) h3]; simp (disch := omega) only [push_cast, zfe]
  by_cases h4 : r.queue.length ≤ 23200
  rotate_left; · rw [no _ (fun h => h.nQ) h4]; simp (disch := omega) only [push_cast, zfe]
  by_cases h5 : r.marked.length ≤ 600
  rotate_left; · rw [no _ (fun h => h.nM) h5]; simp (disch := omega) only [push_cast, zfe]
  simp (disch := omega) only [push_cast, zfe]
  have l2 := zu (f := fun i : Nat => Lqs (some 12) [.l (encS r.queue), .i (r.queue.length : Int), .i (i : Int), .i s.width, .i s.now, .i s.given, .i s.births, .l (encK s.things), .l (encP s.pins), .l (encL s.leases), .i r.phase, .l (encS r.queue), .l (encS r.marked), .i r.top, .i r.at_, .i r.rounds])
    (P := fun j => ((nth .empty r.queue j).size : Int) = s.width) (n := r.queue.length) (T := some [.b (lastB s.births r)]) (F := some [.b false]) (fun i hi => by
      show (_ → Lqs _ _ = _) ∧ (_ → Lqs _ _ = _)
      rw [eqs_12]
      by_cases hc : ((nth .empty r.queue i).size : Int) = s.width <;> simp (disch := omega) only [push_cast] <;> simp [hc]) (by
      show Lqs _ _ = _
      rw [eqs_12]
      unfold lastB
      by_cases c0 : r.phase = 0
      · rw [if_pos c0]
        by_cases c1 : r.queue.length + r.marked.length = 0
        · have q0 : r.queue = [] := List.eq_nil_of_length_eq_zero (by omega)
          have m0 : r.marked = [] := List.eq_nil_of_length_eq_zero (by omega)
          rw [q0, m0]
          by_cases c2 : r.top = 0
          · simp (disch := omega) only [push_cast]; simp [c2]
          · simp (disch := omega) only [push_cast]; simp [c2]
        · have : ¬ (r.queue = [] ∧ r.marked = [] ∧ r.top = 0 ∧ r.at_ = 0) := by rintro ⟨h, h', _⟩; exact c1 (by rw [h, h']; rfl)
          simp (disch := omega) only [push_cast]; rw [decide_eq_false this]
      · rw [if_neg c0]
        by_cases c1 : 0 ≤ r.top
        · by_cases c2 : r.top ≤ s.births
          · by_cases c3 : 1 ≤ r.at_
            · by_cases c4 : r.at_ ≤ r.top + 1
              · by_cases c5 : r.phase = 1
                · simp (disch := omega) only [push_cast]; congr 3; exact decide_eq_decide.2 ⟨fun h => ⟨c1, c2, c3, c4, fun _ => h⟩, fun h => h.2.2.2.2 c5⟩
                · simp (disch := omega) only [push_cast]; rw [decide_eq_true (p := 0 ≤ r.top ∧ r.top ≤ s.births ∧ 1 ≤ r.at_ ∧ r.at_ ≤ r.top + 1 ∧ (r.phase = 1 → r.at_ = r.top + 1)) ⟨c1, c2, c3, c4, fun h => absurd h c5⟩]
              · simp (disch := omega) only [push_cast]; rw [decide_eq_false fun h => c4 h.2.2.2.1]
            · simp (disch := omega) only [push_cast]; rw [decide_eq_false fun h => c3 h.2.2.1]
          · simp (disch := omega) only [push_cast]; rw [decide_eq_false fun h => c2 h.2.1]
        · simp (disch := omega) only [push_cast]; rw [decide_eq_false fun h => c1 h.1]) 0 (Nat.zero_le _)
  have l1 := zu (f := fun i : Nat => Lqs (some 5) [.l (encS r.marked), .i (r.marked.length : Int), .i (i : Int), .i s.width, .i s.now, .i s.given, .i s.births, .l (encK s.things), .l (encP s.pins), .l (encL s.leases), .i r.phase, .l (encS r.queue), .l (encS r.marked), .i r.top, .i r.at_, .i r.rounds, .m (setM (r.marked.take i))])
    (P := mkP s.width r.marked) (n := r.marked.length) (T := Lqs (some 12) [.l (encS r.queue), .i (r.queue.length : Int), .i 0, .i s.width, .i s.now, .i s.given, .i s.births, .l (encK s.things), .l (encP s.pins), .l (encL s.leases), .i r.phase, .l (encS r.queue), .l (encS r.marked), .i r.top, .i r.at_, .i r.rounds]) (F := some [.b false]) (fun i hi => by
      show (_ → Lqs _ _ = _) ∧ (_ → Lqs _ _ = _)
      rw [eqs_5]
      unfold mkP
      by_cases hc : ((nth .empty r.marked i).size : Int) = s.width
      · by_cases hm : nth .empty r.marked i ∈ r.marked.take i
        · simp (disch := omega) only [push_cast, inM, decide_eq_true hm]; simp [hm]
        · simp (disch := omega) only [push_cast, inM, decide_eq_false hm]; rw [zgn _ _ hm, ← zbb .empty hi]; simp [hm, hc]
      · simp (disch := omega) only [push_cast]; simp [hc]) (by show Lqs _ _ = _; rw [eqs_5]; simp (disch := omega) only [push_cast]) 0 (Nat.zero_le _)
  refine l1.trans ?_
  rw [show Lqs (some 12) [.l (encS r.queue), .i (r.queue.length : Int), .i 0, .i s.width, .i s.now, .i s.given, .i s.births, .l (encK s.things), .l (encP s.pins), .l (encL s.leases), .i r.phase, .l (encS r.queue), .l (encS r.marked), .i r.top, .i r.at_, .i r.rounds] = _ from l2]
  split
  · rename_i hM
    rw [zf1] at hM
    split
    · rename_i hQ
      rw [zft] at hQ
      cases hl : lastB s.births r
      · rw [no _ (fun h => ((hri.1 h).2.2.2.2.2.2)) (by rw [hl]; simp)]
      · rw [decide_eq_true (hri.2 ⟨⟨h1, h2⟩, h3, h4, h5, hM, hQ, hl⟩)]
    · rename_i hQ
      rw [zft] at hQ
      rw [no _ (fun h => h.szQ) hQ]
  · rename_i hM
    rw [zf1] at hM
    rw [no _ (fun h => ⟨h.szM, h.ndM⟩) hM]
end KV
end
section
namespace KV
open Go Go.Eng
open Classical
theorem zn4 (w now g b : Int) (T : List Kept) (P L : Rw) (hT : T.length ≤ 1099511627775) (hr : ∀ k ∈ T, k.thing.refs.length ≤ 1099511627776) (hP : P.length ≤ 1099511627776) (hL : L.length ≤ 1099511627776) :
    Lqca none [.i w, .i now, .i g, .i b, .l (encK T), .l P, .l L] = some [.i w, .i now, .i g, .i b, .l (encK T), .l P, .l L] := by
  rw [eqca_i, zcu]
  have := z6 (f := fun (i : Nat) (a : List Kept) => Lqca (some 4) [.l (encK T), .i (T.length : Int), .i (i : Int), .i w, .i now, .i g, .i b, .l P, .l L, .i 0, .i 0, .i 0, .i 0, .l (encK a), .l [], .l [], .l []]) (n := T.length) (T := some [.i w, .i now, .i g, .i b, .l (encK T), .l P, .l L])
    (I := fun i a => a = T.take i) (fun i a hi hI => ⟨a ++ [nth K0 T i], by
      show Lqca _ _ = Lqca _ _
      have hk := hr _ (zi (d := K0) hi)
      have hl : a.length ≤ i := by rw [hI]; simp; omega
      rw [eqca_4, mostE, ← zbc]
      simp (disch := omega) only [push_cast, zcc (encS (nth K0 T i).thing.refs) (by rw [z4]; omega)] <;> rfl, by show a ++ [nth K0 T i] = _; rw [zbb K0 hi, hI]⟩) (fun a hI => by
      show Lqca _ _ = _
      rw [eqca_4, mostE]
      simp (disch := omega) only [push_cast]
      rw [hI, List.take_length]) 0 [] (Nat.zero_le _) rfl
  exact this
def encRo (r : Round) : Lv := [.i r.phase, .i r.top, .i r.at_, .i r.rounds, .l (encS r.queue), .l (encS r.marked)]
theorem zib (r : Round) (h1 : r.queue.length ≤ 1099511627776) (h2 : r.marked.length ≤ 1099511627776) : Lqcb none (encR r) = some (encRo r) := by
  unfold encR encRo
  rw [eqcb_i, zcc _ (by rw [z4]; exact h1), zcc _ (by rw [z4]; exact h2)]; simp (disch := omega) only [push_cast]
structure Vault where
  width : Int
  limit : Int
  safe : List Bs
  loose : List Bs
  st : State
  rd : Round
def V0 : Vault := ⟨0, 0, [], [], ⟨0, 0, 0, 0, [], [], []⟩, R0⟩
def encV (v : Vault) : Lv := [.i v.width, .i v.limit, .l (encS v.safe), .l (encS v.loose), .i v.st.width, .i v.st.now, .i v.st.given, .i v.st.births, .l (encK v.st.things), .l (encP v.st.pins), .l (encL v.st.leases), .i v.rd.phase, .l (encS v.rd.queue), .l (encS v.rd.marked), .i v.rd.top, .i v.rd.at_, .i v.rd.rounds]
def vI (v : Vault) : Lv := [.i v.width, .i v.limit, .i v.st.width, .i v.st.now, .i v.st.given, .i v.st.births, .i v.rd.phase, .i v.rd.top, .i v.rd.at_, .i v.rd.rounds]
def vL (v : Vault) : Lv := [.l (encS v.safe), .l (encS v.loose), .l (encK v.st.things), .l (encP v.st.pins), .l (encL v.st.leases), .l (encS v.rd.queue), .l (encS v.rd.marked)]
structure SmallV (v : Vault) : Prop where
  a : Small v.safe
  b : Small v.loose
  ab : v.safe.length + v.loose.length ≤ 1099511627776
  st : Small1 v.st
  nT : v.st.things.length ≤ 1099511627775
  q : v.rd.queue.length ≤ 1099511627776
  m : v.rd.marked.length ≤ 1099511627776
theorem zjl {v : Vault} (h : SmallV v) : Lqcj none (encV v) = some (vI v ++ vL v) := by
  unfold encV
  rw [eqcj_i, zmo _ _ h.a h.b]
  have h1 := zib v.rd h.q h.m
  unfold encR encRo at h1
  simp (disch := omega) only [push_cast, zn4 v.st.width v.st.now v.st.given v.st.births v.st.things (encP v.st.pins) (encL v.st.leases) h.nT (fun k hk => (h.st.t k hk).2) (by rw [zbx]; exact h.st.nP) (by rw [zb2]; exact h.st.nL), h1]
  rfl
structure VV (v : Vault) : Prop where
  wd : zj v.width = true
  lim : 0 ≤ v.limit ∧ v.limit ≤ 1000000
  log : LogOk v.safe v.loose
  run : runL v.width (empty v.width) (v.safe ++ v.loose) 0 = .inl v.st
  rd : RoundOk v.st.width v.st.births v.rd
theorem VV.vs {v : Vault} (h : VV v) : VS v.st ∧ v.st.width = v.width := zcq _ _ _ _ (zcj (zz.1 h.wd)) rfl h.run
theorem VV.small {v : Vault} (h : VV v) : SmallV v := by
  have hn := h.log.n; have hq := h.rd.nQ; have hm := h.rd.nM; have hT := h.vs.1.nT
  refine ⟨⟨by omega, fun x hx => by have := h.log.sa x hx; omega⟩, ⟨by omega, fun x hx => by have := h.log.sb x hx; omega⟩, by omega, h.vs.1.small, by omega, by omega, by omega⟩
def CutV (v : Vault) : Prop := ∀ s, runL v.width (empty v.width) (v.safe ++ v.loose) 0 = .inl s → Cut s v.st
theorem VV.cut {v : Vault} (h : VV v) : CutV v := fun s hs => by rw [h.run] at hs; cases hs; exact Cut.refl _
def encO : Vault ⊕ Int → Lv
  | .inl v => [.i v.width, .i v.limit, .i v.st.width, .i v.st.now, .i v.st.given, .i v.st.births, .i 0, .l [], .l [], .i 0, .i 0, .i 0, .i 0, .l (encS v.safe), .l (encS v.loose), .l (encK v.st.things), .l (encP v.st.pins), .l (encL v.st.leases)]
  | .inr c => [.i 0, .i 0, .i 0, .i 0, .i 0, .i 0, .i 0, .l [], .l [], .i 0, .i 0, .i 0, .i c, .l [], .l [], .l [], .l [], .l []]
noncomputable def openM (w lim : Int) (a b : List Bs) : Vault ⊕ Int :=
  if zj w = true ∧ (0 ≤ lim ∧ lim ≤ 1000000) ∧ LogOk a b then (match runL w (empty w) (a ++ b) 0 with
    | .inl s => .inl ⟨w, lim, a, b, s, R0⟩
    | .inr _ => .inr 2)
  else .inr 1
theorem Small.app {a b : List Bs} (ha : Small a) (hb : Small b) (hn : a.length + b.length ≤ 1099511627776) : Small (a ++ b) :=
  ⟨by rw [List.length_append]; exact hn, fun x hx => by rcases List.mem_append.1 hx with h | h; exact ha.2 x h; exact hb.2 x h⟩
theorem znz (w lim : Int) (a b : List Bs) (ha : Small a) (hb : Small b) (hn : a.length + b.length ≤ 1099511627776) : Lqdt none [.i w, .i lim, .l (encS a), .l (encS b)] = some (encO (openM w lim a b)) := by
  rw [eqdt_i, zd8, zqo _ _ ha hb, zuh _ _ ha hb hn]
  unfold openM
  cases hw : zj w
  · simp (disch := omega) only [push_cast]
    rw [if_neg fun h => by cases h.1]; rfl
  by_cases h1 : 0 ≤ lim
  rotate_left; · simp (disch := omega) only [push_cast]; rw [if_neg fun h => h1 h.2.1.1]; rfl
  by_cases h2 : lim ≤ 1000000
  rotate_left; · simp (disch := omega) only [push_cast]; rw [if_neg fun h => h2 h.2.1.2]; rfl
  by_cases h3 : LogOk a b
  rotate_left; · simp (disch := omega) only [push_cast, decide_eq_false h3]; rw [if_neg fun h => h3 h.2.2]; rfl
  simp (disch := omega) only [push_cast, decide_eq_true h3, zp7 w _ (ha.app hb hn) (zz.1 hw), zmo _ _ ha hb]
  rw [if_pos ⟨trivial, ⟨h1, h2⟩, h3⟩]
  cases hr : runL w (empty w) (a ++ b) 0 with
  | inl s => simp only [zgg]; simp (disch := omega) only [push_cast]; rfl
  | inr n =>
    have := (zjf _ _ _ _ hr).1
    simp only [zgg]; simp (disch := omega) only [push_cast]; rfl
theorem zf0 {v : Vault} (h : SmallV v) (hc : CutV v) : Lqbs none (encV v) = some [.b (decide (VV v))] := by
  unfold encV
  rw [eqbs_i, znz _ _ _ _ h.a h.b h.ab]
  unfold openM
  by_cases hg : zj v.width = true ∧ (0 ≤ v.limit ∧ v.limit ≤ 1000000) ∧ LogOk v.safe v.loose
  · rw [if_pos hg]
    cases hr : runL v.width (empty v.width) (v.safe ++ v.loose) 0 with
    | inl s =>
      have V := zcq _ _ _ _ (zcj (zz.1 hg.1)) rfl hr
      have hs := zue V.1.small h.st (hc s hr)
      have hs' : Lqj none [.i s.width, .i s.now, .i s.given, .i s.births, .l (encK s.things), .l (encP s.pins), .l (encL s.leases), .i v.st.width, .i v.st.now, .i v.st.given, .i v.st.births, .l (encK v.st.things), .l (encP v.st.pins), .l (encL v.st.leases)] = _ := hs
      simp only [encO]
      simp (disch := omega) only [push_cast, hs']
      by_cases he : s = v.st
      · rw [decide_eq_true he]
        subst he
        have hro := zk3 v.st v.rd V.1.births
        have hro' : Lqs none [.i v.rd.phase, .l (encS v.rd.queue), .l (encS v.rd.marked), .i v.rd.top, .i v.rd.at_, .i v.rd.rounds, .i v.st.width, .i v.st.now, .i v.st.given, .i v.st.births, .l (encK v.st.things), .l (encP v.st.pins), .l (encL v.st.leases)] = _ := hro
        simp (disch := omega) only [push_cast, hro']
        congr 3
        exact decide_eq_decide.2 ⟨fun h1 => ⟨hg.1, hg.2.1, hg.2.2, hr, h1⟩, fun h1 => h1.rd⟩
      · rw [decide_eq_false he, decide_eq_false (p := VV v) fun h1 => he (by have := h1.run; rw [hr] at this; cases this; rfl)]; rfl
    | inr n =>
      simp only [encO]
      simp (disch := omega) only [push_cast]
      rw [decide_eq_false (p := VV v) fun h1 => by have := h1.run; rw [hr] at this; cases this]
  · rw [if_neg hg]
    simp only [encO]
    simp (disch := omega) only [push_cast]
    rw [decide_eq_false (p := VV v) fun h1 => hg ⟨h1.wd, h1.lim, h1.log⟩]
def roomM (s : State) : Nat := (s.things.map fun k => (formM k.thing).size).sum
theorem zne {l : List Nat} : ∀ {i : Nat}, (l.take i).sum ≤ l.sum := fun {i} => by
  conv => rhs; rw [← List.take_append_drop i l, List.sum_append]
  omega
theorem zow {s : State} (h : Small1 s) (hr : roomM s ≤ 1099511627776) : Lqcc none (encSt s) = some [.i (roomM s : Int)] := by
  unfold encSt
  have hn := h.nT
  rw [eqcc_i, zcu]
  have := z6 (f := fun (i : Nat) (a : Nat) => Lqcc (some 3) [.i (a : Int), .l (encK s.things), .i (s.things.length : Int), .i (i : Int)]) (n := s.things.length) (T := some [.i (roomM s : Int)])
    (I := fun i a => a = ((s.things.map fun k => (formM k.thing).size).take i).sum) (fun i a hi hI => ⟨a + (formM (nth K0 s.things i).thing).size, by
      show Lqcc _ _ = Lqcc _ _
      have hk := h.t _ (zi (d := K0) hi)
      have ha : a ≤ roomM s := by rw [hI]; exact zne
      have hf := zbl (nth K0 s.things i).thing
      rw [eqcc_3]
      simp (disch := omega) only [push_cast, zeu (nth K0 s.things i).thing hk.1 (by omega)], by
      show a + (formM (nth K0 s.things i).thing).size = _
      rw [hI, ← List.map_take, ← List.map_take, zbb K0 hi, List.map_append, List.sum_append]; simp⟩) (fun a hI => by
      show Lqcc _ _ = _
      rw [eqcc_3]
      simp (disch := omega) only [push_cast]
      rw [hI, List.take_of_length_le (by simp)]; rfl) 0 0 (Nat.zero_le _) rfl
  exact this
theorem zkp {s : State} (V : VS s) : roomM s ≤ 1344600 := by
  have : ∀ T : List Kept, (∀ k ∈ T, ThingOk k.thing s.width) → (T.map fun k => (formM k.thing).size).sum ≤ 2241 * T.length := by
    intro T
    induction T with
    | nil => intro _; simp
    | cons a T ih =>
      intro h
      have h1 := zbj (h a (by simp)); have h2 := zbl a.thing; have h3 := ih fun k hk => h k (by simp [hk])
      simp only [List.map_cons, List.sum_cons, List.length_cons]; omega
  have h1 := this s.things fun k hk => (V.okT k hk).1
  have h2 := V.nT
  unfold roomM; omega
noncomputable def z8 (s : State) (r : Round) (x : Bs) : Round := if hasT s.things x ∧ r.phase ≠ 0 ∧ x ∉ r.marked ∧ r.queue.length < 23200 then { r with queue := r.queue ++ [x] } else r
theorem zbw (l : List Bs) (x : Bs) (h : l.length ≤ 4611686018427387904) : Lqbl none [.l (encS l), .s x] = some [.b (decide (x ∈ l))] := by
  rw [eqbl_i, z4]
  have := zbu (f := fun i : Nat => Lqbl (some 2) [.s x, .l (encS l), .i (l.length : Int), .i (i : Int)]) .empty (l := l) (p := fun r => x = r) (T := some [.b true]) (E := some [.b false]) (fun i hi => by
    show Lqbl _ _ = cond _ _ (Lqbl _ _)
    rw [eqbl_2]; simp (disch := omega) only [push_cast]) (by show Lqbl _ _ = _; rw [eqbl_2]; simp (disch := omega) only [push_cast])
  refine this.trans ?_
  by_cases h : ∃ r ∈ l, x = r
  · rw [if_pos h, decide_eq_true (p := x ∈ l) (by obtain ⟨r, hr, rfl⟩ := h; exact hr)]
  · rw [if_neg h, decide_eq_false (p := x ∈ l) (fun h3 => h ⟨x, h3, rfl⟩)]
theorem znx {s : State} (hs : SrtK s.things) (hn : s.things.length ≤ 1000000) (r : Round) (x : Bs) (h1 : r.queue.length ≤ 1099511627775) (h2 : r.marked.length ≤ 1099511627776) : Lqc3 none (encR r ++ .s x :: encSt s) = some (encRo (z8 s r x)) := by
  show Lqc3 none [.i r.phase, .l (encS r.queue), .l (encS r.marked), .i r.top, .i r.at_, .i r.rounds, .s x, .i s.width, .i s.now, .i s.given, .i s.births, .l (encK s.things), .l (encP s.pins), .l (encL s.leases)] = _
  have hcr := zib r (by omega) h2
  have hcr' : Lqcb none [.i r.phase, .l (encS r.queue), .l (encS r.marked), .i r.top, .i r.at_, .i r.rounds] = some [.i r.phase, .i r.top, .i r.at_, .i r.rounds, .l (encS r.queue), .l (encS r.marked)] := hcr
  rw [eqc3_i, mostE]
  unfold z8
  simp (disch := omega) only [push_cast, hcr', zbp _ _ _ _ s.things _ _ x hs hn]
  by_cases c1 : hasT s.things x
  rotate_left; · rw [decide_eq_false c1, if_neg fun h => c1 h.1]; rfl
  by_cases c2 : r.phase = 0
  · rw [decide_eq_true c1, if_neg fun h => h.2.1 c2]; simp (disch := omega) only [push_cast]; rfl
  by_cases c3 : x ∈ r.marked
  · rw [decide_eq_true c1, if_neg fun h => h.2.2.1 c3]; simp (disch := omega) only [push_cast, zbw r.marked x (by omega), decide_eq_true c3]; rfl
  by_cases c4 : r.queue.length < 23200
  · rw [decide_eq_true c1, if_pos ⟨c1, c2, c3, c4⟩]; simp (disch := omega) only [push_cast, zbw r.marked x (by omega), decide_eq_false c3]
    rw [z7, zn]; rfl
  · rw [decide_eq_true c1, if_neg fun h => c4 h.2.2.2]; simp (disch := omega) only [push_cast, zbw r.marked x (by omega), decide_eq_false c3]; rfl
theorem ztp {w b : Int} {s : State} {r : Round} {x : Bs} (h : RoundOk w b r) (hx : (x.size : Int) = w) : RoundOk w b (z8 s r x) := by
  unfold z8
  split
  · rename_i hc
    refine ⟨h.ph, h.rds, ?_, h.nM, h.szM, h.ndM, ?_, fun h0 => absurd h0 hc.2.1, h.go⟩
    · show (r.queue ++ [x]).length ≤ 23200; rw [List.length_append]; simp; omega
    · intro y hy
      rcases List.mem_append.1 hy with h1 | h1
      · exact h.szQ y h1
      · rw [List.mem_singleton] at h1; rw [h1]; exact hx
  · exact h
theorem RoundOk.mono {w b b' : Int} {r : Round} (h : RoundOk w b r) (hb : b ≤ b') : RoundOk w b' r :=
  ⟨h.ph, h.rds, h.nQ, h.nM, h.szM, h.ndM, h.szQ, h.rest, fun h0 => by obtain ⟨a, b, c⟩ := h.go h0; exact ⟨a, by omega, c⟩⟩
end KV
end
section
namespace KV
open Go Go.Eng
open Classical
theorem zev (a b : List Bs) (ha : a.length ≤ 1099511627776) (hb : b.length ≤ 1099511627776) : Lqbd none [.l (encS a), .l (encS b)] = some [.b (decide (a = b))] := by
  rw [eqbd_i]
  by_cases h : a.length = b.length
  · have l1 := zu (f := fun i : Nat => Lqbd (some 4) [.l (encS a), .l (encS b), .i (i : Int)]) (P := fun j => nth .empty a j = nth .empty b j) (n := a.length) (T := some [.b true]) (F := some [.b false]) (fun i hi => by
      show (_ → Lqbd _ _ = _) ∧ (_ → Lqbd _ _ = _)
      rw [eqbd_4]
      by_cases hc : nth .empty a i = nth .empty b i <;> simp (disch := omega) only [push_cast] <;> simp [hc]) (by show Lqbd _ _ = _; rw [eqbd_4]; simp (disch := omega) only [push_cast]) 0 (Nat.zero_le _)
    simp (disch := omega) only [push_cast]
    refine l1.trans ?_
    split
    · rename_i hh; rw [decide_eq_true (p := a = b) (zc2 .empty h hh)]
    · rename_i hh; rw [decide_eq_false (p := a = b)]; rintro rfl; exact hh fun _ _ _ => rfl
  · have : ¬ a = b := fun e => h (by rw [e])
    simp (disch := omega) only [push_cast]; rw [decide_eq_false this]
theorem ziq (a b : Thing) (ha : a.refs.length ≤ 1099511627776) (hb : b.refs.length ≤ 1099511627776) : Lqct none [.s a.text, .l (encS a.refs), .s b.text, .l (encS b.refs)] = some [.b (decide (a = b))] := by
  obtain ⟨x, r⟩ := a; obtain ⟨y, t⟩ := b
  simp only at ha hb ⊢
  rw [eqct_i]
  by_cases h : x = y
  · simp (disch := omega) only [push_cast, zev r t ha hb]
    congr 3
    exact decide_eq_decide.2 ⟨fun e => by rw [h, e], fun e => by cases e; rfl⟩
  · simp (disch := omega) only [push_cast]; rw [decide_eq_false (p := (⟨x, r⟩ : Thing) = ⟨y, t⟩)]; intro e; cases e; exact h rfl
theorem zq7 {a b : State} (ha : Small1 a) (hb : Small1 b) : Lqm none (encSt a ++ encSt b) = some [.b (decide (a = b))] := by
  have a1 := ha.nT; have a2 := ha.nP; have a3 := ha.nL; have b1 := hb.nT; have b2 := hb.nP; have b3 := hb.nL
  show Lqm none [.i a.width, .i a.now, .i a.given, .i a.births, .l (encK a.things), .l (encP a.pins), .l (encL a.leases), .i b.width, .i b.now, .i b.given, .i b.births, .l (encK b.things), .l (encP b.pins), .l (encL b.leases)] = _
  rw [eqm_i]
  have no : ∀ p : Prop, [Decidable p] → (a = b → p) → ¬ p → decide (a = b) = false := fun p _ h1 h2 => decide_eq_false fun h3 => h2 (h1 h3)
  by_cases h1 : a.width = b.width
  rotate_left; · rw [no _ (fun h => by rw [h]) h1]; simp (disch := omega) only [push_cast]
  by_cases h2 : a.now = b.now
  rotate_left; · rw [no _ (fun h => by rw [h]) h2]; simp (disch := omega) only [push_cast]
  by_cases h3 : a.given = b.given
  rotate_left; · rw [no _ (fun h => by rw [h]) h3]; simp (disch := omega) only [push_cast]
  by_cases h4 : a.births = b.births
  rotate_left; · rw [no _ (fun h => by rw [h]) h4]; simp (disch := omega) only [push_cast]
  by_cases h5 : a.things.length = b.things.length
  rotate_left; · rw [no _ (fun h => by rw [h]) h5]; simp (disch := omega) only [push_cast]
  by_cases h6 : a.pins.length = b.pins.length
  rotate_left; · rw [no _ (fun h => by rw [h]) h6]; simp (disch := omega) only [push_cast]
  by_cases h7 : a.leases.length = b.leases.length
  rotate_left; · rw [no _ (fun h => by rw [h]) h7]; simp (disch := omega) only [push_cast]
  simp (disch := omega) only [push_cast]
  have l3 := zu (f := fun i : Nat => Lqm (some 14) [.i (i : Int), .i a.width, .i a.now, .i a.given, .i a.births, .l (encK a.things), .l (encP a.pins), .l (encL a.leases), .i b.width, .i b.now, .i b.given, .i b.births, .l (encK b.things), .l (encP b.pins), .l (encL b.leases)])
    (P := fun j => nth L0 a.leases j = nth L0 b.leases j) (n := a.leases.length) (T := some [.b true]) (F := some [.b false]) (fun i hi => by
      show (_ → Lqm _ _ = _) ∧ (_ → Lqm _ _ = _)
      rw [eqm_14]
      simp only [zb3, zhc, zh1, zh2, zgx]
      by_cases hc : nth L0 a.leases i = nth L0 b.leases i <;> simp (disch := omega) only [push_cast] <;> simp [hc]) (by show Lqm _ _ = _; rw [eqm_14]; simp (disch := omega) only [push_cast]) 0 (Nat.zero_le _)
  have l2 := zu (f := fun i : Nat => Lqm (some 9) [.i (i : Int), .i a.width, .i a.now, .i a.given, .i a.births, .l (encK a.things), .l (encP a.pins), .l (encL a.leases), .i b.width, .i b.now, .i b.given, .i b.births, .l (encK b.things), .l (encP b.pins), .l (encL b.leases)])
    (P := fun j => nth P0 a.pins j = nth P0 b.pins j) (n := a.pins.length) (T := Lqm (some 14) [.i 0, .i a.width, .i a.now, .i a.given, .i a.births, .l (encK a.things), .l (encP a.pins), .l (encL a.leases), .i b.width, .i b.now, .i b.given, .i b.births, .l (encK b.things), .l (encP b.pins), .l (encL b.leases)]) (F := some [.b false]) (fun i hi => by
      show (_ → Lqm _ _ = _) ∧ (_ → Lqm _ _ = _)
      rw [eqm_9]
      simp only [zb3, zgw, zia, zhe]
      by_cases hc : nth P0 a.pins i = nth P0 b.pins i <;> simp (disch := omega) only [push_cast] <;> simp [hc]) (by show Lqm _ _ = _; rw [eqm_9]; simp (disch := omega) only [push_cast]) 0 (Nat.zero_le _)
  have l1 := zu (f := fun i : Nat => Lqm (some 4) [.i (i : Int), .i a.width, .i a.now, .i a.given, .i a.births, .l (encK a.things), .l (encP a.pins), .l (encL a.leases), .i b.width, .i b.now, .i b.given, .i b.births, .l (encK b.things), .l (encP b.pins), .l (encL b.leases)])
    (P := fun j => nth K0 a.things j = nth K0 b.things j) (n := a.things.length) (T := Lqm (some 9) [.i 0, .i a.width, .i a.now, .i a.given, .i a.births, .l (encK a.things), .l (encP a.pins), .l (encL a.leases), .i b.width, .i b.now, .i b.given, .i b.births, .l (encK b.things), .l (encP b.pins), .l (encL b.leases)]) (F := some [.b false]) (fun i hi => by
      show (_ → Lqm _ _ = _) ∧ (_ → Lqm _ _ = _)
      rw [eqm_4]
      have hsa := ha.t _ (zi (d := K0) hi)
      have hsb := hb.t _ (zi (d := K0) (show i < b.things.length by omega))
      obtain ⟨x, hx⟩ : ∃ x, nth K0 a.things i = x := ⟨_, rfl⟩
      obtain ⟨y, hy⟩ : ∃ y, nth K0 b.things i = y := ⟨_, rfl⟩
      rw [hx] at hsa ⊢
      rw [hy] at hsb ⊢
      by_cases c1 : x.sum = y.sum
      · by_cases c2 : x.born = y.born
        · by_cases c3 : x.thing = y.thing
          · obtain rfl : x = y := by obtain ⟨s, n, t⟩ := x; obtain ⟨s', n', t'⟩ := y; simp only at c1 c2 c3; rw [c1, c2, c3]
            simp (disch := omega) only [push_cast, hx, hy, ziq x.thing x.thing hsa.2 hsa.2, decide_eq_true (show x.thing = x.thing from rfl)]
            simp
          · have : ¬ x = y := fun h => c3 (by rw [h])
            simp (disch := omega) only [push_cast, hx, hy, ziq x.thing y.thing hsa.2 hsb.2, decide_eq_false c3]
            simp [this]
        · have : ¬ x = y := fun h => c2 (by rw [h])
          simp (disch := omega) only [push_cast, hx, hy]; simp [this]
      · have : ¬ x = y := fun h => c1 (by rw [h])
        simp (disch := omega) only [push_cast, hx, hy]; simp [this]) (by show Lqm _ _ = _; rw [eqm_4]; simp (disch := omega) only [push_cast]) 0 (Nat.zero_le _)
  refine l1.trans ?_
  split
  · rename_i hT
    have hTe : a.things = b.things := zc2 K0 h5 hT
    refine l2.trans ?_
    rw [show Lqm (some 14) [.i 0, .i a.width, .i a.now, .i a.given, .i a.births, .l (encK a.things), .l (encP a.pins), .l (encL a.leases), .i b.width, .i b.now, .i b.given, .i b.births, .l (encK b.things), .l (encP b.pins), .l (encL b.leases)] = _ from l3]
    exact zgs hTe ⟨h1, h2, h3, h4⟩ h6 h7
  · rename_i hT
    rw [decide_eq_false (p := a = b)]
    rintro rfl; exact hT fun _ _ _ => rfl
theorem zuy (a b : Round) (h1 : a.queue.length ≤ 1099511627776) (h2 : a.marked.length ≤ 1099511627776) (h3 : b.queue.length ≤ 1099511627776) (h4 : b.marked.length ≤ 1099511627776) : Lqc6 none (encR a ++ encR b) = some [.b (decide (a = b))] := by
  obtain ⟨p, q, m, t, at1, r⟩ := a; obtain ⟨p', q', m', t', at2, r'⟩ := b
  simp only at h1 h2 h3 h4
  show Lqc6 none [.i p, .l (encS q), .l (encS m), .i t, .i at1, .i r, .i p', .l (encS q'), .l (encS m'), .i t', .i at2, .i r'] = _
  rw [eqc6_i]
  have no : ∀ P : Prop, ((⟨p, q, m, t, at1, r⟩ : Round) = ⟨p', q', m', t', at2, r'⟩ → P) → ¬ P → decide ((⟨p, q, m, t, at1, r⟩ : Round) = ⟨p', q', m', t', at2, r'⟩) = false := fun P h1 h2 => decide_eq_false fun h3 => h2 (h1 h3)
  by_cases c1 : p = p'
  rotate_left; · rw [no _ (fun h => by cases h; rfl) c1]; simp (disch := omega) only [push_cast]
  by_cases c2 : t = t'
  rotate_left; · rw [no _ (fun h => by cases h; rfl) c2]; simp (disch := omega) only [push_cast]
  by_cases c3 : at1 = at2
  rotate_left; · rw [no _ (fun h => by cases h; rfl) c3]; simp (disch := omega) only [push_cast]
  by_cases c4 : r = r'
  rotate_left; · rw [no _ (fun h => by cases h; rfl) c4]; simp (disch := omega) only [push_cast]
  simp (disch := omega) only [push_cast, zev q q' h1 h3, zev m m' h2 h4]
  by_cases c5 : q = q'
  rotate_left; · rw [no _ (fun h => by cases h; rfl) c5, decide_eq_false c5]; simp (disch := omega) only [push_cast]
  rw [decide_eq_true c5]
  simp (disch := omega) only [push_cast]
  congr 3
  subst c1; subst c2; subst c3; subst c4; subst c5
  exact decide_eq_decide.2 ⟨fun h => by rw [h], fun h => by cases h; rfl⟩
theorem zrr {a b : Vault} (ha : SmallV a) (hb : SmallV b) : Lqc7 none (encV a ++ encV b) = some [.b (decide (a = b))] := by
  have hs := zq7 ha.st hb.st
  have hr := zuy a.rd b.rd ha.q ha.m hb.q hb.m
  have h1 := zev a.safe b.safe ha.a.1 hb.a.1
  have h2 := zev a.loose b.loose ha.b.1 hb.b.1
  have hs' : Lqm none [.i a.st.width, .i a.st.now, .i a.st.given, .i a.st.births, .l (encK a.st.things), .l (encP a.st.pins), .l (encL a.st.leases), .i b.st.width, .i b.st.now, .i b.st.given, .i b.st.births, .l (encK b.st.things), .l (encP b.st.pins), .l (encL b.st.leases)] = _ := hs
  have hr' : Lqc6 none [.i a.rd.phase, .l (encS a.rd.queue), .l (encS a.rd.marked), .i a.rd.top, .i a.rd.at_, .i a.rd.rounds, .i b.rd.phase, .l (encS b.rd.queue), .l (encS b.rd.marked), .i b.rd.top, .i b.rd.at_, .i b.rd.rounds] = _ := hr
  show Lqc7 none [.i a.width, .i a.limit, .l (encS a.safe), .l (encS a.loose), .i a.st.width, .i a.st.now, .i a.st.given, .i a.st.births, .l (encK a.st.things), .l (encP a.st.pins), .l (encL a.st.leases), .i a.rd.phase, .l (encS a.rd.queue), .l (encS a.rd.marked), .i a.rd.top, .i a.rd.at_, .i a.rd.rounds, .i b.width, .i b.limit, .l (encS b.safe), .l (encS b.loose), .i b.st.width, .i b.st.now, .i b.st.given, .i b.st.births, .l (encK b.st.things), .l (encP b.st.pins), .l (encL b.st.leases), .i b.rd.phase, .l (encS b.rd.queue), .l (encS b.rd.marked), .i b.rd.top, .i b.rd.at_, .i b.rd.rounds] = _
  rw [eqc7_i, h1, h2, hs', hr']
  have no : ∀ P : Prop, (a = b → P) → ¬ P → decide (a = b) = false := fun P h1 h2 => decide_eq_false fun h3 => h2 (h1 h3)
  by_cases c1 : a.width = b.width
  rotate_left; · rw [no _ (fun h => by rw [h]) c1]; simp (disch := omega) only [push_cast]
  by_cases c2 : a.limit = b.limit
  rotate_left; · rw [no _ (fun h => by rw [h]) c2]; simp (disch := omega) only [push_cast]
  by_cases c3 : a.safe = b.safe
  rotate_left; · rw [no _ (fun h => by rw [h]) c3, decide_eq_false c3]; simp (disch := omega) only [push_cast]
  by_cases c4 : a.loose = b.loose
  rotate_left; · rw [no _ (fun h => by rw [h]) c4, decide_eq_true c3, decide_eq_false c4]; simp (disch := omega) only [push_cast]
  by_cases c5 : a.st = b.st
  rotate_left; · rw [no _ (fun h => by rw [h]) c5, decide_eq_true c3, decide_eq_true c4, decide_eq_false c5]; simp (disch := omega) only [push_cast]
  rw [decide_eq_true c3, decide_eq_true c4, decide_eq_true c5]
  simp (disch := omega) only [push_cast]
  congr 3
  obtain ⟨w, l, s, o, t, r⟩ := a; obtain ⟨w', l', s', o', t', r'⟩ := b
  simp only at c1 c2 c3 c4 c5 ⊢
  subst c1; subst c2; subst c3; subst c4; subst c5
  exact decide_eq_decide.2 ⟨fun h => by rw [h], fun h => by cases h; rfl⟩
end KV
end
section
namespace KV
open Go Go.Eng
open Classical
structure Did where
  code : Int
  v : Vault
  sum : Bs
  lease : Int
  a : Bs
  b : Bs
def zo (d : Did) : Lv := .i d.code :: (vI d.v ++ ([.s d.sum, .i d.lease, .s d.a, .s d.b] ++ vL d.v))
def same (v : Vault) (c : Int) : Did := ⟨c, v, E0, 0, E0, E0⟩
def zbh (e : Entry) (o : Out) : Bs := if e.kind = 1 then o.sum else e.sum
noncomputable def doE (v : Vault) (e : Entry) (sh : Bool) : Did :=
  if ¬ VV v then same V0 1
  else if ¬ zg e v.width = true then same v 1
  else if ¬ (chg v.st e).code = 0 then { same v (chg v.st e).code with a := (chg v.st e).a, b := (chg v.st e).b }
  else if e.kind = 1 ∧ v.limit < (roomM (chg v.st e).st : Int) then same v 8
  else if v.safe.length + v.loose.length = 4000 then same v 9
  else ⟨0, { v with loose := v.loose ++ [formE e], st := (chg v.st e).st, rd := if sh = true then z8 (chg v.st e).st v.rd (zbh e (chg v.st e)) else v.rd }, (chg v.st e).sum, (chg v.st e).lease, E0, E0⟩
theorem zlx (x : Bs) (w lim : Int) (s : State) (r : Round) (sum : Bs) (lease : Int) (a b : Bs) (sf ls : List Bs) (hs : SrtK s.things) (hn : s.things.length ≤ 1000000) (h1 : r.queue.length ≤ 1099511627775) (h2 : r.marked.length ≤ 1099511627776)
    (i1 i2 i3 i4 i5 : Int) (l1 l2 l3 : Rw) :
    Lqbm (some 18) [.s x, .i 0, .i 0, .i 0, .i 0, .i 0, .i 0, .i 0, .i 0, .i 0, .i 0, .i 0, .s E0, .i 0, .s E0, .s E0, .i w, .i lim, .i s.width, .i s.now, .i s.given, .i s.births, .i r.phase, .i r.top, .i r.at_, .i r.rounds, .i i1, .i i2, .i i3, .i i4, .i i5, .l l1, .l l2, .l l3, .s sum, .i lease, .s a, .s b, .l (encS sf), .l (encS ls), .l (encK s.things), .l (encP s.pins), .l (encL s.leases), .l (encS r.queue), .l (encS r.marked), .l [], .l [], .l [], .l [], .l [], .l [], .l []] =
      some (zo ⟨0, ⟨w, lim, sf, ls, s, z8 s r x⟩, sum, lease, E0, E0⟩) := by
  rw [eqbm_18]
  have := znx hs hn r x h1 h2
  rw [show Lqc3 none [.i r.phase, .l (encS r.queue), .l (encS r.marked), .i r.top, .i r.at_, .i r.rounds, .s x, .i s.width, .i s.now, .i s.given, .i s.births, .l (encK s.things), .l (encP s.pins), .l (encL s.leases)] = _ from this]
  unfold encRo
  simp (disch := omega) only [push_cast]
  rfl
theorem zkv {v : Vault} (h : SmallV v) (hc : CutV v) (e : Entry) (sh : Bool) (hn : e.name.size ≤ 4611686018427387904) : Lqbm none (encV v ++ (encE e ++ [.b sh])) = some (zo (doE v e sh)) := by
  show Lqbm none [.i v.width, .i v.limit, .l (encS v.safe), .l (encS v.loose), .i v.st.width, .i v.st.now, .i v.st.given, .i v.st.births, .l (encK v.st.things), .l (encP v.st.pins), .l (encL v.st.leases), .i v.rd.phase, .l (encS v.rd.queue), .l (encS v.rd.marked), .i v.rd.top, .i v.rd.at_, .i v.rd.rounds, .i e.kind, .s e.sum, .s e.name, .i e.number, .s e.thing.text, .l (encS e.thing.refs), .b sh] = _
  have hvv := zf0 h hc
  have hcp := zjl h
  unfold encV at hvv hcp
  rw [eqbm_i, hvv, hcp]
  unfold doE
  by_cases V : VV v
  rotate_left
  · rw [if_pos V, decide_eq_false V]; simp (disch := omega) only [push_cast]; rfl
  rw [if_neg (not_not_intro V), decide_eq_true V]
  have hen := zgc e v.width hn
  rw [show Lqe none [.i e.kind, .s e.sum, .s e.name, .i e.number, .s e.thing.text, .l (encS e.thing.refs), .i v.width] = _ from hen]
  by_cases he : zg e v.width = true
  rotate_left
  · rw [if_pos he]
    have : zg e v.width = false := by simpa using he
    simp (disch := omega) only [push_cast, this]; rfl
  rw [if_neg (not_not_intro he)]
  have Vs := V.vs
  have he' : zg e v.st.width = true := by rw [Vs.2]; exact he
  have hch := zig Vs.1 he'
  have hch' : Lqa none [.i e.kind, .s e.sum, .s e.name, .i e.number, .s e.thing.text, .l (encS e.thing.refs), .i v.st.width, .i v.st.now, .i v.st.given, .i v.st.births, .l (encK v.st.things), .l (encP v.st.pins), .l (encL v.st.leases)] = _ := hch
  have hfe := znb e v.width hn
  have hfe' : Lqci none [.i e.kind, .s e.sum, .s e.name, .i e.number, .s e.thing.text, .l (encS e.thing.refs), .i v.width] = _ := hfe
  rw [if_pos he] at hfe'
  have hq := h.q; have hm := h.m
  have hln := V.log.n
  simp only [vI, vL, List.cons_append, List.nil_append]
  by_cases hcode : (chg v.st e).code = 0
  rotate_left
  · rw [if_pos hcode]
    simp (disch := omega) only [push_cast, he, hch', zy, encSt, List.cons_append, List.nil_append]
    rfl
  rw [if_neg (not_not_intro hcode)]
  have Vc := zdc Vs.1 he' hcode
  have hrm := zow Vc.small (by have := zkp Vc; omega)
  unfold encSt at hrm
  have hqn := V.rd.nQ
  have hmn := V.rd.nM
  have hTn := Vc.nT
  by_cases h8 : e.kind = 1 ∧ v.limit < (roomM (chg v.st e).st : Int)
  · rw [if_pos h8]
    have h81 := h8.1; have h82 := h8.2
    simp (disch := omega) only [push_cast, he, hch', zy, encSt, List.cons_append, List.nil_append, hrm]
    rfl
  rw [if_neg h8]
  by_cases h9 : v.safe.length + v.loose.length = 4000
  · rw [if_pos h9]
    by_cases hk : e.kind = 1
    · have : ¬ v.limit < (roomM (chg v.st e).st : Int) := fun h => h8 ⟨hk, h⟩
      simp (disch := omega) only [push_cast, he, hch', zy, encSt, List.cons_append, List.nil_append, hrm]; rfl
    · simp (disch := omega) only [push_cast, he, hch', zy, encSt, List.cons_append, List.nil_append]; rfl
  rw [if_neg h9]
  by_cases hk : e.kind = 1
  · have hlim : ¬ v.limit < (roomM (chg v.st e).st : Int) := fun h => h8 ⟨hk, h⟩
    cases sh
    · simp (disch := omega) only [push_cast, he, hch', zy, encSt, List.cons_append, List.nil_append, hrm, hfe', mostE]
      rw [z7, zn]; rfl
    · simp (disch := omega) only [push_cast, he, hch', zy, encSt, List.cons_append, List.nil_append, hrm, hfe', mostE]
      rw [z7, zn, zlx _ _ _ (chg v.st e).st v.rd _ _ _ _ _ _ Vc.srtT (by omega) (by omega) (by omega)]
      unfold zbh; rw [if_pos hk]
  · cases sh
    · simp (disch := omega) only [push_cast, he, hch', zy, encSt, List.cons_append, List.nil_append, hfe', mostE]
      rw [z7, zn]; rfl
    · simp (disch := omega) only [push_cast, he, hch', zy, encSt, List.cons_append, List.nil_append, hfe', mostE]
      rw [z7, zn, zlx _ _ _ (chg v.st e).st v.rd _ _ _ _ _ _ Vc.srtT (by omega) (by omega) (by omega)]
      unfold zbh; rw [if_neg hk]
end KV
end
section
namespace KV
open Go Go.Eng
open Classical
theorem zck (d : Did) : [Lf.i ((g (zo d) 0).int), .i ((g (zo d) 1).int), .i ((g (zo d) 2).int), .i ((g (zo d) 3).int), .i ((g (zo d) 4).int), .i ((g (zo d) 5).int), .i ((g (zo d) 6).int), .i ((g (zo d) 7).int), .i ((g (zo d) 8).int), .i ((g (zo d) 9).int), .i ((g (zo d) 10).int), .s ((g (zo d) 11).str), .i ((g (zo d) 12).int), .s ((g (zo d) 13).str), .s ((g (zo d) 14).str), .l ((g (zo d) 15).list), .l ((g (zo d) 16).list), .l ((g (zo d) 17).list), .l ((g (zo d) 18).list), .l ((g (zo d) 19).list), .l ((g (zo d) 20).list), .l ((g (zo d) 21).list)] = zo d := rfl
def ePut (t : Thing) (hold : Int) : Entry := ⟨1, E0, E0, hold, t⟩
theorem zt4 {v : Vault} (h : SmallV v) (hc : CutV v) (t : Thing) (hold : Int) (ht : t.refs.length ≤ 1099511627776) : Lqc4 none (encV v ++ [.s t.text, .l (encS t.refs), .i hold]) = some (zo (doE v (ePut t hold) true)) := by
  have := zkv h hc (ePut t hold) true (by show (0 : Nat) ≤ 4611686018427387904; omega)
  show Lqc4 none [.i v.width, .i v.limit, .l (encS v.safe), .l (encS v.loose), .i v.st.width, .i v.st.now, .i v.st.given, .i v.st.births, .l (encK v.st.things), .l (encP v.st.pins), .l (encL v.st.leases), .i v.rd.phase, .l (encS v.rd.queue), .l (encS v.rd.marked), .i v.rd.top, .i v.rd.at_, .i v.rd.rounds, .s t.text, .l (encS t.refs), .i hold] = _
  rw [eqc4_i, zcc _ (by rw [z4]; exact ht)]
  simp (disch := omega) only [push_cast]
  rw [show Lqbm none [.i v.width, .i v.limit, .l (encS v.safe), .l (encS v.loose), .i v.st.width, .i v.st.now, .i v.st.given, .i v.st.births, .l (encK v.st.things), .l (encP v.st.pins), .l (encL v.st.leases), .i v.rd.phase, .l (encS v.rd.queue), .l (encS v.rd.marked), .i v.rd.top, .i v.rd.at_, .i v.rd.rounds, .i 1, .s E0, .s E0, .i hold, .s t.text, .l (encS t.refs), .b true] = _ from this, Option.bind_some, zck]
noncomputable def zdf (v : Vault) (x : Bs) : Option Thing := if VV v ∧ hasT v.st.things x then some (nth K0 v.st.things (lb (qK x) v.st.things)).thing else none
theorem zna {v : Vault} (h : SmallV v) (hc : CutV v) (x : Bs) : Lqcr none (encV v ++ [.s x]) = some (encOT (zdf v x)) := by
  have hvv := zf0 h hc
  unfold encV at hvv
  show Lqcr none [.i v.width, .i v.limit, .l (encS v.safe), .l (encS v.loose), .i v.st.width, .i v.st.now, .i v.st.given, .i v.st.births, .l (encK v.st.things), .l (encP v.st.pins), .l (encL v.st.leases), .i v.rd.phase, .l (encS v.rd.queue), .l (encS v.rd.marked), .i v.rd.top, .i v.rd.at_, .i v.rd.rounds, .s x] = _
  rw [eqcr_i, hvv]
  unfold zdf
  by_cases V : VV v
  · have Vs := V.vs.1
    have hn := Vs.nT
    rw [decide_eq_true V]
    simp (disch := omega) only [push_cast, zbp _ _ _ _ v.st.things _ _ x Vs.srtT (by omega)]
    by_cases hT : hasT v.st.things x
    · have hi := ((zbk Vs.srtT x).1 hT).1
      have hr := (h.st.t _ (zi (d := K0) hi)).2
      rw [decide_eq_true hT, if_pos ⟨V, hT⟩]
      simp (disch := omega) only [push_cast, zcc (encS (nth K0 v.st.things (lb (qK x) v.st.things)).thing.refs) (by rw [z4]; exact hr)]
      rfl
    · rw [decide_eq_false hT, if_neg fun h => hT h.2]; rfl
  · rw [decide_eq_false V, if_neg fun h => V h.1]; rfl
theorem zrw {s : State} {e : Entry} (h : (chg s e).code = 0) : s.births ≤ (chg s e).st.births := by
  unfold chg putS fail done lent at h ⊢
  repeat' split
  all_goals first | exact Int.le_refl _ | (show s.births ≤ s.births + 1; omega)
theorem zn5 {s : State} (V : VS s) {r : Round} (x : Bs) (h : RoundOk s.width s.births r) : RoundOk s.width s.births (z8 s r x) := by
  by_cases hT : hasT s.things x
  · obtain ⟨k, hk, he⟩ := hT
    refine ztp h ?_
    rw [← he, (V.okT k hk).2.1]
    exact zeq V.wd
  · unfold z8; rw [if_neg fun h => hT h.1]; exact h
theorem zem {v : Vault} {e : Entry} {sh : Bool} (h : (doE v e sh).code = 0) : VV v ∧ zg e v.width = true ∧ (chg v.st e).code = 0 ∧ VV (doE v e sh).v := by
  unfold doE at h ⊢
  split at h
  · cases h
  · rename_i V
    have V := Classical.not_not.1 V
    rw [if_neg (not_not_intro V)]
    split at h
    · cases h
    · rename_i he
      have he := Classical.not_not.1 he
      rw [if_neg (not_not_intro he)]
      split at h
      · rename_i hc; exact absurd h hc
      · rename_i hc
        have hc := Classical.not_not.1 hc
        rw [if_neg (not_not_intro hc)]
        split at h
        · cases h
        · rename_i h8
          rw [if_neg h8]
          split at h
          · cases h
          · rename_i h9
            rw [if_neg h9]
            refine ⟨V, he, hc, ?_⟩
            have Vs := V.vs
            have he' : zg e v.st.width = true := by rw [Vs.2]; exact he
            have Vc := zdc Vs.1 he' hc
            have hfs := zii he
            have hl := V.log.n
            refine ⟨V.wd, V.lim, ⟨V.log.sa, fun x hx => ?_, ?_⟩, ?_, ?_⟩
            · rcases List.mem_append.1 hx with h1 | h1
              · exact V.log.sb x h1
              · rw [List.mem_singleton] at h1; rw [h1]; omega
            · show v.safe.length + (v.loose ++ [formE e]).length ≤ 4000
              rw [List.length_append]; simp; omega
            · show runL v.width (empty v.width) (v.safe ++ (v.loose ++ [formE e])) 0 = .inl (chg v.st e).st
              rw [← List.append_assoc, ze1, V.run]
              simp only [runL, zg3 he]
              rw [if_pos hc]
            · show RoundOk (chg v.st e).st.width (chg v.st e).st.births (if sh = true then z8 (chg v.st e).st v.rd (zbh e (chg v.st e)) else v.rd)
              have hr : RoundOk (chg v.st e).st.width (chg v.st e).st.births v.rd := by
                rw [zfi]; exact V.rd.mono (zrw hc)
              split
              · exact zn5 Vc _ hr
              · exact hr
end KV
end
section
namespace KV
open Go Go.Eng
open Classical
theorem zkc (a b : Thing) (ha : a.refs.length ≤ 1099511627776) (hb : b.refs.length ≤ 1099511627776) : Lqce none [.s a.text, .l (encS a.refs), .s b.text, .l (encS b.refs)] = some [.b (decide (a = b))] := by
  obtain ⟨x, r⟩ := a; obtain ⟨y, t⟩ := b
  simp only at ha hb ⊢
  rw [eqce_i]
  by_cases h0 : x = y
  rotate_left; · simp (disch := omega) only [push_cast]; rw [decide_eq_false (p := (⟨x, r⟩ : Thing) = ⟨y, t⟩)]; intro e; cases e; exact h0 rfl
  by_cases h : r.length = t.length
  · have l1 := zu (f := fun i : Nat => Lqce (some 4) [.i (i : Int), .s x, .l (encS r), .s y, .l (encS t)]) (P := fun j => nth .empty r j = nth .empty t j) (n := r.length) (T := some [.b true]) (F := some [.b false]) (fun i hi => by
      show (_ → Lqce _ _ = _) ∧ (_ → Lqce _ _ = _)
      rw [eqce_4]
      by_cases hc : nth .empty r i = nth .empty t i <;> simp (disch := omega) only [push_cast] <;> simp [hc]) (by show Lqce _ _ = _; rw [eqce_4]; simp (disch := omega) only [push_cast]) 0 (Nat.zero_le _)
    simp (disch := omega) only [push_cast]
    refine l1.trans ?_
    split
    · rename_i hh; rw [decide_eq_true (p := (⟨x, r⟩ : Thing) = ⟨y, t⟩) (by rw [h0, zc2 .empty h hh])]
    · rename_i hh; rw [decide_eq_false (p := (⟨x, r⟩ : Thing) = ⟨y, t⟩)]; intro e; cases e; exact hh fun _ _ _ => rfl
  · have : ¬ (⟨x, r⟩ : Thing) = ⟨y, t⟩ := fun e => h (by cases e; rfl)
    simp (disch := omega) only [push_cast]; rw [decide_eq_false this]
theorem zpb {a b : State} (ha : Small1 a) (hb : Small1 b) : Lqk none (encSt a ++ encSt b) = some [.b (decide (a = b))] := by
  have a1 := ha.nT; have a2 := ha.nP; have a3 := ha.nL; have b1 := hb.nT; have b2 := hb.nP; have b3 := hb.nL
  show Lqk none [.i a.width, .i a.now, .i a.given, .i a.births, .l (encK a.things), .l (encP a.pins), .l (encL a.leases), .i b.width, .i b.now, .i b.given, .i b.births, .l (encK b.things), .l (encP b.pins), .l (encL b.leases)] = _
  rw [eqk_i]
  have no : ∀ p : Prop, [Decidable p] → (a = b → p) → ¬ p → decide (a = b) = false := fun p _ h1 h2 => decide_eq_false fun h3 => h2 (h1 h3)
  by_cases h1 : a.width = b.width
  rotate_left; · rw [no _ (fun h => by rw [h]) h1]; simp (disch := omega) only [push_cast]
  by_cases h2 : a.now = b.now
  rotate_left; · rw [no _ (fun h => by rw [h]) h2]; simp (disch := omega) only [push_cast]
  by_cases h3 : a.given = b.given
  rotate_left; · rw [no _ (fun h => by rw [h]) h3]; simp (disch := omega) only [push_cast]
  by_cases h4 : a.births = b.births
  rotate_left; · rw [no _ (fun h => by rw [h]) h4]; simp (disch := omega) only [push_cast]
  by_cases h5 : a.things.length = b.things.length
  rotate_left; · rw [no _ (fun h => by rw [h]) h5]; simp (disch := omega) only [push_cast]
  by_cases h6 : a.pins.length = b.pins.length
  rotate_left; · rw [no _ (fun h => by rw [h]) h6]; simp (disch := omega) only [push_cast]
  by_cases h7 : a.leases.length = b.leases.length
  rotate_left; · rw [no _ (fun h => by rw [h]) h7]; simp (disch := omega) only [push_cast]
  simp (disch := omega) only [push_cast]
  have l3 := zu (f := fun i : Nat => Lqk (some 14) [.i (i : Int), .i a.width, .i a.now, .i a.given, .i a.births, .l (encK a.things), .l (encP a.pins), .l (encL a.leases), .i b.width, .i b.now, .i b.given, .i b.births, .l (encK b.things), .l (encP b.pins), .l (encL b.leases)])
    (P := fun j => nth L0 a.leases j = nth L0 b.leases j) (n := a.leases.length) (T := some [.b true]) (F := some [.b false]) (fun i hi => by
      show (_ → Lqk _ _ = _) ∧ (_ → Lqk _ _ = _)
      rw [eqk_14]
      simp only [zb3, zhc, zh1, zh2, zgx]
      by_cases hc : nth L0 a.leases i = nth L0 b.leases i <;> simp (disch := omega) only [push_cast] <;> simp [hc]) (by show Lqk _ _ = _; rw [eqk_14]; simp (disch := omega) only [push_cast]) 0 (Nat.zero_le _)
  have l2 := zu (f := fun i : Nat => Lqk (some 9) [.i (i : Int), .i a.width, .i a.now, .i a.given, .i a.births, .l (encK a.things), .l (encP a.pins), .l (encL a.leases), .i b.width, .i b.now, .i b.given, .i b.births, .l (encK b.things), .l (encP b.pins), .l (encL b.leases)])
    (P := fun j => nth P0 a.pins j = nth P0 b.pins j) (n := a.pins.length) (T := Lqk (some 14) [.i 0, .i a.width, .i a.now, .i a.given, .i a.births, .l (encK a.things), .l (encP a.pins), .l (encL a.leases), .i b.width, .i b.now, .i b.given, .i b.births, .l (encK b.things), .l (encP b.pins), .l (encL b.leases)]) (F := some [.b false]) (fun i hi => by
      show (_ → Lqk _ _ = _) ∧ (_ → Lqk _ _ = _)
      rw [eqk_9]
      simp only [zb3, zgw, zia, zhe]
      by_cases hc : nth P0 a.pins i = nth P0 b.pins i <;> simp (disch := omega) only [push_cast] <;> simp [hc]) (by show Lqk _ _ = _; rw [eqk_9]; simp (disch := omega) only [push_cast]) 0 (Nat.zero_le _)
  have l1 := zu (f := fun i : Nat => Lqk (some 4) [.i (i : Int), .i a.width, .i a.now, .i a.given, .i a.births, .l (encK a.things), .l (encP a.pins), .l (encL a.leases), .i b.width, .i b.now, .i b.given, .i b.births, .l (encK b.things), .l (encP b.pins), .l (encL b.leases)])
    (P := fun j => nth K0 a.things j = nth K0 b.things j) (n := a.things.length) (T := Lqk (some 9) [.i 0, .i a.width, .i a.now, .i a.given, .i a.births, .l (encK a.things), .l (encP a.pins), .l (encL a.leases), .i b.width, .i b.now, .i b.given, .i b.births, .l (encK b.things), .l (encP b.pins), .l (encL b.leases)]) (F := some [.b false]) (fun i hi => by
      show (_ → Lqk _ _ = _) ∧ (_ → Lqk _ _ = _)
      rw [eqk_4]
      have hsa := ha.t _ (zi (d := K0) hi)
      have hsb := hb.t _ (zi (d := K0) (show i < b.things.length by omega))
      obtain ⟨x, hx⟩ : ∃ x, nth K0 a.things i = x := ⟨_, rfl⟩
      obtain ⟨y, hy⟩ : ∃ y, nth K0 b.things i = y := ⟨_, rfl⟩
      rw [hx] at hsa ⊢
      rw [hy] at hsb ⊢
      by_cases c1 : x.sum = y.sum
      · by_cases c2 : x.born = y.born
        · by_cases c3 : x.thing = y.thing
          · obtain rfl : x = y := by obtain ⟨s, n, t⟩ := x; obtain ⟨s', n', t'⟩ := y; simp only at c1 c2 c3; rw [c1, c2, c3]
            simp (disch := omega) only [push_cast, hx, hy, zkc x.thing x.thing hsa.2 hsa.2, decide_eq_true (show x.thing = x.thing from rfl)]
            simp
          · have : ¬ x = y := fun h => c3 (by rw [h])
            simp (disch := omega) only [push_cast, hx, hy, zkc x.thing y.thing hsa.2 hsb.2, decide_eq_false c3]
            simp [this]
        · have : ¬ x = y := fun h => c2 (by rw [h])
          simp (disch := omega) only [push_cast, hx, hy]; simp [this]
      · have : ¬ x = y := fun h => c1 (by rw [h])
        simp (disch := omega) only [push_cast, hx, hy]; simp [this]) (by show Lqk _ _ = _; rw [eqk_4]; simp (disch := omega) only [push_cast]) 0 (Nat.zero_le _)
  refine l1.trans ?_
  split
  · rename_i hT
    have hTe : a.things = b.things := zc2 K0 h5 hT
    refine l2.trans ?_
    rw [show Lqk (some 14) [.i 0, .i a.width, .i a.now, .i a.given, .i a.births, .l (encK a.things), .l (encP a.pins), .l (encL a.leases), .i b.width, .i b.now, .i b.given, .i b.births, .l (encK b.things), .l (encP b.pins), .l (encL b.leases)] = _ from l3]
    exact zgs hTe ⟨h1, h2, h3, h4⟩ h6 h7
  · rename_i hT
    rw [decide_eq_false (p := a = b)]
    rintro rfl; exact hT fun _ _ _ => rfl
theorem znf (s : State) (r : Round) (hb : 0 ≤ s.births ∧ s.births ≤ 1000000000) : Lqr none (encSt s ++ encR r) = some [.b (decide (RoundOk s.width s.births r))] := by
  show Lqr none [.i s.width, .i s.now, .i s.given, .i s.births, .l (encK s.things), .l (encP s.pins), .l (encL s.leases), .i r.phase, .l (encS r.queue), .l (encS r.marked), .i r.top, .i r.at_, .i r.rounds] = _
  rw [eqr_i]
  have hri := zlz s.width s.births r
  have no : ∀ p : Prop, (RoundOk s.width s.births r → p) → ¬ p → decide (RoundOk s.width s.births r) = false := fun p h1 h2 => decide_eq_false fun h3 => h2 (h1 h3)
  by_cases h1 : 0 ≤ r.phase
  rotate_left; · rw [no _ (fun h => h.ph.1) h1]; simp (disch := omega) only [push_cast]
  by_cases h2 : r.phase ≤ 2
  rotate_left; · rw [no _ (fun h => h.ph.2) h2]; simp (disch := omega) only [push_cast]
  by_cases h3 : 0 ≤ r.rounds ∧ r.rounds ≤ 1000000000
  rotate_left; · rw [no _ (fun h => h.rds) h3]; simp (disch := omega) only [push_cast, zp]
  by_cases h4 : r.queue.length ≤ 23200
  rotate_left; · rw [no _ (fun h => h.nQ) h4]; simp (disch := omega) only [push_cast, zp]
  by_cases h5 : r.marked.length ≤ 600
  rotate_left; · rw [no _ (fun h => h.nM) h5]; simp (disch := omega) only [push_cast, zp]
  simp (disch := omega) only [push_cast, zp]
  have l2 := zu (f := fun i : Nat => Lqr (some 9) [.i (i : Int), .i s.width, .i s.now, .i s.given, .i s.births, .l (encK s.things), .l (encP s.pins), .l (encL s.leases), .i r.phase, .l (encS r.queue), .l (encS r.marked), .i r.top, .i r.at_, .i r.rounds])
    (P := fun j => mkP s.width r.marked j) (n := r.marked.length) (T := some [.b (lastB s.births r)]) (F := some [.b false]) (fun i hi => by
      show (_ → Lqr _ _ = Lqr _ _) ∧ (_ → Lqr _ _ = _)
      rw [eqr_9]
      have hsub : Eng.sub (encS r.marked) 0 i = encS (r.marked.take i) := by rw [zcy]; rfl
      have hlen : (r.marked.take i).length ≤ 4611686018427387904 := by rw [List.length_take]; omega
      by_cases c1 : ((nth .empty r.marked i).size : Int) = s.width
      rotate_left; · exact ⟨fun h => absurd h.1 c1, fun _ => by simp (disch := omega) only [push_cast]⟩
      by_cases c2 : nth .empty r.marked i ∈ r.marked.take i
      · exact ⟨fun h => absurd c2 h.2, fun _ => by simp (disch := omega) only [push_cast, hsub, z0 _ _ hlen]⟩
      · exact ⟨fun _ => by simp (disch := omega) only [push_cast, hsub, z0 _ _ hlen] <;> rfl, fun h => absurd ⟨c1, c2⟩ h⟩) (by
      show Lqr _ _ = _
      rw [eqr_9]
      simp (disch := omega) only [push_cast]
      unfold lastB
      by_cases h0 : r.phase = 0
      · rw [if_pos h0]
        simp (disch := omega) only [push_cast]
        have e1 : ∀ l : List Bs, decide ((l.length : Int) = 0) = decide (l = []) := fun l => decide_eq_decide.2 ⟨fun h => List.eq_nil_of_length_eq_zero (by omega), fun h => by rw [h]; rfl⟩
        by_cases c1 : r.queue = []
        rotate_left; · rw [e1, decide_eq_false c1]; simp [c1]
        by_cases c2 : r.marked = []
        rotate_left; · rw [e1, e1, decide_eq_false c2]; simp [c1, c2]
        by_cases c3 : r.top = 0 <;> simp [c1, c2, c3]
      · rw [if_neg h0]
        simp (disch := omega) only [push_cast, zp]
        by_cases c1 : 0 ≤ r.top ∧ r.top ≤ s.births
        rotate_left; · simp (disch := omega) only [push_cast]; rw [decide_eq_false]; rintro ⟨a, b, _⟩; exact c1 ⟨a, b⟩
        simp (disch := omega) only [push_cast, zp]
        by_cases c2 : 1 ≤ r.at_ ∧ r.at_ ≤ r.top + 1
        rotate_left; · simp (disch := omega) only [push_cast]; rw [decide_eq_false]; rintro ⟨_, _, a, b, _⟩; exact c2 ⟨a, b⟩
        simp (disch := omega) only [push_cast]
        by_cases c3 : r.phase = 2
        · simp (disch := omega) only [push_cast]; rw [decide_eq_true]; exact ⟨c1.1, c1.2, c2.1, c2.2, fun h => by omega⟩
        · simp (disch := omega) only [push_cast]; congr 3; exact decide_eq_decide.2 ⟨fun h => ⟨c1.1, c1.2, c2.1, c2.2, fun _ => h⟩, fun h => h.2.2.2.2 (by omega)⟩) 0 (Nat.zero_le _)
  have l1 := zu (f := fun i : Nat => Lqr (some 4) [.i (i : Int), .i s.width, .i s.now, .i s.given, .i s.births, .l (encK s.things), .l (encP s.pins), .l (encL s.leases), .i r.phase, .l (encS r.queue), .l (encS r.marked), .i r.top, .i r.at_, .i r.rounds])
    (P := fun j => ((nth .empty r.queue j).size : Int) = s.width) (n := r.queue.length) (T := Lqr (some 9) [.i 0, .i s.width, .i s.now, .i s.given, .i s.births, .l (encK s.things), .l (encP s.pins), .l (encL s.leases), .i r.phase, .l (encS r.queue), .l (encS r.marked), .i r.top, .i r.at_, .i r.rounds]) (F := some [.b false]) (fun i hi => by
      show (_ → Lqr _ _ = Lqr _ _) ∧ (_ → Lqr _ _ = _)
      rw [eqr_4]
      by_cases hc : ((nth .empty r.queue i).size : Int) = s.width <;> simp (disch := omega) only [push_cast] <;> simp [hc]) (by
      show Lqr _ _ = _
      rw [eqr_4]; simp (disch := omega) only [push_cast]) 0 (Nat.zero_le _)
  have l1' : Lqr (some 4) [.i 0, .i s.width, .i s.now, .i s.given, .i s.births, .l (encK s.things), .l (encP s.pins), .l (encL s.leases), .i r.phase, .l (encS r.queue), .l (encS r.marked), .i r.top, .i r.at_, .i r.rounds] = _ := l1
  have l2' : Lqr (some 9) [.i 0, .i s.width, .i s.now, .i s.given, .i s.births, .l (encK s.things), .l (encP s.pins), .l (encL s.leases), .i r.phase, .l (encS r.queue), .l (encS r.marked), .i r.top, .i r.at_, .i r.rounds] = _ := l2
  rw [l1', l2']
  by_cases h6 : ∀ j, 0 ≤ j → j < r.queue.length → ((nth .empty r.queue j).size : Int) = s.width
  rotate_left; · rw [if_neg h6, no _ (fun h => (zft _ _).2 h.szQ) h6]
  rw [if_pos h6]
  by_cases h7 : ∀ j, 0 ≤ j → j < r.marked.length → mkP s.width r.marked j
  rotate_left; · rw [if_neg h7, no _ (fun h => (zf1 _ _).2 ⟨h.szM, h.ndM⟩) h7]
  rw [if_pos h7]
  congr 3
  cases hl : lastB s.births r
  · rw [no _ (fun h => (hri.1 h).2.2.2.2.2.2) (by rw [hl]; simp)]
  · rw [decide_eq_true (hri.2 ⟨⟨h1, h2⟩, h3, h4, h5, (zf1 _ _).1 h7, (zft _ _).1 h6, hl⟩)]
theorem zdy {v : Vault} (h : SmallV v) : Lqbf none (encV v) = some [.b (decide (VV v))] := by
  unfold encV
  have hab := h.ab
  rw [eqbf_i]
  by_cases h1 : zj v.width = true
  rotate_left; · have : zj v.width = false := by simpa using h1
                 simp (disch := omega) only [push_cast, zq, this]; rw [decide_eq_false fun V : VV v => h1 V.wd]
  by_cases h2 : 0 ≤ v.limit ∧ v.limit ≤ 1000000
  rotate_left; · simp (disch := omega) only [push_cast, zq, h1, zp]; rw [decide_eq_false fun V : VV v => h2 V.lim]
  by_cases h3 : LogOk v.safe v.loose
  rotate_left; · simp (disch := omega) only [push_cast, zq, h1, zp, zb7 _ _ h.a h.b]; rw [decide_eq_false fun V : VV v => h3 V.log]
  have hn := h3.n
  simp (disch := omega) only [push_cast, zq, h1, zp, zb7 _ _ h.a h.b, zi1 _ _ h.ab, zjc _ _ (h.a.app h.b h.ab)]
  rw [if_pos ⟨trivial, by rw [List.length_append]; omega⟩]
  cases hr : runL v.width (empty v.width) (v.safe ++ v.loose) 0 with
  | inl s =>
    have V := zcq _ _ _ _ (zcj (zz.1 h1)) rfl hr
    have hs := zpb V.1.small h.st
    have hs' : Lqk none [.i s.width, .i s.now, .i s.given, .i s.births, .l (encK s.things), .l (encP s.pins), .l (encL s.leases), .i v.st.width, .i v.st.now, .i v.st.given, .i v.st.births, .l (encK v.st.things), .l (encP v.st.pins), .l (encL v.st.leases)] = _ := hs
    simp only [zd9]
    simp (disch := omega) only [push_cast, hs']
    by_cases he : s = v.st
    · rw [decide_eq_true he]
      subst he
      have hro := znf v.st v.rd V.1.births
      have hro' : Lqr none [.i v.st.width, .i v.st.now, .i v.st.given, .i v.st.births, .l (encK v.st.things), .l (encP v.st.pins), .l (encL v.st.leases), .i v.rd.phase, .l (encS v.rd.queue), .l (encS v.rd.marked), .i v.rd.top, .i v.rd.at_, .i v.rd.rounds] = _ := hro
      simp (disch := omega) only [push_cast, hro']
      congr 3
      exact decide_eq_decide.2 ⟨fun h4 => ⟨h1, h2, h3, hr, h4⟩, fun h4 => h4.rd⟩
    · rw [decide_eq_false he, decide_eq_false (p := VV v) fun h1 => he (by have := h1.run; rw [hr] at this; cases this; rfl)]; rfl
  | inr n =>
    simp only [zd9]
    simp (disch := omega) only [push_cast]
    rw [decide_eq_false (p := VV v) fun h1 => by have := h1.run; rw [hr] at this; cases this]
end KV
end
