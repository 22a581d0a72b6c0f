/- Plain laws over the walks' closed forms. -/
import Derived.IntWalk
import Derived.WideShapes
import Derived.Laws.Strings
import Derived.Test.YtbgmclgeikflaaaGreatM1
import Derived.Test.YtbgmclgeikflaaaGreatM2
import Derived.Test.YtbgmclgeikflaaaGreatM3
set_option linter.unusedSimpArgs false
set_option linter.unusedVariables false
set_option linter.unusedSectionVars false
section
namespace KV
open Go Go.Eng
abbrev Bs := ByteArray
theorem w64 {n : Int} (h : -9223372036854775808 ≤ n ∧ n ≤ 9223372036854775807) : IntKind.i64.wrap n = n := IntWalk.i64_in n h
theorem w8 {n : Int} (h : 0 ≤ n ∧ n ≤ 255) : IntKind.u8.wrap n = n := IntWalk.u8_in n h
theorem inb_f {i : Int} {n : Nat} (h : i < 0 ∨ (n : Int) ≤ i) : inb i n = false := by
  simp only [inb, Bool.and_eq_false_iff, decide_eq_false_iff_not]; omega
theorem dlt_f {i n : Nat} (h : n ≤ i) : decide ((i : Int) < (n : Int)) = false := by simp; omega
theorem zfe (n : Nat) : (n : Int).toNat = n := Int.toNat_natCast n
theorem zek (x y : Bs) : Eng.seq x y = decide (x = y) := by
  unfold Eng.seq
  rw [ByteArray.toList_eq, ByteArray.toList_eq]
  by_cases h : x = y
  · subst h; simp
  · simp only [h, decide_false, beq_eq_false_iff_ne]
    exact fun e => h (Go.WideShapes.bytes_inj e)
theorem zhq : ∀ x : List UInt8, Op.bytesLess x x = false
  | [] => rfl
  | a :: x => by simp [Op.bytesLess, zhq x]
theorem zi2 : ∀ {x y z : List UInt8}, Op.bytesLess x y = true → Op.bytesLess y z = true → Op.bytesLess x z = true
  | [], [], _, h, _ => by simp [Op.bytesLess] at h
  | [], _ :: _, [], _, h => by simp [Op.bytesLess] at h
  | [], _ :: _, _ :: _, _, _ => rfl
  | _ :: _, [], _, h, _ => by simp [Op.bytesLess] at h
  | _ :: _, _ :: _, [], _, h => by simp [Op.bytesLess] at h
  | a :: x, b :: y, c :: z, h, k => by
    simp only [Op.bytesLess, Bool.or_eq_true, decide_eq_true_eq, Bool.and_eq_true, beq_iff_eq] at h k ⊢
    rcases h with h | ⟨rfl, h⟩ <;> rcases k with k | ⟨rfl, k⟩
    · exact .inl (UInt8.lt_trans h k)
    · exact .inl h
    · exact .inl k
    · exact .inr ⟨rfl, zi2 h k⟩
theorem zja : ∀ (x y : List UInt8), Op.bytesLess x y = true ∨ x = y ∨ Op.bytesLess y x = true
  | [], [] => .inr (.inl rfl)
  | [], _ :: _ => .inl rfl
  | _ :: _, [] => .inr (.inr rfl)
  | a :: x, b :: y => by
    simp only [Op.bytesLess, Bool.or_eq_true, decide_eq_true_eq, Bool.and_eq_true, beq_iff_eq, List.cons.injEq]
    rcases zja x y with h | h | h
    · rcases Nat.lt_trichotomy a.toNat b.toNat with k | k | k
      · exact .inl (.inl (UInt8.lt_iff_toNat_lt.2 k))
      · exact .inl (.inr ⟨UInt8.toNat_inj.1 k, h⟩)
      · exact .inr (.inr (.inl (UInt8.lt_iff_toNat_lt.2 k)))
    · rcases Nat.lt_trichotomy a.toNat b.toNat with k | k | k
      · exact .inl (.inl (UInt8.lt_iff_toNat_lt.2 k))
      · exact .inr (.inl ⟨UInt8.toNat_inj.1 k, h⟩)
      · exact .inr (.inr (.inl (UInt8.lt_iff_toNat_lt.2 k)))
    · rcases Nat.lt_trichotomy a.toNat b.toNat with k | k | k
      · exact .inl (.inl (UInt8.lt_iff_toNat_lt.2 k))
      · exact .inr (.inr (.inr ⟨(UInt8.toNat_inj.1 k).symm, h⟩))
      · exact .inr (.inr (.inl (UInt8.lt_iff_toNat_lt.2 k)))
theorem zca (x : Bs) : slt x x = false := zhq _
theorem zbh {x y z : Bs} (h : slt x y = true) (k : slt y z = true) : slt x z = true := zi2 h k
theorem zl5 (x y : Bs) : slt x y = true ∨ x = y ∨ slt y x = true := by
  rcases zja x.toList y.toList with h | h | h
  · exact .inl h
  · rw [ByteArray.toList_eq, ByteArray.toList_eq] at h; exact .inr (.inl (Go.WideShapes.bytes_inj h))
  · exact .inr (.inr h)
theorem zlt {x y : Bs} (h : slt x y = true) : x ≠ y := fun e => by rw [e, zca] at h; cases h
theorem zq3 {x y : Bs} (h : slt x y = true) : slt y x = false := by
  cases k : slt y x
  · rfl
  · have := zbh h k; rw [zca] at this; cases this
theorem zfx {x y : Bs} : slt x y = false ↔ x = y ∨ slt y x = true := by
  constructor
  · intro h; rcases zl5 x y with k | k | k
    · rw [h] at k; cases k
    · exact .inl k
    · exact .inr k
  · rintro (rfl | h)
    · exact zca _
    · exact zq3 h
theorem zgl {α : Type} (f : α → List C) (l : List α) (i o : Nat) (h : i < l.length) : rd (l.map f) i o = (f l[i]).getD o (.i 0) := by
  simp [rd, List.getD_eq_getElem?_getD, h]
theorem zlk {α : Type} (f : α → List C) (l : List α) (a b : Nat) : Eng.sub (l.map f) a b = ((l.drop a).take (b - a)).map f := by
  simp [Eng.sub, List.map_take, List.map_drop]
def encS (l : List Bs) : Rw := l.map fun s => [.s s]
theorem zbn (l : List Bs) : (encS l).length = l.length := by simp [encS]
theorem zp (l m : List Bs) : encS l ++ encS m = encS (l ++ m) := by simp [encS]
theorem zdh (l : List Bs) (a b : Nat) : Eng.sub (encS l) a b = encS ((l.drop a).take (b - a)) := zlk _ _ _ _
theorem zb7 (s : Bs) : ([[C.s s]] : Rw) = encS [s] := rfl
@[push_cast] theorem cpos {p : Prop} [Decidable p] {α : Type} {a b : α} (h : p) : cond (decide p) a b = a := by simp [h]
@[push_cast] theorem cneg {p : Prop} [Decidable p] {α : Type} {a b : α} (h : ¬ p) : cond (decide p) a b = b := by simp [h]
@[push_cast] theorem cnot {α : Type} (c : Bool) (a b : α) : cond (!c) a b = cond c b a := by cases c <;> rfl
attribute [push_cast] cond_true cond_false Option.bind_some Option.bind_none Int.toNat_natCast
@[push_cast] theorem notT : (!true) = false := Eq.trans rfl rfl
@[push_cast] theorem notF : (!false) = true := Eq.trans rfl rfl
@[push_cast] theorem g0 (a : Lf) (l : List Lf) : g (a :: l) 0 = a := Eq.trans rfl rfl
@[push_cast] theorem g1 (a b : Lf) (l : List Lf) : g (a :: b :: l) 1 = b := Eq.trans rfl rfl
@[push_cast] theorem g2 (a b c : Lf) (l : List Lf) : g (a :: b :: c :: l) 2 = c := Eq.trans rfl rfl
@[push_cast] theorem g3 (a b c d : Lf) (l : List Lf) : g (a :: b :: c :: d :: l) 3 = d := Eq.trans rfl rfl
@[push_cast] theorem g4 (a b c d e : Lf) (l : List Lf) : g (a :: b :: c :: d :: e :: l) 4 = e := Eq.trans rfl rfl
@[push_cast] theorem g5 (a b c d e f : Lf) (l : List Lf) : g (a :: b :: c :: d :: e :: f :: l) 5 = f := Eq.trans rfl rfl
@[push_cast] theorem g6 (a b c d e f h : Lf) (l : List Lf) : g (a :: b :: c :: d :: e :: f :: h :: l) 6 = h := Eq.trans rfl rfl
@[push_cast] theorem gS (a b c d e f h : Lf) (l : List Lf) (n : Nat) : g (a :: b :: c :: d :: e :: f :: h :: l) (n + 7) = g l n := Eq.trans rfl rfl
@[push_cast] theorem lfI (n : Int) : (Lf.i n).int = n := Eq.trans rfl rfl
@[push_cast] theorem lfB (n : Bool) : (Lf.b n).bool = n := Eq.trans rfl rfl
@[push_cast] theorem lfS (n : ByteArray) : (Lf.s n).str = n := Eq.trans rfl rfl
@[push_cast] theorem lfL (n : Rw) : (Lf.l n).list = n := Eq.trans rfl rfl
@[push_cast] theorem lfM (n : List (C × C)) : (Lf.m n).map = n := Eq.trans rfl rfl
attribute [push_cast] w64 w8
@[push_cast] theorem inbp {i : Int} {n : Nat} (h : 0 ≤ i ∧ i < (n : Int)) : inb i n = true := by simp [inb, h]
@[push_cast] theorem inbn {i : Int} {n : Nat} (h : ¬ (0 ≤ i ∧ i < (n : Int))) : inb i n = false := inb_f (by omega)
@[push_cast] theorem tnA (i : Nat) : ((i : Int) + 1).toNat = i + 1 := by omega
@[push_cast] theorem tnM (i : Nat) : ((i : Int) - 1).toNat = i - 1 := by omega
@[push_cast] theorem bneI (a b : Int) : (a != b) = !decide (a = b) := by
  by_cases h : a = b
  · subst h; simp
  · simp [h]
@[push_cast] theorem beqI (a b : Int) : (a == b) = decide (a = b) := by
  by_cases h : a = b
  · subst h; simp
  · simp [h]
attribute [push_cast] zek zbn
@[push_cast] theorem lenC {α : Type} (a : α) (l : List α) : (a :: l).length = l.length + 1 := Eq.trans rfl rfl
@[push_cast] theorem lenN {α : Type} : ([] : List α).length = 0 := Eq.trans rfl rfl
@[push_cast] theorem ifT {α : Type} (a b : α) : (if True then a else b) = a := if_pos trivial
@[push_cast] theorem ifF {α : Type} (a b : α) : (if False then a else b) = b := if_neg id
@[push_cast] theorem ftE : (false = true) = False := by simp
attribute [push_cast] eq_self
@[push_cast] theorem decT [Decidable True] : decide True = true := by simp
@[push_cast] theorem decF [Decidable False] : decide False = false := by simp
def nth {α : Type} (d : α) (l : List α) (i : Nat) : α := l.getD i d
theorem zft {α : Type} (d x : α) (l : List α) : nth d (x :: l) 0 = x := rfl
theorem zcq {α : Type} (d x : α) (l : List α) (i : Nat) : nth d (x :: l) (i + 1) = nth d l i := rfl
theorem zj {α : Type} (d : α) (l : List α) (i : Nat) (h : i < l.length) : nth d l i = l[i] := by
  unfold nth; rw [List.getD_eq_getElem?_getD, List.getElem?_eq_getElem h]; rfl
theorem zo7 {α : Type} {d : α} {l : List α} {i : Nat} (h : i < l.length) : l[i]? = some (nth d l i) := by
  rw [zj d l i h, List.getElem?_eq_getElem h]
theorem zh {α : Type} {l : List α} {i : Nat} {d : α} (h : i < l.length) : nth d l i ∈ l := by
  rw [zj d l i h]; exact List.getElem_mem h
theorem z8 {α : Type} {l : List α} {x : α} (d : α) (h : x ∈ l) : ∃ i, i < l.length ∧ nth d l i = x := by
  obtain ⟨i, h1, h2⟩ := List.mem_iff_getElem.1 h
  exact ⟨i, h1, by rw [zj d l i h1]; exact h2⟩
theorem zdy {α : Type} (d : α) {l : List α} {i : Nat} (h : i < l.length) : l.drop i = nth d l i :: l.drop (i + 1) := by
  rw [List.drop_eq_getElem_cons h, zj d l i h]
theorem zz {α : Type} (d : α) {l : List α} {i : Nat} (h : i < l.length) : l.take (i + 1) = l.take i ++ [nth d l i] := by
  rw [List.take_add_one, zo7 (d := d) h]; rfl
theorem zhp {α : Type} (f : α → List C) (d : α) (l : List α) (i o : Nat) (h : i < l.length) : rd (l.map f) i o = (f (nth d l i)).getD o (.i 0) := by
  rw [zgl f l i o h, zj d l i h]
theorem zfs {α : Type} (f : α → List C) (l : List α) (i o : Nat) (h : l.length ≤ i) : rd (l.map f) i o = .i 0 := by
  have : (l.map f).getD i [] = [] := by
    rw [List.getD_eq_getElem?_getD, List.getElem?_eq_none (by simpa using h)]; rfl
  unfold rd
  rw [this]; rfl
@[push_cast] theorem zsp (l : List Bs) (i : Nat) : (rd (encS l) i 0).str = nth .empty l i := by
  rcases Nat.lt_or_ge i l.length with h | h
  · rw [encS, zhp _ .empty _ _ _ h]; rfl
  · rw [encS, zfs _ _ _ _ h, nth, List.getD_eq_getElem?_getD, List.getElem?_eq_none h]; rfl
end KV
end
section

end
section
namespace KV
open Go Go.Eng
open Classical in
theorem zt {β : Type} {f : Nat → β} {P : Nat → Prop} {n : Nat} {T F : β} (step : ∀ i, i < n → (P i → f i = f (i + 1)) ∧ (¬ P i → f i = F)) (last : f n = T) :
    ∀ i, i ≤ n → f i = if (∀ j, i ≤ j → j < n → P j) then T else F := by
  intro i hi
  generalize hk : n - i = k
  induction k generalizing i with
  | zero =>
    have : i = n := by omega
    subst this
    rw [if_pos (fun j h1 h2 => absurd h2 (by omega)), last]
  | succ k ih =>
    have hlt : i < n := by omega
    by_cases h : P i
    · rw [(step i hlt).1 h, ih (i + 1) (by omega) (by omega)]
      by_cases h2 : ∀ j, i + 1 ≤ j → j < n → P j
      · rw [if_pos h2, if_pos fun j h3 h4 => by
          rcases Nat.eq_or_lt_of_le h3 with rfl | h5
          · exact h
          · exact h2 j h5 h4]
      · rw [if_neg h2, if_neg fun h3 => h2 fun j h4 h5 => h3 j (by omega) h5]
    · rw [(step i hlt).2 h, if_neg fun h3 => h (h3 i (Nat.le_refl _) hlt)]
theorem zhl {β σ : Type} {f : Nat → σ → β} {g : Nat → σ → σ} {n : Nat} (step : ∀ i s, i < n → f i s = f (i + 1) (g i s)) :
    ∀ i, i ≤ n → ∀ s, f i s = f n ((List.range' i (n - i)).foldl (fun s i => g i s) s) := by
  intro i hi
  generalize hk : n - i = k
  induction k generalizing i with
  | zero =>
    intro s
    have : i = n := by omega
    subst this; rfl
  | succ k ih =>
    intro s
    rw [step i s (by omega), ih (i + 1) (by omega) (by omega)]
    rfl
theorem zu {β σ : Type} {f : Nat → σ → β} {I : Nat → σ → Prop} {n : Nat} {T : β} (step : ∀ i s, i < n → I i s → ∃ s', f i s = f (i + 1) s' ∧ I (i + 1) s') (last : ∀ s, I n s → f n s = T) :
    ∀ i s, i ≤ n → I i s → f i s = T := by
  intro i s hi
  generalize hk : n - i = k
  induction k generalizing i s with
  | zero =>
    intro h
    have : i = n := by omega
    subst this; exact last s h
  | succ k ih =>
    intro h
    obtain ⟨s', h1, h2⟩ := step i s (by omega) h
    rw [h1]; exact ih (i + 1) s' (by omega) (by omega) h2
theorem zg5 {β σ : Type} {f : Nat → σ → β} {I : Nat → σ → Prop} {n : Nat} {T : β → Prop} (step : ∀ i s, i < n → I i s → (∃ s', f i s = f (i + 1) s' ∧ I (i + 1) s') ∨ T (f i s)) (last : ∀ s, I n s → T (f n s)) :
    ∀ i s, i ≤ n → I i s → T (f i s) := by
  intro i s hi
  generalize hk : n - i = k
  induction k generalizing i s with
  | zero =>
    intro h
    have : i = n := by omega
    subst this; exact last s h
  | succ k ih =>
    intro h
    rcases step i s (by omega) h with ⟨s', h1, h2⟩ | h1
    · rw [h1]; exact ih (i + 1) s' (by omega) (by omega) h2
    · exact h1
theorem zbm (xs ys : Rw) : bytesOf (xs ++ ys) = bytesOf xs ++ bytesOf ys := by
  apply Go.WideShapes.bytes_inj
  simp [bytesOf, ByteArray.data_append]
theorem zcl (s : Bs) : bytesOf (rowsOf s) = s := by
  apply Go.WideShapes.bytes_inj
  simp only [bytesOf, rowsOf, List.map_map]
  rw [show ((fun r : List C => UInt8.ofNat (r.getD 0 (.i 0)).int.toNat) ∘ fun b : UInt8 => [C.i (b.toNat : Int)]) = id from funext fun b => by simp only [Function.comp, List.getD_cons_zero, C.int, Int.toNat_natCast, UInt8.ofNat_toNat, id]]
  simp only [List.map_id, Array.toArray_toList]
theorem zb2 (xs : Rw) : (bytesOf xs).size = xs.length := by
  show (xs.map _).toArray.size = _
  simp only [List.size_toArray, List.length_map]
theorem zem (s : Bs) : (rowsOf s).length = s.size := by
  show (s.data.toList.map _).length = s.data.size
  simp only [List.length_map, Array.length_toList]
theorem zbf (s : Bs) (n : Nat) : 0 ≤ byteAt s n ∧ byteAt s n < 256 := by
  unfold byteAt
  generalize s.data.getD n 0 = b
  have := b.toNat_lt
  omega
theorem size_extract (s : Bs) (a b : Nat) : (s.extract a b).size = min b s.size - a := ByteArray.size_extract
theorem z7 (s t : Bs) : (s ++ t).size = s.size + t.size := ByteArray.size_append
end KV
end
section
namespace KV
open Go Go.Eng
open Classical
def zk (w : Int) : Bool := decide (1 ≤ w) && decide (w ≤ 8)
theorem zw {w : Int} : zk w = true ↔ 1 ≤ w ∧ w ≤ 8 := by simp [zk]
theorem zb0 (w : Int) : Lqbz none [.i w] = some [.b (zk w)] := by
  rw [eqbz_i]; unfold zk
  cases decide (1 ≤ w) <;> rfl
theorem zr (w : Int) : Lql none [.i w] = some [.b (zk w)] := by
  rw [eql_i]; unfold zk
  cases decide (1 ≤ w) <;> rfl
structure Thing where
  text : Bs
  refs : List Bs
def Asc (l : List Bs) : Prop := l.Pairwise fun a b => slt a b = true
theorem zrv (l : List Bs) : Asc l ↔ ∀ j, 0 < j → j < l.length → slt (nth .empty l (j - 1)) (nth .empty l j) = true := by
  induction l with
  | nil => exact ⟨fun _ j _ h => absurd h (by simp), fun _ => List.Pairwise.nil⟩
  | cons a l ih =>
    unfold Asc at ih ⊢
    rw [List.pairwise_cons, ih]
    constructor
    · rintro ⟨h1, h2⟩ j hj hl
      cases j with
      | zero => omega
      | succ j =>
        simp only [Nat.add_sub_cancel, zcq]
        cases j with
        | zero =>
          simp only [List.length_cons] at hl
          exact h1 _ (zh (by omega))
        | succ j =>
          simp only [zcq]
          simp only [List.length_cons] at hl
          exact h2 (j + 1) (by omega) (by omega)
    · intro h
      have h2 : ∀ j, 0 < j → j < l.length → slt (nth .empty l (j - 1)) (nth .empty l j) = true := fun j hj hl => by
        have := h (j + 1) (by omega) (by simp; omega)
        cases j with
        | zero => omega
        | succ j => simpa [zcq, zft] using this
      refine ⟨fun b hb => ?_, h2⟩
      obtain ⟨i, hi, rfl⟩ := z8 .empty hb
      clear hb
      induction i with
      | zero => have := h 1 (by omega) (by simp; omega); simpa [zcq, zft] using this
      | succ i ihi => exact zbh (ihi (by omega)) (h2 (i + 1) (by omega) hi)
structure ThingOk (t : Thing) (w : Int) : Prop where
  wd : 1 ≤ w ∧ w ≤ 8
  text : t.text.size ≤ 2000
  refs : t.refs.length ≤ 30
  size : ∀ r ∈ t.refs, (r.size : Int) = w
  asc : Asc t.refs
noncomputable def zy (t : Thing) (w : Int) : Bool := decide (ThingOk t w)
theorem zb4 {t : Thing} {w : Int} : zy t w = true ↔ ThingOk t w := by simp [zy]
def refP (l : List Bs) (w : Int) (j : Nat) : Prop := ((nth .empty l j).size : Int) = w ∧ (0 < j → slt (nth .empty l (j - 1)) (nth .empty l j) = true)
theorem zlm (l : List Bs) (w : Int) : (∀ j, 0 ≤ j → j < l.length → refP l w j) ↔ (∀ r ∈ l, (r.size : Int) = w) ∧ Asc l := by
  rw [zrv]
  constructor
  · intro h
    refine ⟨fun r hr => ?_, fun j h1 h2 => (h j (by omega) h2).2 h1⟩
    obtain ⟨i, hi, rfl⟩ := z8 .empty hr
    exact (h i (by omega) hi).1
  · rintro ⟨h1, h2⟩ j _ hj
    exact ⟨h1 _ (zh hj), fun h => h2 j h hj⟩
theorem zp5 (l : List Bs) (x : Bs) (w : Int) (hl : l.length ≤ 30) : ∀ i : Nat, i ≤ l.length →
    Lqbc (some 4) [.i w, .l (encS l), .i (l.length : Int), .i (i : Int), .s x, .l (encS l)] = if (∀ j, i ≤ j → j < l.length → refP l w j) then some [.b (zk w)] else some [.b false] := by
  refine zt (f := fun i : Nat => Lqbc (some 4) [.i w, .l (encS l), .i (l.length : Int), .i (i : Int), .s x, .l (encS l)]) (fun i hi => ?_) ?_
  · show (_ → Lqbc _ _ = _) ∧ (_ → Lqbc _ _ = _)
    rw [eqbc_4]
    unfold refP
    by_cases h0 : 0 < i <;> by_cases h1 : ((nth .empty l i).size : Int) = w <;> simp (disch := omega) only [push_cast]
    · cases slt (nth .empty l (i - 1)) (nth .empty l i) <;> simp [h0, h1]
    · simp [h1]
    · simp [h0, h1]
    · simp [h1]
  · show Lqbc _ _ = _
    rw [eqbc_4]; simp (disch := omega) only [push_cast, zb0]
theorem zc3 (t : Thing) (w : Int) : ThingOk t w ↔ zk w = true ∧ t.text.size ≤ 2000 ∧ t.refs.length ≤ 30 ∧ ∀ j, 0 ≤ j → j < t.refs.length → refP t.refs w j := by
  rw [zlm, zw]
  exact ⟨fun h => ⟨h.wd, h.text, h.refs, h.size, h.asc⟩, fun h => ⟨h.1, h.2.1, h.2.2.1, h.2.2.2.1, h.2.2.2.2⟩⟩
theorem zbq (t : Thing) (w : Int) : Lqbc none [.s t.text, .l (encS t.refs), .i w] = some [.b (zy t w)] := by
  rw [eqbc_i, zbn]
  by_cases h1 : t.text.size ≤ 2000
  · by_cases h2 : t.refs.length ≤ 30
    · rw [show decide ((2000 : Int) < (t.text.size : Int)) = false by simp; omega, show decide ((30 : Int) < (t.refs.length : Int)) = false by simp; omega]
      simp only [cond_false]
      have := zp5 t.refs t.text w h2 0 (Nat.zero_le _)
      rw [show ((0 : Nat) : Int) = 0 from rfl] at this
      rw [this]
      unfold zy
      by_cases h3 : ∀ j, 0 ≤ j → j < t.refs.length → refP t.refs w j
      · rw [if_pos h3]; congr 3
        cases hw : zk w
        · exact (decide_eq_false fun h => by rw [zc3, hw] at h; cases h.1).symm
        · exact (decide_eq_true ((zc3 t w).2 ⟨hw, h1, h2, h3⟩)).symm
      · rw [if_neg h3, decide_eq_false fun h => h3 ((zc3 t w).1 h).2.2.2]
    · rw [show decide ((2000 : Int) < (t.text.size : Int)) = false by simp; omega, show decide ((30 : Int) < (t.refs.length : Int)) = true by simp; omega]
      simp only [cond_false, cond_true]
      unfold zy
      rw [decide_eq_false fun h => h2 h.refs]
  · rw [show decide ((2000 : Int) < (t.text.size : Int)) = true by simp; omega]
    simp only [cond_true]
    unfold zy
    rw [decide_eq_false fun h => h1 h.text]
theorem zmm (l : List Bs) (x : Bs) (w : Int) (hl : l.length ≤ 30) : ∀ i : Nat, i ≤ l.length →
    Lqx (some 4) [.i w, .i (i : Int), .s x, .l (encS l)] = if (∀ j, i ≤ j → j < l.length → refP l w j) then some [.b true] else some [.b false] := by
  refine zt (f := fun i : Nat => Lqx (some 4) [.i w, .i (i : Int), .s x, .l (encS l)]) (fun i hi => ?_) ?_
  · show (_ → Lqx _ _ = _) ∧ (_ → Lqx _ _ = _)
    rw [eqx_4]
    unfold refP
    by_cases h0 : 0 < i <;> by_cases h1 : ((nth .empty l i).size : Int) = w <;> simp (disch := omega) only [push_cast]
    · cases slt (nth .empty l (i - 1)) (nth .empty l i) <;> simp [h0, h1]
    · simp [h1]
    · simp [h0, h1]
    · simp [h1]
  · show Lqx _ _ = _
    rw [eqx_4]; simp (disch := omega) only [push_cast]
theorem zce (t : Thing) (w : Int) : Lqx none [.s t.text, .l (encS t.refs), .i w] = some [.b (zy t w)] := by
  rw [eqx_i, zr, zbn]
  simp only [Option.bind_some, g, List.getD_cons_zero, Lf.bool]
  unfold zy
  cases hw : zk w
  · simp (disch := omega) only [push_cast]; rw [decide_eq_false (p := ThingOk t w) fun h => by rw [zc3, hw] at h; cases h.1]
  by_cases h1 : t.text.size ≤ 2000
  · by_cases h2 : t.refs.length ≤ 30
    · rw [show decide ((2000 : Int) < (t.text.size : Int)) = false by simp; omega, show decide ((30 : Int) < (t.refs.length : Int)) = false by simp; omega]
      simp only [cond_false, Bool.not_true]
      have := zmm t.refs t.text w h2 0 (Nat.zero_le _)
      rw [show ((0 : Nat) : Int) = 0 from rfl] at this
      rw [this]
      by_cases h3 : ∀ j, 0 ≤ j → j < t.refs.length → refP t.refs w j
      · rw [if_pos h3, decide_eq_true ((zc3 t w).2 ⟨hw, h1, h2, h3⟩)]
      · rw [if_neg h3, decide_eq_false fun h => h3 ((zc3 t w).1 h).2.2.2]
    · rw [show decide ((2000 : Int) < (t.text.size : Int)) = false by simp; omega, show decide ((30 : Int) < (t.refs.length : Int)) = true by simp; omega]
      simp only [cond_false, cond_true, Bool.not_true]
      rw [decide_eq_false fun h => h2 h.refs]
  · rw [show decide ((2000 : Int) < (t.text.size : Int)) = true by simp; omega]
    simp only [cond_true, cond_false, Bool.not_true]
    rw [decide_eq_false fun h => h1 h.text]
theorem zgn (n : Int) : IntKind.u64.wrap n = n % 18446744073709551616 := by simp [IntKind.wrap, IntKind.bits, IntKind.signed]
def step1 (h b : Int) : Int := IntKind.u64.wrap ((IntKind.u64.wrap (BitVec.ofInt (IntKind.u64).bits h ^^^ BitVec.ofInt (IntKind.u64).bits (IntKind.u64.wrap b)).toNat) * 1099511628211)
def hash (s : Bs) : Int := (List.range' 0 s.size).foldl (fun h i => step1 h (byteAt s i)) 14695981039346656037
def digs : Nat → Int → List Int
  | 0, _ => []
  | n + 1, h => digs n (h / 256) ++ [h % 256]
theorem zis : ∀ n h, (digs n h).length = n
  | 0, _ => rfl
  | n + 1, h => by simp [digs, zis n]
def rowI (l : List Int) : Rw := l.map fun d => [.i d]
noncomputable def sumM (s : Bs) (w : Int) : Bs := if zk w = true then bytesOf (rowI (digs w.toNat (hash s))) else ⟨#[]⟩
theorem zg4 {s : Bs} {w : Int} (h : zk w = true) : ((sumM s w).size : Int) = w := by
  rw [sumM, if_pos h, zb2, rowI, List.length_map, zis]
  have := zw.1 h; omega
theorem znx (n : Int) : 0 ≤ IntKind.u64.wrap n ∧ IntKind.u64.wrap n < 18446744073709551616 := by rw [zgn]; omega
theorem zj9 (s : Bs) : 0 ≤ hash s ∧ hash s < 18446744073709551616 := by
  unfold hash
  generalize List.range' 0 s.size = l
  have : ∀ (l : List Nat) (h : Int), (0 ≤ h ∧ h < 18446744073709551616) → 0 ≤ l.foldl (fun h i => step1 h (byteAt s i)) h ∧ l.foldl (fun h i => step1 h (byteAt s i)) h < 18446744073709551616 := by
    intro l
    induction l with
    | nil => exact fun h hh => hh
    | cons a l ih => exact fun h _ => ih _ (znx _)
  exact this l _ (by omega)
theorem wrI (l : List Int) (i : Nat) (d : Int) (h : i < l.length) : wrs (rowI l) i 0 [.i d] = rowI (l.set i d) := by
  unfold wrs wrs wr rowI
  rw [List.map_set]
  congr 1
  have : (l.map fun d => [C.i d]).getD i [] = [.i l[i]] := by simp [List.getD_eq_getElem?_getD, h]
  rw [this]; rfl
theorem zsl (n : Nat) : ∀ (h : Int) (l r : List Int), 0 ≤ h → h < 18446744073709551616 → l.length = n → n + r.length ≤ 8 →
    Lq3 (some 12) [.i h, .i ((n : Int) - 1), .l (rowI (l ++ r))] = some [.s (bytesOf (rowI (digs n h ++ r)))] := by
  induction n with
  | zero =>
    intro h l r h0 h1 hl hr
    rw [eq3_12]
    have : l = [] := List.eq_nil_of_length_eq_zero hl
    subst this
    simp (disch := omega) only [push_cast] <;> rfl
  | succ n ih =>
    intro h l r h0 h1 hl hr
    rw [eq3_12]
    have hlen : (rowI (l ++ r)).length = n + 1 + r.length := by simp [rowI, hl]
    have e : ((n + 1 : Nat) : Int) - 1 = (n : Int) := by omega
    rw [e, hlen]
    have hu : IntKind.u8.wrap h = h % 256 := by rw [IntKind.wrap_u8]
    simp (disch := omega) only [push_cast, wrI]
    rw [hu, wrI _ _ _ (by simp [hl]; omega)]
    have hset : (l ++ r).set n (h % 256) = l.take n ++ (h % 256 :: r) := by
      rw [List.set_append_left _ _ (by omega)]
      have : l = l.take n ++ [l[n]] := by
        conv => lhs; rw [← List.take_append_drop n l, List.drop_eq_getElem_cons (by omega), List.drop_of_length_le (by omega)]
      conv => lhs; rw [this]
      rw [List.set_append_right _ _ (by simp; omega)]
      simp [hl]
    rw [hset]
    have hf : h.fdiv (2 ^ 8) = h / 256 := by rw [Int.fdiv_eq_ediv_of_nonneg _ (by omega)]; rfl
    rw [hf, ih (h / 256) (l.take n) (h % 256 :: r) (by omega) (by omega) (by simp [hl]) (by simp; omega)]
    simp [digs]
theorem zbw (s : Bs) (w : Int) (hs : s.size ≤ 1099511627776) : Lq3 none [.s s, .i w] = some [.s (sumM s w)] := by
  rw [eq3_i, zb0]
  unfold sumM
  cases hw : zk w
  · simp (disch := omega) only [push_cast] <;> rfl
  · simp (disch := omega) only [push_cast]
    have := zhl (f := fun (i : Nat) (h : Int) => Lq3 (some 5) [.s s, .i w, .i h, .i (s.size : Int), .i (i : Int)]) (g := fun i h => step1 h (byteAt s i)) (n := s.size) (fun i h hi => by
      show Lq3 _ _ = Lq3 _ _
      rw [eq3_5]; simp (disch := omega) only [push_cast] <;> rfl) 0 (Nat.zero_le _) 14695981039346656037
    rw [show ((0 : Nat) : Int) = 0 from rfl] at this
    rw [this, Nat.sub_zero, show (List.range' 0 s.size).foldl (fun h i => step1 h (byteAt s i)) 14695981039346656037 = hash s from rfl, eq3_5]
    have h8 := zw.1 hw
    have hr := zj9 s
    have hm : (most : Int) = 1099511627776 := rfl
    obtain ⟨n, rfl⟩ : ∃ n : Nat, w = (n : Int) := ⟨w.toNat, by omega⟩
    simp (disch := omega) only [push_cast, hm]
    have h12 := zsl n (hash s) (List.replicate n 0) [] hr.1 hr.2 (by simp) (by simp; omega)
    rw [List.append_nil, List.append_nil, show rowI (List.replicate n 0) = List.replicate n [C.i 0] by simp [rowI]] at h12
    exact h12
theorem zlz (n : Nat) : ∀ (h : Int) (r : List Int) (w : Nat), 0 ≤ h → h < 18446744073709551616 → r.length + n = w → w ≤ 8 →
    Lqh (some 10) [.i (w : Int), .i h, .i (r.length : Int), .l (rowI r)] = some [.s (bytesOf (rowI (digs n h ++ r)))] := by
  induction n with
  | zero =>
    intro h r w h0 h1 hr hw
    rw [eqh_10]
    simp (disch := omega) only [push_cast] <;> rfl
  | succ n ih =>
    intro h r w h0 h1 hr hw
    rw [eqh_10]
    have hm : most = 1099511627776 := rfl
    have hlen : (rowI r).length = r.length := by simp [rowI]
    have hu : IntKind.u8.wrap (h.tmod 256) = h % 256 := by rw [Int.tmod_eq_emod_of_nonneg h0, w8 (by omega)]
    have hq : IntKind.u64.wrap (h.tdiv 256) = h / 256 := by rw [Int.tdiv_eq_ediv_of_nonneg h0, zgn]; omega
    rw [hu, hq]
    simp (disch := omega) only [push_cast, List.length_cons, List.length_nil, hm, hlen]
    have := ih (h / 256) (h % 256 :: r) w (by omega) (by omega) (by simp; omega) hw
    simp only [List.length_cons] at this
    rw [show ([[C.i (h % 256)]] : Rw) ++ rowI r = rowI (h % 256 :: r) from rfl, show ((r.length : Int) + 1) = ((r.length + 1 : Nat) : Int) by omega, this]
    simp [digs]
theorem zck (s : Bs) (w : Int) (hs : s.size ≤ 1099511627776) : Lqh none [.s s, .i w] = some [.s (sumM s w)] := by
  rw [eqh_i, zr]
  unfold sumM
  cases hw : zk w
  · simp (disch := omega) only [push_cast] <;> rfl
  · simp (disch := omega) only [push_cast]
    have := zhl (f := fun (i : Nat) (h : Int) => Lqh (some 5) [.s s, .i w, .i h, .i (i : Int)]) (g := fun i h => step1 h (byteAt s i)) (n := s.size) (fun i h hi => by
      show Lqh _ _ = Lqh _ _
      rw [eqh_5]; simp (disch := omega) only [push_cast] <;> rfl) 0 (Nat.zero_le _) 14695981039346656037
    rw [show ((0 : Nat) : Int) = 0 from rfl] at this
    rw [this, Nat.sub_zero, show (List.range' 0 s.size).foldl (fun h i => step1 h (byteAt s i)) 14695981039346656037 = hash s from rfl, eqh_5]
    have h8 := zw.1 hw
    have hr := zj9 s
    obtain ⟨n, rfl⟩ : ∃ n : Nat, w = (n : Int) := ⟨w.toNat, by omega⟩
    simp (disch := omega) only [push_cast]
    have := zlz n (hash s) [] n hr.1 hr.2 (by simp) (by omega)
    rw [List.append_nil] at this
    exact this
end KV
end
section
namespace KV
open Go Go.Eng
open Classical
theorem mostE : most = 1099511627776 := rfl
theorem zo5 (l : Rw) (h : l.length ≤ 1099511627776) : Lqcy none [.l l] = some [.l l] := by
  rw [eqcy_i, mostE]; simp (disch := omega) only [push_cast]
theorem ze6 (x : Bs) (l : Rw) (h : l.length ≤ 1099511627776) : Lqbh none [.s x, .l l] = some [.s x, .l l] := by
  rw [eqbh_i, mostE]; simp (disch := omega) only [push_cast, List.length_nil, List.nil_append]
def szs (l : List Bs) : Nat := (l.map (·.size)).sum
theorem zd4 (a : Bs) (l : List Bs) : szs (a :: l) = a.size + szs l := rfl
theorem zkp (l m : List Bs) : szs (l ++ m) = szs l + szs m := by simp [szs]
theorem zhw (l : List Bs) (i : Nat) : szs (l.take i) ≤ szs l := by
  conv => rhs; rw [← List.take_append_drop i l, zkp]
  omega
def hd (n : Nat) : Bs := bytesOf [[.i (IntKind.u8.wrap (n : Int))]]
theorem zcg (n : Nat) : (hd n).size = 1 := by rw [hd, zb2]; rfl
def cat (a : Bs) (l : List Bs) : Bs := l.foldl (· ++ ·) a
theorem zc0 (l : List Bs) : ∀ a, (cat a l).size = a.size + szs l := by
  induction l with
  | nil => intro a; rfl
  | cons x l ih => intro a; show (cat (a ++ x) l).size = _; rw [ih, z7, zd4]; omega
theorem zeo (a : Bs) (l : List Bs) (i : Nat) (h : i < l.length) : cat a (l.take (i + 1)) = cat a (l.take i) ++ nth .empty l i := by
  unfold cat; rw [zz .empty h, List.foldl_append]; rfl
def formM (t : Thing) : Bs := cat (hd t.refs.length) t.refs ++ t.text
theorem zbo (t : Thing) : (formM t).size = 1 + szs t.refs + t.text.size := by rw [formM, z7, zc0, zcg]
theorem zkz (t : Thing) (h : 1 + szs t.refs + t.text.size ≤ 1099511627776) (hl : t.refs.length ≤ 4611686018427387904) : Lq5 none [.s t.text, .l (encS t.refs)] = some [.s (formM t)] := by
  rw [eq5_i]
  have := zu (f := fun (i : Nat) (a : Bs) => Lq5 (some 3) [.s a, .l (encS t.refs), .i (t.refs.length : Int), .i (i : Int), .s t.text, .l (encS t.refs)]) (n := t.refs.length) (T := some [.s (formM t)])
    (I := fun i a => a = cat (hd t.refs.length) (t.refs.take i)) (fun i a hi hI => ⟨_, by
      show Lq5 _ _ = Lq5 _ _
      rw [eq5_3, mostE]
      have : a.size + (nth .empty t.refs i).size ≤ 1 + szs t.refs := by
        rw [hI, ← z7, ← zeo _ _ _ hi, zc0, zcg]
        have := zhw t.refs (i + 1); omega
      simp (disch := omega) only [push_cast] <;> rfl, by show _ = _; rw [hI, zeo _ _ _ hi]⟩) (fun a hI => by
      show Lq5 _ _ = _
      have : a.size + t.text.size ≤ 1099511627776 := by rw [hI, List.take_length, zc0, zcg]; omega
      rw [eq5_3, mostE]; simp (disch := omega) only [push_cast]
      rw [hI, List.take_length]; rfl) 0 (hd t.refs.length) (Nat.zero_le _) rfl
  rw [zbn]; exact this
theorem zbk {t : Thing} {w : Int} (h : ThingOk t w) : 1 + szs t.refs + t.text.size ≤ 2241 ∧ t.refs.length ≤ 30 := by
  have h1 := h.refs; have h2 := h.text; have h3 := h.wd
  have : ∀ l : List Bs, (∀ r ∈ l, (r.size : Int) = w) → szs l ≤ 8 * l.length := by
    intro l
    induction l with
    | nil => intro _; simp [szs]
    | cons a l ih => intro hl; rw [zd4, List.length_cons]; have := hl a (by simp); have := ih fun r hr => hl r (by simp [hr]); omega
  have := this _ h.size
  omega
theorem zbz {t : Thing} {w : Int} (h : ThingOk t w) : Lq5 none [.s t.text, .l (encS t.refs)] = some [.s (formM t)] := by
  have := zbk h
  exact zkz t (by omega) (by omega)
noncomputable def formT (t : Thing) (w : Int) : Bs := if zy t w = true then formM t else ⟨#[]⟩
theorem zb8 (t : Thing) (w : Int) : Lqm none [.s t.text, .l (encS t.refs), .i w] = some [.s (formT t w)] := by
  rw [eqm_i, zce]
  unfold formT
  cases ht : zy t w
  · simp (disch := omega) only [push_cast] <;> rfl
  · simp (disch := omega) only [push_cast]
    have hk := zbk (zb4.1 ht)
    have := zu (f := fun (i : Nat) (a : Rw) => Lqm (some 5) [.i (i : Int), .s t.text, .l (encS t.refs), .l a]) (n := t.refs.length) (T := some [.s (formM t)])
      (I := fun i a => bytesOf a = cat (hd t.refs.length) (t.refs.take i)) (fun i a hi hI => ⟨_, by
        show Lqm _ _ = Lqm _ _
        rw [eqm_5, mostE]
        have : a.length + (nth .empty t.refs i).size ≤ 1 + szs t.refs := by
          rw [← zb2, hI, ← z7, ← zeo _ _ _ hi, zc0, zcg]
          have := zhw t.refs (i + 1); omega
        simp (disch := omega) only [push_cast, zem] <;> rfl, by show _ = _; rw [zbm, zcl, hI, zeo _ _ _ hi]⟩) (fun a hI => by
        show Lqm _ _ = _
        have : a.length + t.text.size ≤ 1099511627776 := by rw [← zb2, hI, List.take_length, zc0, zcg]; omega
        rw [eqm_5, mostE]; simp (disch := omega) only [push_cast, zem]
        rw [zbm, zcl, hI, List.take_length]; rfl) 0 [[.i (IntKind.u8.wrap (t.refs.length : Int))]] (Nat.zero_le _) rfl
    exact this
def chunk (s : Bs) (w i : Nat) : Bs := s.extract (1 + i * w) (1 + i * w + w)
def parts (s : Bs) (w : Nat) : Thing := ⟨s.extract (1 + (byteAt s 0).toNat * w) s.size, (List.range (byteAt s 0).toNat).map (chunk s w)⟩
noncomputable def readT (s : Bs) (w : Int) : Option Thing :=
  if zk w = true ∧ 1 ≤ s.size ∧ 1 + (byteAt s 0).toNat * w.toNat ≤ s.size then (if zy (parts s w.toNat) w = true then some (parts s w.toNat) else none) else none
theorem zph {s : Bs} {w : Int} (h : zk w = false) : readT s w = none := by unfold readT; rw [if_neg fun h1 => by rw [h] at h1; cases h1.1]
theorem znc {s : Bs} {w : Int} (h : ¬ 1 ≤ s.size) : readT s w = none := by unfold readT; rw [if_neg fun h1 => h h1.2.1]
theorem zpu {s : Bs} {n k : Nat} (hk : byteAt s 0 = (k : Int)) (h : ¬ 1 + k * n ≤ s.size) : readT s n = none := by
  unfold readT; rw [if_neg fun h1 => h (by have := h1.2.2; rw [hk] at this; exact this)]
theorem zh3 {s : Bs} {n k : Nat} (hw : zk (n : Int) = true) (h0 : 1 ≤ s.size) (hk : byteAt s 0 = (k : Int)) (h : 1 + k * n ≤ s.size) :
    readT s n = if zy (parts s n) (n : Int) = true then some (parts s n) else none := by
  unfold readT; rw [if_pos ⟨hw, h0, by rw [hk]; exact h⟩]; rfl
def encOT : Option Thing → Lv
  | none => [.s ⟨#[]⟩, .b false, .l []]
  | some t => [.s t.text, .b true, .l (encS t.refs)]
theorem zrc {b n : Nat} (hb : b ≤ 255) (hn : n ≤ 8) : b * n ≤ 2040 := by
  calc b * n ≤ 255 * 8 := Nat.mul_le_mul hb hn
    _ = 2040 := rfl
theorem zin {α : Type} (f : Nat → α) (i : Nat) : (List.range (i + 1)).map f = (List.range i).map f ++ [f i] := by rw [List.range_succ, List.map_append]; rfl
theorem zm7 (s : Bs) (w : Int) (hs : s.size ≤ 1099511627776) : Lqbs none [.s s, .i w] = some (encOT (readT s w)) := by
  rw [eqbs_i, zr]
  cases hw : zk w
  · simp (disch := omega) only [push_cast, zph hw] <;> rfl
  have h8 := zw.1 hw
  obtain ⟨n, rfl⟩ : ∃ n : Nat, w = (n : Int) := ⟨w.toNat, by omega⟩
  have hb := zbf s 0
  obtain ⟨k, hk⟩ : ∃ k : Nat, byteAt s 0 = (k : Int) := ⟨(byteAt s 0).toNat, by omega⟩
  by_cases h0 : 1 ≤ s.size
  · have hkn := zrc (b := k) (n := n) (by omega) (by omega)
    rw [hk]
    have hc : ((k : Int) * (n : Int)) = ((k * n : Nat) : Int) := by rw [Int.natCast_mul]
    generalize hq : k * n = q at hkn hc
    by_cases h1 : 1 + q ≤ s.size
    · simp (disch := omega) only [push_cast, hc]
      have := zu (f := fun (i : Nat) (a : List Bs) => Lqbs (some 6) [.s s, .i (n : Int), .i (k : Int), .i (i : Int), .s ⟨#[]⟩, .s (s.extract (1 + q) s.size), .l [], .l (encS a)]) (n := k) (T := some (encOT (if zy (parts s n) (n : Int) = true then some (parts s n) else none)))
        (I := fun i a => a = (List.range i).map (chunk s n)) (fun i a hi hI => by
          have hin : i * n + n ≤ q := by rw [← hq, ← Nat.succ_mul]; exact Nat.mul_le_mul_right n hi
          have hl2 : a.length = i := by rw [hI]; simp
          have hc2 : ((i : Int) * (n : Int)) = ((i * n : Nat) : Int) := by rw [Int.natCast_mul]
          generalize hr : i * n = r at hin hc2
          refine ⟨a ++ [chunk s n i], ?_, ?_⟩
          · show Lqbs _ _ = Lqbs _ _
            rw [eqbs_6, mostE, ← zp]
            have t1 : ((1 : Int) + (r : Int)).toNat = 1 + r := by omega
            have t2 : ((1 : Int) + (r : Int) + (n : Int)).toNat = 1 + r + n := by omega
            have hch : chunk s n i = s.extract (1 + r) (1 + r + n) := by unfold chunk; rw [hr]
            rw [hch]
            simp (disch := omega) only [push_cast, hc2, List.length_cons, List.length_nil, t1, t2] <;> rfl
          · show _ = _
            rw [zin, hI]) (fun a hI => by
          show Lqbs _ _ = _
          rw [eqbs_6]
          have e1 : s.extract (1 + q) s.size = (parts s n).text := by unfold parts; rw [hk]; show _ = s.extract (1 + k * n) s.size; rw [hq]
          have e2 : a = (parts s n).refs := by rw [hI]; unfold parts; rw [hk]; rfl
          rw [e1, e2]
          simp (disch := omega) only [push_cast, zce]
          cases zy (parts s n) (n : Int) <;> rfl) 0 [] (Nat.zero_le _) rfl
      rw [zh3 hw h0 hk (by rw [hq]; exact h1)]
      rw [show ((1 : Int) + (q : Int)).toNat = 1 + q by omega]
      exact this
    · simp (disch := omega) only [push_cast, hc, zpu (n := n) hk (by rw [hq]; exact h1)] <;> rfl
  · simp (disch := omega) only [push_cast, znc h0] <;> rfl
end KV
end
section
namespace KV
open Go Go.Eng
open Classical
structure Entry where
  kind : Int
  sum : Bs
  name : Bs
  number : Int
  thing : Thing
abbrev E0 : Bs := ⟨#[]⟩
def encE (e : Entry) : Lv := [.i e.kind, .s e.sum, .s e.name, .i e.number, .s e.thing.text, .l (encS e.thing.refs)]
structure NameOk (s : Bs) : Prop where
  lo : 1 ≤ s.size
  hi : s.size ≤ 40
  by_ : ∀ j, 0 ≤ j → j < s.size → 33 ≤ byteAt s j ∧ byteAt s j ≤ 126
noncomputable def nameB (s : Bs) : Bool := decide (NameOk s)
theorem zk0 {s : Bs} : nameB s = true ↔ NameOk s := by simp [nameB]
theorem zjn (s : Bs) : (if (∀ j, 0 ≤ j → j < s.size → 33 ≤ byteAt s j ∧ byteAt s j ≤ 126) then cond (decide (1 ≤ (s.size : Int))) (some [Lf.b (decide ((s.size : Int) ≤ 40))]) (some [.b false]) else some [.b false]) = some [.b (nameB s)] := by
  unfold nameB
  by_cases h : ∀ j, 0 ≤ j → j < s.size → 33 ≤ byteAt s j ∧ byteAt s j ≤ 126
  · rw [if_pos h]
    by_cases h1 : 1 ≤ s.size
    · rw [show decide (1 ≤ (s.size : Int)) = true by simp; omega]
      by_cases h2 : s.size ≤ 40
      · rw [decide_eq_true (p := NameOk s) ⟨h1, h2, h⟩, show decide ((s.size : Int) ≤ 40) = true by simp; omega]; rfl
      · rw [decide_eq_false (p := NameOk s) fun h => h2 h.hi, show decide ((s.size : Int) ≤ 40) = false by simp; omega]; rfl
    · rw [decide_eq_false (p := NameOk s) fun h => h1 h.lo, show decide (1 ≤ (s.size : Int)) = false by simp; omega]; rfl
  · rw [if_neg h, decide_eq_false (p := NameOk s) fun h1 => h h1.by_]
theorem znv (s : Bs) (hs : s.size ≤ 4611686018427387904) : Lqbp none [.s s] = some [.b (nameB s)] := by
  rw [eqbp_i]
  have := zt (f := fun i : Nat => Lqbp (some 2) [.s s, .i (s.size : Int), .i (i : Int)]) (n := s.size) (P := fun j => 33 ≤ byteAt s j ∧ byteAt s j ≤ 126) (F := some [.b false])
    (T := cond (decide (1 ≤ (s.size : Int))) (some [Lf.b (decide ((s.size : Int) ≤ 40))]) (some [.b false])) (fun i hi => by
      show (_ → Lqbp _ _ = _) ∧ (_ → Lqbp _ _ = _)
      rw [eqbp_2]
      by_cases h1 : 33 ≤ byteAt s i <;> by_cases h2 : byteAt s i ≤ 126 <;> simp (disch := omega) only [push_cast] <;> simp [h1, h2]) (by
      show Lqbp _ _ = _
      rw [eqbp_2, dlt_f (Nat.le_refl _)]; rfl) 0 (Nat.zero_le _)
  rw [zjn] at this
  exact this
theorem zh0 (s : Bs) (hs : s.size ≤ 4611686018427387904) : Lq9 none [.s s] = some [.b (nameB s)] := by
  rw [eq9_i]
  have := zt (f := fun i : Nat => Lq9 (some 2) [.s s, .i (i : Int)]) (n := s.size) (P := fun j => 33 ≤ byteAt s j ∧ byteAt s j ≤ 126) (F := some [.b false])
    (T := cond (decide (1 ≤ (s.size : Int))) (some [Lf.b (decide ((s.size : Int) ≤ 40))]) (some [.b false])) (fun i hi => by
      show (_ → Lq9 _ _ = _) ∧ (_ → Lq9 _ _ = _)
      rw [eq9_2]
      by_cases h1 : 33 ≤ byteAt s i <;> by_cases h2 : byteAt s i ≤ 126 <;> simp (disch := omega) only [push_cast] <;> simp [h1, h2]) (by
      show Lq9 _ _ = _
      rw [eq9_2, dlt_f (Nat.le_refl _)]; rfl) 0 (Nat.zero_le _)
  rw [zjn] at this
  exact this
def uS (k : Int) : Bool := decide (k = 2 ∨ k = 4 ∨ k = 7)
def uN (k : Int) : Bool := decide (k = 2 ∨ k = 3)
noncomputable def sumB (k : Int) (s : Bs) (w : Int) : Bool := if uS k = true then decide ((s.size : Int) = w) else decide (s = E0)
noncomputable def namB (k : Int) (n : Bs) : Bool := if uN k = true then nameB n else decide (n = E0)
def numB (k m : Int) : Bool := if k = 1 ∨ k = 4 ∨ k = 6 then decide (1 ≤ m ∧ m ≤ 100000) else if k = 5 then decide (1 ≤ m ∧ m ≤ 1000000000) else decide (m = 0)
noncomputable def thgB (k : Int) (t : Thing) (w : Int) : Bool := if k = 1 then zy t w else decide (t.text = E0) && decide (t.refs.length = 0)
noncomputable def zi (e : Entry) (w : Int) : Bool := decide (1 ≤ e.kind ∧ e.kind ≤ 7) && (zk w && (sumB e.kind e.sum w && (namB e.kind e.name && (numB e.kind e.number && thgB e.kind e.thing w))))
theorem zpw (w k m : Int) (s n : Bs) (t : Thing) (b : Bool) (hb : b = decide (k = 1)) : Lqp (some 8) [.i w, .b b, .i k, .s s, .s n, .i m, .s t.text, .l (encS t.refs)] = some [.b (thgB k t w)] := by
  subst hb
  rw [eqp_8]; unfold thgB
  by_cases h : k = 1
  · simp (disch := omega) only [push_cast, zce, if_pos h]
  · simp (disch := omega) only [push_cast, if_neg h]
    by_cases h4 : t.text = E0
    · rw [cpos h4]; simp [h4]
    · rw [cneg h4]; simp [h4]
theorem zoa (w k m : Int) (s n : Bs) (t : Thing) (a b : Bool) (ha : a = uN k) (hb : b = decide (k = 1)) (hn : n.size ≤ 4611686018427387904) :
    Lqp (some 6) [.i w, .b a, .b b, .i k, .s s, .s n, .i m, .s t.text, .l (encS t.refs)] = some [.b (namB k n && thgB k t w)] := by
  subst ha
  rw [eqp_6, zh0 n hn, zpw w k m s n t b hb]; unfold namB
  cases hu : uN k
  · simp (disch := omega) only [push_cast]
    by_cases h : n = E0
    · rw [cpos h]; simp [h]
    · rw [cneg h]; simp [h]
  · cases nameB n
    · simp (disch := omega) only [push_cast] <;> simp
    · simp (disch := omega) only [push_cast] <;> simp
theorem zpp (m u : Int) : Lqb7 none [.i m, .i u] = some [.b (if u = 1 then decide (1 ≤ m ∧ m ≤ 100000) else if u = 2 then decide (1 ≤ m ∧ m ≤ 1000000000) else decide (m = 0))] := by
  rw [eqb7_i]
  by_cases h1 : u = 1
  · subst h1; simp (disch := omega) only [push_cast]
    by_cases h : 1 ≤ m
    · simp (disch := omega) only [push_cast] <;> simp [h]
    · simp (disch := omega) only [push_cast] <;> simp [h]
  · by_cases h2 : u = 2
    · subst h2; simp (disch := omega) only [push_cast]
      by_cases h : 1 ≤ m
      · simp (disch := omega) only [push_cast] <;> simp [h]
      · simp (disch := omega) only [push_cast] <;> simp [h]
    · simp (disch := omega) only [push_cast] <;> simp [h1, h2]
def nU (k : Int) : Int := if k = 1 ∨ k = 4 ∨ k = 6 then 1 else if k = 5 then 2 else 0
theorem zmc (k : Int) (hk : 1 ≤ k ∧ k ≤ 7) : Lqct none [.i k] = some [.b (uS k), .b (uN k), .i (nU k), .b (decide (k = 1))] := by
  rw [eqct_i]
  have : k = 1 ∨ k = 2 ∨ k = 3 ∨ k = 4 ∨ k = 5 ∨ k = 6 ∨ k = 7 := by omega
  rcases this with h | h | h | h | h | h | h <;> rw [h] <;> rfl
theorem zsd (k m : Int) (hk : 1 ≤ k ∧ k ≤ 7) : Lqb7 none [.i m, .i (nU k)] = some [.b (numB k m)] := by
  rw [zpp]
  have : k = 1 ∨ k = 2 ∨ k = 3 ∨ k = 4 ∨ k = 5 ∨ k = 6 ∨ k = 7 := by omega
  rcases this with h | h | h | h | h | h | h <;> rw [h] <;> rfl
theorem zgc (e : Entry) (w : Int) (hn : e.name.size ≤ 4611686018427387904) : Lqp none (encE e ++ [.i w]) = some [.b (zi e w)] := by
  show Lqp none [.i e.kind, .s e.sum, .s e.name, .i e.number, .s e.thing.text, .l (encS e.thing.refs), .i w] = _
  rw [eqp_i, zr]; unfold zi
  cases zk w
  · simp (disch := omega) only [push_cast] <;> simp
  by_cases h1 : 1 ≤ e.kind
  · by_cases h7 : e.kind ≤ 7
    · rw [decide_eq_true (show 1 ≤ e.kind ∧ e.kind ≤ 7 from ⟨h1, h7⟩), Bool.true_and, Bool.true_and]
      simp (disch := omega) only [push_cast, zmc e.kind ⟨h1, h7⟩, zsd e.kind e.number ⟨h1, h7⟩, zoa w e.kind e.number e.sum e.name e.thing _ _ rfl rfl hn]
      unfold sumB
      cases hus : uS e.kind
      · by_cases h : e.sum = E0
        · cases numB e.kind e.number <;> simp (disch := omega) only [push_cast] <;> simp [h]
        · simp (disch := omega) only [push_cast] <;> simp [h]
      · by_cases h : (e.sum.size : Int) = w
        · cases numB e.kind e.number <;> simp (disch := omega) only [push_cast] <;> simp [h]
        · simp (disch := omega) only [push_cast] <;> simp [h]
    · simp (disch := omega) only [push_cast]; rw [decide_eq_false fun h => h7 h.2]; rfl
  · simp (disch := omega) only [push_cast]; rw [decide_eq_false fun h => h1 h.1]; rfl
end KV
end
section
namespace KV
open Go Go.Eng
open Classical
theorem EntryOk.kd {e : Entry} {w : Int} (h : zi e w = true) : 1 ≤ e.kind ∧ e.kind ≤ 7 := by
  unfold zi at h; simp only [Bool.and_eq_true, decide_eq_true_eq] at h; exact h.1
theorem EntryOk.wd {e : Entry} {w : Int} (h : zi e w = true) : zk w = true := by
  unfold zi at h; simp only [Bool.and_eq_true, decide_eq_true_eq] at h; exact h.2.1
theorem EntryOk.nm {e : Entry} {w : Int} (h : zi e w = true) : e.name.size ≤ 40 := by
  unfold zi namB at h; simp only [Bool.and_eq_true, decide_eq_true_eq] at h
  have := h.2.2.2.1
  split at this
  · exact (zk0.1 this).hi
  · have := of_decide_eq_true this; rw [this]; decide
theorem EntryOk.num {e : Entry} {w : Int} (h : zi e w = true) : 0 ≤ e.number ∧ e.number ≤ 1000000000 := by
  unfold zi numB at h; simp only [Bool.and_eq_true, decide_eq_true_eq] at h
  have := h.2.2.2.2.1
  split at this
  · have := of_decide_eq_true this; omega
  · split at this
    · have := of_decide_eq_true this; omega
    · have := of_decide_eq_true this; omega
theorem EntryOk.sum {e : Entry} {w : Int} (h : zi e w = true) : e.sum.size ≤ 8 := by
  have hw := zw.1 (EntryOk.wd h)
  unfold zi sumB at h; simp only [Bool.and_eq_true, decide_eq_true_eq] at h
  have := h.2.2.1
  split at this
  · have := of_decide_eq_true this; omega
  · have := of_decide_eq_true this; rw [this]; decide
theorem EntryOk.thing {e : Entry} {w : Int} (h : zi e w = true) (hk : e.kind = 1) : ThingOk e.thing w := by
  unfold zi thgB at h; simp only [Bool.and_eq_true, decide_eq_true_eq, if_pos hk] at h
  exact zb4.1 h.2.2.2.2.2
theorem EntryOk.nothing {e : Entry} {w : Int} (h : zi e w = true) (hk : e.kind ≠ 1) : e.thing = ⟨E0, []⟩ := by
  unfold zi thgB at h; simp only [Bool.and_eq_true, decide_eq_true_eq, if_neg hk] at h
  have h1 := h.2.2.2.2.2
  have a : e.thing.text = E0 := h1.1
  have b : e.thing.refs = [] := List.eq_nil_of_length_eq_zero h1.2
  have : e.thing = ⟨e.thing.text, e.thing.refs⟩ := rfl
  rw [this, a, b]
def hd6 (k m : Int) (n : Nat) : Bs := bytesOf [[.i k], [.i (m / 16777216)], [.i (m / 65536 % 256)], [.i (m / 256 % 256)], [.i (m % 256)], [.i (n : Int)]]
theorem zd3 (k m : Int) (n : Nat) : (hd6 k m n).size = 6 := by rw [hd6, zb2]; rfl
def formE (e : Entry) : Bs := hd6 e.kind e.number e.name.size ++ e.name ++ e.sum ++ (if e.kind = 1 then formM e.thing else E0)
theorem zd1 (s : Bs) : s ++ E0 = s := by
  apply Go.WideShapes.bytes_inj; simp [ByteArray.data_append]
theorem zdf (a b c : Bs) : a ++ b ++ c = a ++ (b ++ c) := by
  apply Go.WideShapes.bytes_inj; simp [ByteArray.data_append]
theorem zko {e : Entry} {w : Int} (h : zi e w = true) : (formE e).size ≤ 2295 ∧ 6 ≤ (formE e).size := by
  unfold formE
  rw [z7, z7, z7, zd3]
  have h1 := EntryOk.nm h; have h2 := EntryOk.sum h
  split
  · rename_i hk
    have h3 := zbk (EntryOk.thing h hk)
    rw [zbo]; omega
  · have : E0.size = 0 := rfl
    omega
theorem zma {m : Int} (h : 0 ≤ m ∧ m ≤ 1000000000) : IntKind.u8.wrap (IntKind.i64.wrap (m.tdiv 16777216)) = m / 16777216 ∧ IntKind.u8.wrap ((IntKind.i64.wrap (m.tdiv 65536)).tmod 256) = m / 65536 % 256 ∧ IntKind.u8.wrap ((IntKind.i64.wrap (m.tdiv 256)).tmod 256) = m / 256 % 256 ∧ IntKind.u8.wrap (m.tmod 256) = m % 256 := by
  rw [Int.tdiv_eq_ediv_of_nonneg h.1, Int.tdiv_eq_ediv_of_nonneg h.1, Int.tdiv_eq_ediv_of_nonneg h.1, Int.tmod_eq_emod_of_nonneg h.1, w64 (by omega), w64 (by omega), w64 (by omega), Int.tmod_eq_emod_of_nonneg (by omega), Int.tmod_eq_emod_of_nonneg (by omega)]
  exact ⟨w8 (by omega), w8 (by omega), w8 (by omega), w8 (by omega)⟩
theorem zgh (e : Entry) (w : Int) (hn : e.name.size ≤ 4611686018427387904) : Lqbd none (encE e ++ [.i w]) = some [.s (if zi e w = true then formE e else E0)] := by
  show Lqbd none [.i e.kind, .s e.sum, .s e.name, .i e.number, .s e.thing.text, .l (encS e.thing.refs), .i w] = _
  rw [eqbd_i]
  rw [show Lqp none [.i e.kind, .s e.sum, .s e.name, .i e.number, .s e.thing.text, .l (encS e.thing.refs), .i w] = _ from zgc e w hn]
  cases he : zi e w
  · simp (disch := omega) only [push_cast] <;> rfl
  have hk := EntryOk.kd he; have hnm := EntryOk.nm he; have hsm := EntryOk.sum he; have hnum := EntryOk.num he
  obtain ⟨b1, b2, b3, b4⟩ := zma hnum
  rw [b1, b2, b3, b4, w8 (n := (e.name.size : Int)) (by omega), w8 (n := e.kind) (by omega)]
  generalize hr : ([[C.i e.kind], [.i (e.number / 16777216)], [.i (e.number / 65536 % 256)], [.i (e.number / 256 % 256)], [.i (e.number % 256)], [.i (e.name.size : Int)]] : Rw) = r
  have h6 : bytesOf r = hd6 e.kind e.number e.name.size := by rw [← hr]; rfl
  have hl : r.length = 6 := by rw [← hr]; rfl
  simp (disch := omega) only [push_cast, mostE, List.length_append, zem, hl]
  unfold formE
  by_cases h1 : e.kind = 1
  · have h3 := zbk (EntryOk.thing he h1)
    have hs := zbo e.thing
    simp (disch := omega) only [push_cast, zb8, formT, if_pos (zb4.2 (EntryOk.thing he h1)), zem, if_pos h1]
    rw [zbm, zbm, zbm, zcl, zcl, zcl, h6]
  · simp (disch := omega) only [push_cast, if_neg h1]; rw [zd1, zbm, zbm, zcl, zcl, h6]
theorem zbx (s : Bs) {a b c : Nat} (h1 : a ≤ b) (h2 : b ≤ c) : s.extract a b ++ s.extract b c = s.extract a c := by
  apply Go.WideShapes.bytes_inj
  simp only [ByteArray.data_append, ByteArray.data_extract, Array.toList_append, Array.toList_extract, List.extract_eq_take_drop]
  apply List.ext_getElem?
  intro i
  rw [List.getElem?_append]
  simp only [List.length_take, List.length_drop, Array.length_toList, List.getElem?_take, List.getElem?_drop]
  have hs : ∀ j, s.data.size ≤ j → s.data.toList[j]? = none := fun j hj => List.getElem?_eq_none (by simpa using hj)
  by_cases h : i < min (b - a) (s.data.size - a)
  · rw [if_pos h, if_pos (by omega), if_pos (by omega)]
  · rw [if_neg h]
    by_cases h3 : i < c - a
    · by_cases h4 : b - a ≤ s.data.size - a
      · rw [if_pos h3, if_pos (by omega)]; congr 1; omega
      · rw [if_pos h3, hs (a + i) (by omega)]
        split
        · exact hs _ (by omega)
        · rfl
    · by_cases h4 : b - a ≤ s.data.size - a
      · rw [if_neg h3, if_neg (by omega)]
      · rw [if_neg h3]
        split
        · exact hs _ (by omega)
        · rfl
theorem zcu (s : Bs) : s.extract 0 s.size = s := by
  apply Go.WideShapes.bytes_inj
  simp only [ByteArray.data_extract, Array.toList_extract, List.extract_eq_take_drop]
  rw [List.drop_zero, Nat.sub_zero, List.take_of_length_le]
  show s.data.toList.length ≤ s.data.size
  rw [Array.length_toList]; exact Nat.le_refl _
theorem zco (s : Bs) (i : Nat) (h : i < s.size) : s.extract i (i + 1) = bytesOf [[.i (byteAt s i)]] := by
  apply Go.WideShapes.bytes_inj
  have h' : i < s.data.toList.length := by simpa using h
  simp only [ByteArray.data_extract, Array.toList_extract, List.extract_eq_take_drop]
  rw [List.drop_eq_getElem_cons h', show i + 1 - i = 1 by omega]
  simp only [List.take_succ_cons, List.take_zero]
  show _ = [UInt8.ofNat (byteAt s i).toNat]
  have : s.data.getD i 0 = s.data.toList[i] := by simp [Array.getD]; rw [dif_pos h]
  rw [byteAt, this, Int.toNat_natCast, UInt8.ofNat_toNat]
theorem zkk {s : Bs} {w : Int} {t : Thing} (h : readT s w = some t) : formM t = s ∧ ThingOk t w := by
  unfold readT at h
  split at h
  · rename_i hc
    split at h
    · rename_i ht
      cases h
      refine ⟨?_, zb4.1 ht⟩
      have hb := zbf s 0
      obtain ⟨k, hk⟩ : ∃ k : Nat, byteAt s 0 = (k : Int) := ⟨(byteAt s 0).toNat, by omega⟩
      have hkn : (byteAt s 0).toNat = k := by rw [hk]; rfl
      obtain ⟨hw, h0, h1⟩ := hc
      rw [hkn] at h1
      unfold formM parts
      simp only [List.length_map, List.length_range, hkn]
      have hcat : ∀ i, i ≤ k → cat (hd k) ((List.range i).map (chunk s w.toNat)) = s.extract 0 (1 + i * w.toNat) := by
        intro i
        induction i with
        | zero =>
          intro _
          rw [Nat.zero_mul, zco s 0 (by omega)]
          show hd k = _
          unfold hd
          rw [hk, w8 (by omega)]
        | succ i ih =>
          intro hi
          have hm : (i + 1) * w.toNat = i * w.toNat + w.toNat := Nat.succ_mul _ _
          have hm2 : (i + 1) * w.toNat ≤ k * w.toNat := Nat.mul_le_mul_right _ hi
          unfold cat at ih ⊢
          rw [zin, List.foldl_append, ih (by omega)]
          show _ ++ chunk s w.toNat i = _
          unfold chunk
          rw [zbx s (by omega) (by omega), hm]; congr 1; omega
      rw [hcat k (Nat.le_refl _), zbx s (by omega) h1, zcu]
    · cases h
  · cases h
theorem zki (a b : Bs) (i j : Nat) (h : j ≤ a.size) : (a ++ b).extract i j = a.extract i j := by
  apply Go.WideShapes.bytes_inj
  simp only [ByteArray.data_append, ByteArray.data_extract, Array.toList_append, Array.toList_extract, List.extract_eq_take_drop]
  apply List.ext_getElem?
  intro n
  simp only [List.getElem?_take, List.getElem?_drop]
  have h' : j ≤ a.data.toList.length := by simpa using h
  split
  · rw [List.getElem?_append_left (by omega)]
  · rfl
theorem zdr (a b : Bs) (i j : Nat) : (a ++ b).extract (a.size + i) (a.size + j) = b.extract i j := by
  apply Go.WideShapes.bytes_inj
  simp only [ByteArray.data_append, ByteArray.data_extract, Array.toList_append, Array.toList_extract, List.extract_eq_take_drop]
  have h' : a.data.toList.length = a.size := by simp
  rw [List.drop_append, h', List.drop_of_length_le (by omega)]
  simp only [List.nil_append]
  congr 1
  · omega
  · congr 1; omega
theorem zjs (a b : Bs) (i : Nat) (h : i < a.size) : byteAt (a ++ b) i = byteAt a i := by
  unfold byteAt
  have h1 : i < a.data.size := h
  simp [Array.getD, ByteArray.data_append, Array.getElem_append]
  rw [dif_pos (by omega), dif_pos h, dif_pos h]
theorem zle (xs : Rw) (i : Nat) (n : Int) (h : xs[i]? = some [.i n]) (hn : 0 ≤ n ∧ n ≤ 255) : byteAt (bytesOf xs) i = n := by
  have hi : i < xs.length := by
    rcases Nat.lt_or_ge i xs.length with h1 | h1
    · exact h1
    · rw [List.getElem?_eq_none h1] at h; cases h
  have hx : xs[i] = [C.i n] := by rw [List.getElem?_eq_getElem hi] at h; exact Option.some.inj h
  unfold byteAt bytesOf
  simp only [Array.getD, List.size_toArray, List.length_map, hi, dite_true]
  simp only [Array.getInternal_eq_getElem, List.getElem_toArray, List.getElem_map, hx]
  simp only [List.getD_cons_zero, C.int]
  rw [UInt8.toNat_ofNat']; omega
theorem zf2 (a : Bs) (l : List Bs) : cat a l = a ++ cat E0 l := by
  induction l generalizing a with
  | nil => exact (zd1 a).symm
  | cons x l ih =>
    show cat (a ++ x) l = a ++ cat (E0 ++ x) l
    rw [ih (a ++ x), ih (E0 ++ x), zdf]
    congr 1
theorem zii (s : Bs) : E0 ++ s = s := by apply Go.WideShapes.bytes_inj; simp [ByteArray.data_append]
theorem zi4 (w : Nat) : ∀ (l : List Bs) (x : Bs), (∀ r ∈ l, r.size = w) → ∀ i, i < l.length → (cat E0 l ++ x).extract (i * w) (i * w + w) = nth .empty l i
  | [], _, _, i, h => by simp at h
  | r :: l, x, hl, i, h => by
    have hr : r.size = w := hl r (by simp)
    have e : cat E0 (r :: l) = r ++ cat E0 l := by show cat (E0 ++ r) l = _; rw [zf2, zii]
    rw [e, zdf]
    cases i with
    | zero => rw [Nat.zero_mul, Nat.zero_add, zki _ _ _ _ (by omega), ← hr, zcu]; rfl
    | succ i =>
      have h1 := zi4 w l x (fun r hr => hl r (by simp [hr])) i (by simpa using h)
      have e3 : (i + 1) * w + w = r.size + (i * w + w) := by rw [Nat.succ_mul]; omega
      have e2 : (i + 1) * w = r.size + i * w := by rw [Nat.succ_mul]; omega
      rw [e3, e2, zdr, zcq, h1]
theorem zrh {t : Thing} {w : Int} (h : ThingOk t w) : readT (formM t) w = some t := by
  have hw := h.wd
  obtain ⟨n, rfl⟩ : ∃ n : Nat, w = (n : Int) := ⟨w.toNat, by omega⟩
  have hsz : ∀ r ∈ t.refs, r.size = n := fun r hr => by have := h.size r hr; omega
  have hrf := h.refs
  have hs := zbo t
  have hk : byteAt (formM t) 0 = (t.refs.length : Int) := by
    unfold formM
    rw [zf2, zdf, zjs _ _ _ (by rw [zcg]; omega)]
    unfold hd
    exact zle _ _ _ (by rw [w8 (by omega)]; rfl) (by omega)
  have hszs : ∀ l : List Bs, (∀ r ∈ l, r.size = n) → szs l = l.length * n := by
    intro l
    induction l with
    | nil => intro _; simp [szs]
    | cons a l ih => intro hl; rw [zd4, List.length_cons, Nat.succ_mul, ih fun r hr => hl r (by simp [hr]), hl a (by simp)]; omega
  have hz := hszs _ hsz
  have hp : parts (formM t) n = t := by
    unfold parts
    rw [hk, Int.toNat_natCast]
    obtain ⟨x, l⟩ := t
    simp only at hs hz hsz ⊢
    have hcs : (cat (hd l.length) l).size = 1 + l.length * n := by rw [zc0, zcg, hz]
    congr 1
    · unfold formM; simp only
      have := zdr (cat (hd l.length) l) x 0 x.size
      rw [zcu, hcs, Nat.add_zero] at this
      rw [z7, hcs]; exact this
    · apply List.ext_getElem
      · simp
      · intro i h1 h2
        simp only [List.getElem_map, List.getElem_range]
        rw [← zj .empty l i h2, ← zi4 n l x hsz i h2]
        unfold chunk formM; simp only
        rw [zf2, zdf]
        have := zdr (hd l.length) (cat E0 l ++ x) (i * n) (i * n + n)
        rw [zcg] at this
        rw [← this]; congr 1; omega
  rw [zh3 (n := n) (zw.2 hw) (by omega) hk (by omega), hp, if_pos (zb4.2 h)]
def num4 (s : Bs) : Int := byteAt s 1 * 16777216 + byteAt s 2 * 65536 + byteAt s 3 * 256 + byteAt s 4
def nmEnd (s : Bs) : Nat := 6 + (byteAt s 5).toNat
noncomputable def readE (s : Bs) (w : Int) : Option Entry :=
  if zk w = true ∧ 6 ≤ s.size ∧ nmEnd s ≤ s.size then
    (if byteAt s 0 = 1 then (match readT (s.extract (nmEnd s) s.size) w with
      | none => none
      | some t => if zi ⟨1, E0, s.extract 6 (nmEnd s), num4 s, t⟩ w = true then some ⟨1, E0, s.extract 6 (nmEnd s), num4 s, t⟩ else none)
    else if zi ⟨byteAt s 0, s.extract (nmEnd s) s.size, s.extract 6 (nmEnd s), num4 s, ⟨E0, []⟩⟩ w = true then some ⟨byteAt s 0, s.extract (nmEnd s) s.size, s.extract 6 (nmEnd s), num4 s, ⟨E0, []⟩⟩ else none)
  else none
theorem zp1 (s : Bs) (h : 6 ≤ s.size) : hd6 (byteAt s 0) (num4 s) (byteAt s 5).toNat = s.extract 0 6 := by
  have b0 := zbf s 0; have b1 := zbf s 1; have b2 := zbf s 2; have b3 := zbf s 3; have b4 := zbf s 4; have b5 := zbf s 5
  unfold hd6 num4
  have e : ∀ a b c d e f : Int, bytesOf [[.i a], [.i b], [.i c], [.i d], [.i e], [.i f]] = bytesOf [[.i a]] ++ bytesOf [[.i b]] ++ bytesOf [[.i c]] ++ bytesOf [[.i d]] ++ bytesOf [[.i e]] ++ bytesOf [[.i f]] := fun a b c d e f => by
    rw [← zbm, ← zbm, ← zbm, ← zbm, ← zbm]; rfl
  have n1 : (byteAt s 1 * 16777216 + byteAt s 2 * 65536 + byteAt s 3 * 256 + byteAt s 4) / 16777216 = byteAt s 1 := by omega
  have n2 : (byteAt s 1 * 16777216 + byteAt s 2 * 65536 + byteAt s 3 * 256 + byteAt s 4) / 65536 % 256 = byteAt s 2 := by omega
  have n3 : (byteAt s 1 * 16777216 + byteAt s 2 * 65536 + byteAt s 3 * 256 + byteAt s 4) / 256 % 256 = byteAt s 3 := by omega
  have n4 : (byteAt s 1 * 16777216 + byteAt s 2 * 65536 + byteAt s 3 * 256 + byteAt s 4) % 256 = byteAt s 4 := by omega
  have n5 : (((byteAt s 5).toNat : Nat) : Int) = byteAt s 5 := by omega
  rw [n1, n2, n3, n4, n5, e, ← zco s 0 (by omega), ← zco s 1 (by omega), ← zco s 2 (by omega), ← zco s 3 (by omega), ← zco s 4 (by omega), ← zco s 5 (by omega)]
  rw [zbx s (by omega) (by omega), zbx s (by omega) (by omega), zbx s (by omega) (by omega), zbx s (by omega) (by omega), zbx s (by omega) (by omega)]
theorem ze8 (s : Bs) (x : Thing) (h6 : 6 ≤ s.size) (h : nmEnd s ≤ s.size) (a : Bs) (hx : (if byteAt s 0 = 1 then formM x else E0) = (if byteAt s 0 = 1 then s.extract (nmEnd s) s.size else E0)) (ha : a = if byteAt s 0 = 1 then E0 else s.extract (nmEnd s) s.size) :
    formE ⟨byteAt s 0, a, s.extract 6 (nmEnd s), num4 s, x⟩ = s := by
  unfold formE
  simp only
  have hn : (s.extract 6 (nmEnd s)).size = (byteAt s 5).toNat := by rw [size_extract]; unfold nmEnd at h ⊢; omega
  rw [hn, zp1 s h6, zbx s (by omega) (by unfold nmEnd; omega), hx, ha]
  split
  · rw [zd1, zbx s (by omega) h, zcu]
  · rw [zd1, zbx s (by omega) h, zcu]
theorem zku {s : Bs} {w : Int} {e : Entry} (h : readE s w = some e) : formE e = s ∧ zi e w = true := by
  unfold readE at h
  split at h
  · rename_i hc
    obtain ⟨hw, h6, hl⟩ := hc
    split at h
    · rename_i h1
      cases ht : readT (s.extract (nmEnd s) s.size) w with
      | none => rw [ht] at h; cases h
      | some t =>
        rw [ht] at h
        simp only at h
        split at h
        · rename_i he
          cases h
          refine ⟨?_, he⟩
          have := ze8 s t h6 hl E0 (by rw [if_pos h1, if_pos h1, (zkk ht).1]) (by rw [if_pos h1])
          rw [h1] at this; exact this
        · cases h
    · rename_i h1
      split at h
      · rename_i he
        cases h
        exact ⟨ze8 s ⟨E0, []⟩ h6 hl _ (by rw [if_neg h1, if_neg h1]) (by rw [if_neg h1]), he⟩
      · cases h
  · cases h
theorem zpo {k m : Int} {n : Nat} (x : Bs) (hk : 0 ≤ k ∧ k ≤ 255) (hm : 0 ≤ m ∧ m < 4294967296) (hn : n ≤ 255) :
    byteAt (hd6 k m n ++ x) 0 = k ∧ num4 (hd6 k m n ++ x) = m ∧ byteAt (hd6 k m n ++ x) 5 = n := by
  have hs := zd3 k m n
  have b : ∀ i v, i < 6 → ([[C.i k], [.i (m / 16777216)], [.i (m / 65536 % 256)], [.i (m / 256 % 256)], [.i (m % 256)], [.i (n : Int)]] : Rw)[i]? = some [.i v] → (0 ≤ v ∧ v ≤ 255) → byteAt (hd6 k m n ++ x) i = v := fun i v hi h1 h2 => by
    rw [zjs _ _ _ (by omega)]; exact zle _ _ _ h1 h2
  refine ⟨b 0 k (by omega) rfl hk, ?_, b 5 n (by omega) rfl (by omega)⟩
  unfold num4
  rw [b 1 (m / 16777216) (by omega) rfl (by omega), b 2 (m / 65536 % 256) (by omega) rfl (by omega), b 3 (m / 256 % 256) (by omega) rfl (by omega), b 4 (m % 256) (by omega) rfl (by omega)]
  omega
theorem zgp {e : Entry} {w : Int} (h : zi e w = true) : readE (formE e) w = some e := by
  have hk := EntryOk.kd h; have hnm := EntryOk.nm h; have hsm := EntryOk.sum h; have hnum := EntryOk.num h
  have hform : formE e = hd6 e.kind e.number e.name.size ++ (e.name ++ (e.sum ++ (if e.kind = 1 then formM e.thing else E0))) := by unfold formE; rw [zdf, zdf]
  obtain ⟨c0, c1, c2⟩ := zpo (k := e.kind) (m := e.number) (n := e.name.size) (e.name ++ (e.sum ++ (if e.kind = 1 then formM e.thing else E0))) (by omega) (by omega) (by omega)
  rw [← hform] at c0 c1 c2
  have hs : (formE e).size = 6 + (e.name.size + (e.sum.size + (if e.kind = 1 then formM e.thing else E0).size)) := by rw [hform, z7, z7, z7, zd3]
  have hend : nmEnd (formE e) = 6 + e.name.size := by unfold nmEnd; rw [c2]; rfl
  have x1 : (formE e).extract 6 (6 + e.name.size) = e.name := by
    have := zdr (hd6 e.kind e.number e.name.size) (e.name ++ (e.sum ++ (if e.kind = 1 then formM e.thing else E0))) 0 e.name.size
    rw [← hform, zd3] at this
    rw [show (6 : Nat) = 6 + 0 from rfl, show 6 + 0 + e.name.size = 6 + e.name.size by omega, this, zki _ _ _ _ (Nat.le_refl _), zcu]
  have x2 : (formE e).extract (6 + e.name.size) (formE e).size = e.sum ++ (if e.kind = 1 then formM e.thing else E0) := by
    have h1 := zdr (hd6 e.kind e.number e.name.size) (e.name ++ (e.sum ++ (if e.kind = 1 then formM e.thing else E0))) (e.name.size + 0) (e.name.size + (e.sum ++ (if e.kind = 1 then formM e.thing else E0)).size)
    have h2 := zdr e.name (e.sum ++ (if e.kind = 1 then formM e.thing else E0)) 0 (e.sum ++ (if e.kind = 1 then formM e.thing else E0)).size
    rw [zcu] at h2
    rw [h2, ← hform, zd3] at h1
    rw [hs, ← h1, z7]; congr 1
  unfold readE
  rw [if_pos ⟨EntryOk.wd h, by omega, by rw [hend]; omega⟩, hend, x1, x2, c0, c1]
  obtain ⟨k, sm, nm, m, t⟩ := e
  simp only at *
  by_cases h1 : k = 1
  · have hsum : sm = E0 := by
      unfold zi sumB uS at h; simp only [Bool.and_eq_true, decide_eq_true_eq] at h
      have := h.2.2.1
      rw [if_neg (by omega)] at this
      exact of_decide_eq_true this
    rw [if_pos h1, if_pos h1, hsum, zii, zrh (EntryOk.thing h h1)]
    subst h1; subst hsum
    simp only
    rw [if_pos h]
  · have ht : t = ⟨E0, []⟩ := EntryOk.nothing h h1
    subst ht
    rw [if_neg h1, if_neg h1, zd1, if_pos h]
end KV
end
section
namespace KV
open Go Go.Eng
open Classical
def encOE : Option Entry → Lv
  | none => [.i 0, .s E0, .s E0, .i 0, .s E0, .b false, .l []]
  | some e => [.i e.kind, .s e.sum, .s e.name, .i e.number, .s e.thing.text, .b true, .l (encS e.thing.refs)]
theorem zm4 {s : Bs} {w : Int} (h : zk w = false) : readE s w = none := by unfold readE; rw [if_neg fun h1 => by rw [h] at h1; cases h1.1]
theorem zm5 {s : Bs} {w : Int} (h : ¬ 6 ≤ s.size) : readE s w = none := by unfold readE; rw [if_neg fun h1 => h h1.2.1]
theorem zlx {s : Bs} {w : Int} (h : ¬ nmEnd s ≤ s.size) : readE s w = none := by unfold readE; rw [if_neg fun h1 => h h1.2.2]
theorem zgx (s : Bs) (w k : Int) (a nm : Bs) (m : Int) (t : Thing) (z1 z2 : Int) (y1 y2 y3 : Bs) (y4 : Rw) (hn : nm.size ≤ 4611686018427387904) :
    Lqb0 (some 9) [.s s, .i w, .i z1, .s y1, .s y2, .i z2, .s y3, .i k, .s a, .s nm, .i m, .s t.text, .l (encS t.refs), .l y4] = some (if zi ⟨k, a, nm, m, t⟩ w = true ∧ formE ⟨k, a, nm, m, t⟩ = s then encOE (some ⟨k, a, nm, m, t⟩) else encOE none) := by
  rw [eqb0_9]
  have h1 := zgc ⟨k, a, nm, m, t⟩ w hn
  have h2 := zgh ⟨k, a, nm, m, t⟩ w hn
  simp (disch := omega) only [push_cast, show Lqp none [.i k, .s a, .s nm, .i m, .s t.text, .l (encS t.refs), .i w] = _ from h1, show Lqbd none [.i k, .s a, .s nm, .i m, .s t.text, .l (encS t.refs), .i w] = _ from h2]
  cases he : zi ⟨k, a, nm, m, t⟩ w
  · simp (disch := omega) only [push_cast]
    rw [if_neg fun h => by cases h.1]; rfl
  · by_cases hf : formE ⟨k, a, nm, m, t⟩ = s
    · simp (disch := omega) only [push_cast]; rw [if_pos ⟨trivial, hf⟩]; rfl
    · simp (disch := omega) only [push_cast]; rw [if_neg fun h => hf h.2]; rfl
theorem zpj (s : Bs) (w : Int) (hs : s.size ≤ 1099511627776) : Lqb0 none [.s s, .i w] = some (encOE (readE s w)) := by
  rw [eqb0_i, zr]
  cases hw : zk w
  · simp (disch := omega) only [push_cast, zm4 hw] <;> rfl
  by_cases h6 : 6 ≤ s.size
  · have b5 := zbf s 5; have b0 := zbf s 0; have b1 := zbf s 1; have b2 := zbf s 2; have b3 := zbf s 3; have b4 := zbf s 4
    by_cases hn : nmEnd s ≤ s.size
    · have hn' : 6 + byteAt s 5 ≤ s.size := by unfold nmEnd at hn; omega
      have hne : (6 + byteAt s 5).toNat = nmEnd s := by unfold nmEnd; omega
      have hsz : (s.extract 6 (nmEnd s)).size ≤ 4611686018427387904 := by rw [size_extract]; omega
      have hnum : byteAt s 1 * 16777216 + byteAt s 2 * 65536 + byteAt s 3 * 256 + byteAt s 4 = num4 s := rfl
      have hnn : (6 : Int) ≤ (nmEnd s : Int) := by unfold nmEnd; omega
      unfold readE
      rw [if_pos ⟨hw, h6, hn⟩]
      by_cases h1 : byteAt s 0 = 1
      · simp (disch := omega) only [push_cast, hne, hnum, if_pos h1]
        rw [zm7 _ _ (by rw [size_extract]; omega)]
        cases ht : readT (s.extract (nmEnd s) s.size) w with
        | none =>
          simp (disch := omega) only [push_cast, encOT]
          have := zgx s w (byteAt s 0) E0 (s.extract 6 (nmEnd s)) (num4 s) ⟨E0, []⟩ 0 0 E0 E0 E0 [] hsz
          rw [show Lqb0 (some 9) [.s s, .i w, .i 0, .s E0, .s E0, .i 0, .s E0, .i (byteAt s 0), .s E0, .s (s.extract 6 (nmEnd s)), .i (num4 s), .s E0, .l [], .l []] = _ from this]
          rw [if_neg]
          rintro ⟨he, hf⟩
          have h2 := zgp he
          rw [hf] at h2
          unfold readE at h2
          rw [if_pos ⟨hw, h6, hn⟩, if_pos h1, ht] at h2
          cases h2
        | some t =>
          simp (disch := omega) only [push_cast, encOT]
          rw [zgx _ _ _ _ _ _ t _ _ _ _ _ _ hsz, h1]
          by_cases he : zi ⟨1, E0, s.extract 6 (nmEnd s), num4 s, t⟩ w = true
          · have hf := ze8 s t h6 hn E0 (by rw [if_pos h1, if_pos h1, (zkk ht).1]) (by rw [if_pos h1])
            rw [h1] at hf
            rw [if_pos ⟨he, hf⟩, if_pos he]
          · rw [if_neg fun h => he h.1, if_neg he]
      · simp (disch := omega) only [push_cast, hne, hnum, if_neg h1]
        have := zgx s w (byteAt s 0) (s.extract (nmEnd s) s.size) (s.extract 6 (nmEnd s)) (num4 s) ⟨E0, []⟩ 0 0 E0 E0 E0 [] hsz
        rw [show Lqb0 (some 9) [.s s, .i w, .i 0, .s E0, .s E0, .i 0, .s E0, .i (byteAt s 0), .s (s.extract (nmEnd s) s.size), .s (s.extract 6 (nmEnd s)), .i (num4 s), .s E0, .l [], .l []] = _ from this]
        by_cases he : zi ⟨byteAt s 0, s.extract (nmEnd s) s.size, s.extract 6 (nmEnd s), num4 s, ⟨E0, []⟩⟩ w = true
        · have hf := ze8 s ⟨E0, []⟩ h6 hn (s.extract (nmEnd s) s.size) (by rw [if_neg h1, if_neg h1]) (by rw [if_neg h1])
          rw [if_pos ⟨he, hf⟩, if_pos he]
        · rw [if_neg fun h => he h.1, if_neg he]
    · have hn' : ¬ 6 + byteAt s 5 ≤ s.size := by unfold nmEnd at hn; omega
      simp (disch := omega) only [push_cast, zlx hn] <;> rfl
  · simp (disch := omega) only [push_cast, zm5 h6] <;> rfl
end KV
end
section
namespace KV
open Go Go.Eng
open Classical
structure Kept where
  sum : Bs
  born : Int
  thing : Thing
structure Pin where
  name : Bs
  sum : Bs
structure Lease where
  number : Int
  sum : Bs
  till : Int
structure State where
  width : Int
  now : Int
  given : Int
  births : Int
  things : List Kept
  pins : List Pin
  leases : List Lease
def K0 : Kept := ⟨.empty, 0, ⟨.empty, []⟩⟩
def P0 : Pin := ⟨.empty, .empty⟩
def L0 : Lease := ⟨0, .empty, 0⟩
def cK (k : Kept) : List C := [.s k.sum, .i k.born, .s k.thing.text, .l (encS k.thing.refs)]
def cP (p : Pin) : List C := [.s p.name, .s p.sum]
def cL (l : Lease) : List C := [.i l.number, .s l.sum, .i l.till]
def encK (l : List Kept) : Rw := l.map cK
def encP (l : List Pin) : Rw := l.map cP
def encL (l : List Lease) : Rw := l.map cL
def encSt (s : State) : Lv := [.i s.width, .i s.now, .i s.given, .i s.births, .l (encK s.things), .l (encP s.pins), .l (encL s.leases)]
@[push_cast] theorem zds (l : List Kept) : (encK l).length = l.length := by simp [encK]
@[push_cast] theorem zdg (l : List Pin) : (encP l).length = l.length := by simp [encP]
@[push_cast] theorem zdn (l : List Lease) : (encL l).length = l.length := by simp [encL]
theorem zj8 {α : Type} (d : α) (l : List α) (i : Nat) (h : l.length ≤ i) : nth d l i = d := by
  rw [nth, List.getD_eq_getElem?_getD, List.getElem?_eq_none h]; rfl
theorem zbb {α β : Type} (f : α → List C) (d : α) (l : List α) (i o : Nat) (g : C → β) (h : g (.i 0) = g ((f d).getD o (.i 0))) : g (rd (l.map f) i o) = g ((f (nth d l i)).getD o (.i 0)) := by
  rcases Nat.lt_or_ge i l.length with h1 | h1
  · rw [zhp f d _ _ _ h1]
  · rw [zfs _ _ _ _ h1, zj8 d l i h1, h]
@[push_cast] theorem zs2 (l : List Kept) (i : Nat) : (rd (encK l) i 0).str = (nth K0 l i).sum := zbb cK K0 l i 0 C.str rfl
@[push_cast] theorem zs1 (l : List Kept) (i : Nat) : (rd (encK l) i 1).int = (nth K0 l i).born := zbb cK K0 l i 1 C.int rfl
@[push_cast] theorem zsx (l : List Kept) (i : Nat) : (rd (encK l) i 2).str = (nth K0 l i).thing.text := zbb cK K0 l i 2 C.str rfl
@[push_cast] theorem zsz (l : List Kept) (i : Nat) : (rd (encK l) i 3).list = encS (nth K0 l i).thing.refs := zbb cK K0 l i 3 C.list rfl
@[push_cast] theorem zsc (l : List Pin) (i : Nat) : (rd (encP l) i 0).str = (nth P0 l i).name := zbb cP P0 l i 0 C.str rfl
@[push_cast] theorem zlw (l : List Pin) (i : Nat) : (rd (encP l) i 1).str = (nth P0 l i).sum := zbb cP P0 l i 1 C.str rfl
@[push_cast] theorem zqk (l : List Lease) (i : Nat) : (rd (encL l) i 0).int = (nth L0 l i).number := zbb cL L0 l i 0 C.int rfl
@[push_cast] theorem zl2 (l : List Lease) (i : Nat) : (rd (encL l) i 1).str = (nth L0 l i).sum := zbb cL L0 l i 1 C.str rfl
@[push_cast] theorem zoh (l : List Lease) (i : Nat) : (rd (encL l) i 2).int = (nth L0 l i).till := zbb cL L0 l i 2 C.int rfl
theorem zbj (l m : List Kept) : encK l ++ encK m = encK (l ++ m) := by simp [encK]
theorem zcm (l m : List Pin) : encP l ++ encP m = encP (l ++ m) := by simp [encP]
theorem zfm (l m : List Lease) : encL l ++ encL m = encL (l ++ m) := by simp [encL]
theorem zdp (a : Bs) (b : Int) (c : Bs) (r : List Bs) : ([[.s a, .i b, .s c, .l (encS r)]] : Rw) = encK [⟨a, b, ⟨c, r⟩⟩] := rfl
theorem zez (a b : Bs) : ([[.s a, .s b]] : Rw) = encP [⟨a, b⟩] := rfl
theorem zdu (l : List Kept) (a b : Nat) : Eng.sub (encK l) a b = encK ((l.drop a).take (b - a)) := zlk _ _ _ _
theorem zpv {f : Nat → Nat → Option Lv} {q : Nat → Bool} {n r : Nat} (hr : r ≤ n) (h1 : ∀ j, j < r → q j = true) (h2 : ∀ j, r ≤ j → j < n → q j = false)
    (step : ∀ lo hi, lo < hi → hi ≤ n → f lo hi = cond (q ((lo + hi) / 2)) (f ((lo + hi) / 2 + 1) hi) (f lo ((lo + hi) / 2))) (last : ∀ lo, lo ≤ n → f lo lo = some [.i (lo : Int)]) : f 0 n = some [.i (r : Int)] := by
  have : ∀ m lo hi, hi - lo = m → lo ≤ r → r ≤ hi → hi ≤ n → f lo hi = some [.i (r : Int)] := by
    intro m
    induction m using Nat.strongRecOn with
    | ind m ih =>
      intro lo hi hm hlo hhi hn
      rcases Nat.lt_or_ge lo hi with hlt | hge
      · rw [step lo hi hlt hn]
        rcases Nat.lt_or_ge ((lo + hi) / 2) r with h | h
        · rw [h1 _ h]; exact ih _ (by omega) _ _ rfl (by omega) hhi hn
        · rw [h2 _ h (by omega)]; exact ih _ (by omega) _ _ rfl hlo h (by omega)
      · have e1 : lo = r := by omega
        have e2 : hi = r := by omega
        subst e1; subst e2; exact last _ hn
  exact this n 0 n (by omega) (by omega) hr (Nat.le_refl _)
theorem zje {α : Type} {f : Nat → Option Lv} {l : List α} {d : α} {p : α → Bool} {ret : Nat → Option Lv} {e : Option Lv} (step : ∀ i, i < l.length → f i = cond (p (nth d l i)) (ret i) (f (i + 1))) (last : f l.length = e) :
    f 0 = match l.findIdx? p with | some i => ret i | none => e := by
  have : ∀ m i, l.length - i = m → i ≤ l.length → f i = match (l.drop i).findIdx? p with | some j => ret (i + j) | none => e := by
    intro m
    induction m with
    | zero =>
      intro i hm hi
      have : i = l.length := by omega
      subst this; rw [last, List.drop_length]; rfl
    | succ m ih =>
      intro i hm hi
      rw [step i (by omega), zdy d (show i < l.length by omega), List.findIdx?_cons]
      cases p (nth d l i)
      · rw [cond_false, ih (i + 1) (by omega) (by omega)]
        cases (l.drop (i + 1)).findIdx? p with
        | none => rfl
        | some j => simp only [Option.map_some]; rw [show i + 1 + j = i + (j + 1) by omega]; rfl
      · rfl
  have h := this l.length 0 (by omega) (by omega)
  rw [List.drop_zero] at h
  rw [h]
  cases l.findIdx? p with
  | none => rfl
  | some j => simp
def lb {α : Type} (q : α → Bool) (l : List α) : Nat := (l.takeWhile q).length
theorem lb_le {α : Type} (q : α → Bool) (l : List α) : lb q l ≤ l.length := by
  unfold lb
  induction l with
  | nil => simp
  | cons a l ih => rw [List.takeWhile_cons]; split <;> simp <;> omega
theorem lb_lt {α : Type} (q : α → Bool) (d : α) : ∀ (l : List α) j, j < lb q l → q (nth d l j) = true
  | [], j, h => by simp [lb] at h
  | a :: l, j, h => by
    unfold lb at h
    rw [List.takeWhile_cons] at h
    split at h
    · rename_i hq
      cases j with
      | zero => exact hq
      | succ j => rw [zcq]; exact lb_lt q d l j (by simpa [lb] using h)
    · simp at h
theorem lb_at {α : Type} (q : α → Bool) (d : α) : ∀ (l : List α), lb q l < l.length → q (nth d l (lb q l)) = false
  | [], h => by simp at h
  | a :: l, h => by
    unfold lb at h ⊢
    rw [List.takeWhile_cons] at h ⊢
    split
    · rename_i hq
      rw [if_pos hq] at h
      simp only [List.length_cons, zcq] at h ⊢
      exact lb_at q d l (by unfold lb; omega)
    · rename_i hq; simp only [List.length_nil, zft]; simpa using hq
end KV
end
section
namespace KV
open Go Go.Eng
open Classical
theorem zes {α : Type} {R : α → α → Prop} (d : α) {l : List α} (h : l.Pairwise R) {i j : Nat} (hij : i < j) (hj : j < l.length) : R (nth d l i) (nth d l j) := by
  rw [zj d l i (by omega), zj d l j hj]
  exact List.pairwise_iff_getElem.1 h i j (by omega) hj hij
theorem lb_hi {α : Type} {R : α → α → Prop} {q : α → Bool} (d : α) {l : List α} (h : l.Pairwise R) (mono : ∀ a b, R a b → q b = true → q a = true) : ∀ j, lb q l ≤ j → j < l.length → q (nth d l j) = false := by
  intro j h1 h2
  cases hq : q (nth d l j)
  · rfl
  · rcases Nat.eq_or_lt_of_le h1 with e | h3
    · rw [← e] at hq; rw [lb_at q d l (by omega)] at hq; exact hq.symm
    · have := mono _ _ (zes d h h3 h2) hq
      rw [lb_at q d l (by omega)] at this; cases this
theorem zcx {α : Type} {R : α → α → Prop} {q : α → Bool} {p : α → Prop} (d : α) {l : List α} (h : l.Pairwise R) (hp : ∀ a, p a → q a = false) (hR : ∀ a b, R a b → p b → q a = true) {j : Nat} (hj : j < l.length) (hk : p (nth d l j)) : j = lb q l := by
  have h1 : lb q l ≤ j := by
    rcases Nat.lt_or_ge j (lb q l) with h3 | h3
    · have := lb_lt q d l j h3; rw [hp _ hk] at this; cases this
    · exact h3
  rcases Nat.eq_or_lt_of_le h1 with e | h3
  · exact e.symm
  · have := hR _ _ (zes d h h3 hj) hk
    rw [lb_at q d l (by omega)] at this; cases this
theorem zec {α : Type} {R : α → α → Prop} {q : α → Bool} {p : α → Prop} (d : α) {l : List α} (h : l.Pairwise R) (hp : ∀ a, p a → q a = false) (hR : ∀ a b, R a b → p b → q a = true) :
    (∃ a ∈ l, p a) ↔ lb q l < l.length ∧ p (nth d l (lb q l)) := by
  constructor
  · rintro ⟨a, ha, hpa⟩
    obtain ⟨j, hj, rfl⟩ := z8 d ha
    have := zcx d h hp hR hj hpa
    rw [← this]; exact ⟨hj, hpa⟩
  · rintro ⟨h1, h2⟩; exact ⟨_, zh h1, h2⟩
theorem zlr {α : Type} {R : α → α → Prop} {q : α → Bool} {p : α → Prop} [DecidablePred p] (d : α) {l : List α} (h : l.Pairwise R) (hp : ∀ a, p a → q a = false) (hR : ∀ a b, R a b → p b → q a = true) :
    l.findIdx? (fun a => decide (p a)) = if ∃ a ∈ l, p a then some (lb q l) else none := by
  split
  · rename_i he
    obtain ⟨h1, h2⟩ := (zec d h hp hR).1 he
    rw [List.findIdx?_eq_some_iff_getElem]
    refine ⟨h1, ?_, fun j hj => ?_⟩
    · rw [← zj d l _ h1]; exact decide_eq_true h2
    · rw [← zj d l j (by omega)]
      simp only [decide_eq_true_eq]
      intro hpj
      have := zcx d h hp hR (show j < l.length by omega) hpj
      omega
  · rename_i he
    rw [List.findIdx?_eq_none_iff]
    intro a ha
    exact decide_eq_false fun hpa => he ⟨a, ha, hpa⟩
def SrtK (l : List Kept) : Prop := l.Pairwise fun a b => slt a.sum b.sum = true
def SrtP (l : List Pin) : Prop := l.Pairwise fun a b => slt a.name b.name = true
def SrtL (l : List Lease) : Prop := l.Pairwise fun a b => a.number < b.number
def qK (x : Bs) (k : Kept) : Bool := slt k.sum x
def qP (x : Bs) (k : Pin) : Bool := slt k.name x
def qL (x : Int) (k : Lease) : Bool := decide (k.number < x)
def hasT (l : List Kept) (x : Bs) : Prop := ∃ k ∈ l, k.sum = x
def hasP (l : List Pin) (x : Bs) : Prop := ∃ k ∈ l, k.name = x
def hasL (l : List Lease) (x : Int) : Prop := ∃ k ∈ l, k.number = x
theorem kp (x : Bs) (a : Kept) (h : a.sum = x) : qK x a = false := by unfold qK; rw [h, zca]
theorem kR (x : Bs) (a b : Kept) (h : slt a.sum b.sum = true) (hb : b.sum = x) : qK x a = true := by unfold qK; rw [← hb]; exact h
theorem pp (x : Bs) (a : Pin) (h : a.name = x) : qP x a = false := by unfold qP; rw [h, zca]
theorem pR (x : Bs) (a b : Pin) (h : slt a.name b.name = true) (hb : b.name = x) : qP x a = true := by unfold qP; rw [← hb]; exact h
theorem lp (x : Int) (a : Lease) (h : a.number = x) : qL x a = false := by unfold qL; simp; omega
theorem zbv {l : List Kept} (h : SrtK l) (x : Bs) : hasT l x ↔ lb (qK x) l < l.length ∧ (nth K0 l (lb (qK x) l)).sum = x := zec K0 h (kp x) (kR x)
theorem zfq {l : List Pin} (h : SrtP l) (x : Bs) : hasP l x ↔ lb (qP x) l < l.length ∧ (nth P0 l (lb (qP x) l)).name = x := zec P0 h (pp x) (pR x)
structure VS (s : State) : Prop where
  wd : 1 ≤ s.width ∧ s.width ≤ 8
  now : 0 ≤ s.now ∧ s.now ≤ 1000000000
  given : 0 ≤ s.given ∧ s.given ≤ 1000000000
  births : 0 ≤ s.births ∧ s.births ≤ 1000000000
  nT : s.things.length ≤ 600
  nP : s.pins.length ≤ 100
  nL : s.leases.length ≤ 200
  srtT : SrtK s.things
  okT : ∀ k ∈ s.things, ThingOk k.thing s.width ∧ k.sum = sumM (formM k.thing) s.width ∧ 1 ≤ k.born ∧ k.born ≤ s.births
  ndT : (s.things.map (·.born)).Nodup
  refs : ∀ k ∈ s.things, ∀ r ∈ k.thing.refs, ∃ j ∈ s.things, j.sum = r ∧ j.born < k.born
  srtP : SrtP s.pins
  okP : ∀ p ∈ s.pins, NameOk p.name ∧ hasT s.things p.sum
  srtL : SrtL s.leases
  okL : ∀ l ∈ s.leases, 1 ≤ l.number ∧ l.number ≤ s.given ∧ hasT s.things l.sum ∧ s.now < l.till ∧ l.till ≤ s.now + 100000
structure Out where
  code : Int
  st : State
  sum : Bs
  lease : Int
  a : Bs
  b : Bs
def fail (s : State) (c : Int) : Out := ⟨c, s, E0, 0, E0, E0⟩
def done (s : State) : Out := ⟨0, s, E0, 0, E0, E0⟩
def lent (s : State) (x : Bs) (hold : Int) : State := { s with given := s.given + 1, leases := s.leases ++ [⟨s.given + 1, x, s.now + hold⟩] }
def insK (k : Kept) (l : List Kept) : List Kept := l.take (lb (qK k.sum) l) ++ k :: l.drop (lb (qK k.sum) l)
noncomputable def delK (x : Bs) (l : List Kept) : List Kept := l.filter fun k => !decide (k.sum = x)
noncomputable def putP (n x : Bs) (l : List Pin) : List Pin := if hasP l n then l.set (lb (qP n) l) ⟨n, x⟩ else l.take (lb (qP n) l) ++ ⟨n, x⟩ :: l.drop (lb (qP n) l)
noncomputable def delP (n : Bs) (l : List Pin) : List Pin := l.filter fun k => !decide (k.name = n)
noncomputable def delL (n : Int) (l : List Lease) : List Lease := l.filter fun k => !decide (k.number = n)
def held (s : State) (x : Bs) : Prop := (∃ p ∈ s.pins, p.sum = x) ∨ ∃ l ∈ s.leases, l.sum = x
def isRef (l : List Kept) (x : Bs) : Prop := ∃ k ∈ l, x ∈ k.thing.refs
def room (s : State) : Prop := s.leases.length < 200 ∧ s.given < 1000000000
noncomputable def putS (s : State) (e : Entry) : Out :=
  if ∃ r ∈ e.thing.refs, ¬ hasT s.things r then fail s 2
  else if hasT s.things (sumM (formM e.thing) s.width) then
    (if formM (nth K0 s.things (lb (qK (sumM (formM e.thing) s.width)) s.things)).thing = formM e.thing then
      (if room s then { done (lent s (sumM (formM e.thing) s.width) e.number) with sum := sumM (formM e.thing) s.width, lease := s.given + 1 } else fail s 4)
    else { fail s 3 with a := formM (nth K0 s.things (lb (qK (sumM (formM e.thing) s.width)) s.things)).thing, b := formM e.thing })
  else if room s ∧ s.things.length < 600 ∧ s.births < 1000000000 then
    { done (lent { s with births := s.births + 1, things := insK ⟨sumM (formM e.thing) s.width, s.births + 1, e.thing⟩ s.things } (sumM (formM e.thing) s.width) e.number) with sum := sumM (formM e.thing) s.width, lease := s.given + 1 }
  else fail s 4
noncomputable def chg (s : State) (e : Entry) : Out :=
  if e.kind = 1 then putS s e
  else if e.kind = 2 then
    (if hasT s.things e.sum then (if hasP s.pins e.name ∨ s.pins.length < 100 then done { s with pins := putP e.name e.sum s.pins } else fail s 4) else fail s 2)
  else if e.kind = 3 then (if hasP s.pins e.name then done { s with pins := delP e.name s.pins } else fail s 5)
  else if e.kind = 4 then
    (if hasT s.things e.sum then (if room s then { done (lent s e.sum e.number) with lease := s.given + 1 } else fail s 4) else fail s 2)
  else if e.kind = 5 then (if hasL s.leases e.number then done { s with leases := delL e.number s.leases } else fail s 5)
  else if e.kind = 6 then (if s.now + e.number ≤ 1000000000 then done { s with now := s.now + e.number, leases := s.leases.filter fun l => decide (s.now + e.number < l.till) } else fail s 4)
  else (if hasT s.things e.sum then (if held s e.sum ∨ isRef s.things e.sum then fail s 6 else done { s with things := delK e.sum s.things }) else fail s 2)
end KV
end
section
namespace KV
open Go Go.Eng
open Classical
theorem zrz {lo hi : Nat} (h : lo + hi ≤ 4294967296) : IntKind.i64.wrap ((IntKind.u64.wrap (IntKind.i64.wrap ((lo : Int) + (hi : Int)))).fdiv (2 ^ 1)) = (((lo + hi) / 2 : Nat) : Int) := by
  rw [w64 (n := (lo : Int) + (hi : Int)) (by omega), zgn, Int.fdiv_eq_ediv_of_nonneg _ (by decide), w64 (by omega)]
  omega
theorem zmj (w now g b : Int) (T : List Kept) (P L : Rw) (x : Bs) (h : SrtK T) (hn : T.length ≤ 1000000) :
    Lqbq none [.i (T.length : Int), .i w, .i now, .i g, .i b, .l (encK T), .l P, .l L, .s x] = some [.i (lb (qK x) T : Int)] := by
  rw [eqbq_i]
  refine zpv (f := fun lo hi => Lqbq (some 2) [.i (lo : Int), .i (hi : Int), .s x, .i w, .i now, .i g, .i b, .l (encK T), .l P, .l L]) (q := fun j => qK x (nth K0 T j)) (lb_le _ _) (fun j hj => lb_lt _ K0 _ _ hj) (fun j h1 h2 => lb_hi K0 h (fun a c hac hc => zbh hac hc) j h1 h2) (fun lo hi hl hh => ?_) (fun lo hl => ?_)
  · show Lqbq _ _ = _
    rw [eqbq_2, zrz (by omega), eqcz_i]
    have : (lo + hi) / 2 < hi := by omega
    generalize (lo + hi) / 2 = m at this
    simp (disch := omega) only [push_cast]
    unfold qK
    cases slt (nth K0 T m).sum x <;> rfl
  · show Lqbq _ _ = _
    rw [eqbq_2]; simp (disch := omega) only [push_cast]
theorem zd5 (w now g b : Int) (T : List Kept) (P L : Rw) (x : Bs) (h : SrtK T) (hn : T.length ≤ 1000000) :
    Lqbr none [.s x, .i w, .i now, .i g, .i b, .l (encK T), .l P, .l L] = some [.i (lb (qK x) T : Int), .b (decide (hasT T x))] := by
  have hl := lb_le (qK x) T
  have hi := zbv h x
  rw [eqbr_i, zds, zmj w now g b T P L x h hn]
  by_cases h1 : lb (qK x) T < T.length
  · simp (disch := omega) only [push_cast]
    by_cases h2 : (nth K0 T (lb (qK x) T)).sum = x
    · rw [decide_eq_true h2, decide_eq_true (hi.2 ⟨h1, h2⟩)]
    · rw [decide_eq_false h2, decide_eq_false fun h3 => h2 (hi.1 h3).2]
  · simp (disch := omega) only [push_cast]
    rw [decide_eq_false fun h3 => h1 (hi.1 h3).1]
theorem zdc {α : Type} {f : Nat → Option Lv} {l : List α} (d : α) {p : α → Prop} [DecidablePred p] {T E : Option Lv} (step : ∀ i, i < l.length → f i = cond (decide (p (nth d l i))) T (f (i + 1))) (last : f l.length = E) : f 0 = if (∃ a ∈ l, p a) then T else E := by
  have := zje (f := f) (l := l) (d := d) (p := fun a => decide (p a)) (ret := fun _ => T) (e := E) step last
  rw [this]
  by_cases h : ∃ a ∈ l, p a
  · rw [if_pos h]
    cases hf : l.findIdx? (fun a => decide (p a)) with
    | none =>
      rw [List.findIdx?_eq_none_iff] at hf
      obtain ⟨a, ha, hp⟩ := h
      have := hf a ha; simp [hp] at this
    | some i => rfl
  · rw [if_neg h]
    cases hf : l.findIdx? (fun a => decide (p a)) with
    | none => rfl
    | some i =>
      obtain ⟨h1, h2, _⟩ := List.findIdx?_eq_some_iff_getElem.1 hf
      exact absurd ⟨_, List.getElem_mem h1, of_decide_eq_true h2⟩ h
end KV
end
section
namespace KV
open Go Go.Eng
open Classical
noncomputable def findT (T : List Kept) (x : Bs) : Int := if hasT T x then (lb (qK x) T : Int) else -1
theorem zb6 (w now g b : Int) (T : List Kept) (P L : Rw) (x : Bs) (h : SrtK T) (hn : T.length ≤ 1000000) : Lqd none [.i w, .i now, .i g, .i b, .l (encK T), .l P, .l L, .s x] = some [.i (findT T x)] := by
  rw [eqd_i]
  have := zje (f := fun i : Nat => Lqd (some 2) [.s x, .i (i : Int), .i w, .i now, .i g, .i b, .l (encK T), .l P, .l L]) (l := T) (d := K0) (p := fun k => decide (k.sum = x)) (ret := fun i => some [.i (i : Int)]) (e := some [.i (-1)]) (fun i hi => by
    show Lqd _ _ = cond _ _ (Lqd _ _)
    rw [eqd_2]; simp (disch := omega) only [push_cast]) (by show Lqd _ _ = _; rw [eqd_2]; simp (disch := omega) only [push_cast])
  refine this.trans ?_
  rw [zlr K0 h (kp x) (kR x)]
  unfold findT
  by_cases hT : hasT T x
  · rw [if_pos hT, if_pos (show ∃ a ∈ T, a.sum = x from hT)]
  · rw [if_neg hT, if_neg (show ¬ ∃ a ∈ T, a.sum = x from hT)]
theorem zbe {T : List Kept} {x : Bs} : findT T x < 0 ↔ ¬ hasT T x := by
  unfold findT; split
  · rename_i h; simp [h]
  · rename_i h; simp [h]
def zq (o : Out) : Lv := if o.code = 0 then [.i 0, .i o.st.width, .i o.st.now, .i o.st.given, .i o.st.births, .l (encK o.st.things), .l (encP o.st.pins), .s o.sum, .i o.lease, .s o.a, .s o.b, .l (encL o.st.leases)]
  else [.i o.code, .i 0, .i 0, .i 0, .i 0, .l [], .l [], .s o.sum, .i o.lease, .s o.a, .s o.b, .l []]
theorem zo (l : List Bs) (x : Bs) (h : l.length ≤ 4611686018427387904) : Lqe none [.l (encS l), .s x] = some [.b (decide (x ∈ l))] := by
  rw [eqe_i]
  have := zdc (f := fun i : Nat => Lqe (some 2) [.l (encS l), .s x, .i (i : Int)]) .empty (l := l) (p := fun r => r = x) (T := some [.b true]) (E := some [.b false]) (fun i hi => by
    show Lqe _ _ = cond _ _ (Lqe _ _)
    rw [eqe_2]; simp (disch := omega) only [push_cast]) (by show Lqe _ _ = _; rw [eqe_2]; simp (disch := omega) only [push_cast])
  refine this.trans ?_
  by_cases h : ∃ r ∈ l, r = x
  · rw [if_pos h, decide_eq_true (p := x ∈ l) (by obtain ⟨r, hr, rfl⟩ := h; exact hr)]
  · rw [if_neg h, decide_eq_false (p := x ∈ l) (fun h3 => h ⟨x, h3, rfl⟩)]
theorem zjw (s : State) (x : Bs) (h1 : s.pins.length ≤ 1000000) (h2 : s.leases.length ≤ 1000000) : Lqr none (encSt s ++ [.s x]) = some [.b (decide (held s x))] := by
  show Lqr none [.i s.width, .i s.now, .i s.given, .i s.births, .l (encK s.things), .l (encP s.pins), .l (encL s.leases), .s x] = _
  rw [eqr_i]
  have a1 := zdc (f := fun i : Nat => Lqr (some 7) [.s x, .i (i : Int), .i s.width, .i s.now, .i s.given, .i s.births, .l (encK s.things), .l (encP s.pins), .l (encL s.leases)]) L0 (l := s.leases) (p := fun l => l.sum = x) (T := some [.b true]) (E := some [.b false]) (fun i hi => by
    show Lqr _ _ = cond _ _ (Lqr _ _)
    rw [eqr_7]; simp (disch := omega) only [push_cast]) (by show Lqr _ _ = _; rw [eqr_7]; simp (disch := omega) only [push_cast])
  have a2 := zdc (f := fun i : Nat => Lqr (some 2) [.s x, .i (i : Int), .i s.width, .i s.now, .i s.given, .i s.births, .l (encK s.things), .l (encP s.pins), .l (encL s.leases)]) P0 (l := s.pins) (p := fun l => l.sum = x) (T := some [.b true]) (E := Lqr (some 7) [.s x, .i 0, .i s.width, .i s.now, .i s.given, .i s.births, .l (encK s.things), .l (encP s.pins), .l (encL s.leases)]) (fun i hi => by
    show Lqr _ _ = cond _ _ (Lqr _ _)
    rw [eqr_2]; simp (disch := omega) only [push_cast]) (by show Lqr _ _ = _; rw [eqr_2]; simp (disch := omega) only [push_cast])
  refine a2.trans ?_
  by_cases h : ∃ p ∈ s.pins, p.sum = x
  · rw [if_pos h, decide_eq_true (p := held s x) (Or.inl h)]
  · rw [if_neg h]
    refine a1.trans ?_
    by_cases h3 : ∃ l ∈ s.leases, l.sum = x
    · rw [if_pos h3, decide_eq_true (p := held s x) (Or.inr h3)]
    · rw [if_neg h3, decide_eq_false (p := held s x) (by rintro (h4 | h4); exact h h4; exact h3 h4)]
theorem zeh (w now gv b : Int) (T P : Rw) (x : Bs) (m : Int) (L : List Lease) (hl : L.length ≤ 1000000) (hg : 0 ≤ gv ∧ gv ≤ 1000000000) (hn : 0 ≤ now ∧ now ≤ 1000000000) (hm : 0 ≤ m ∧ m ≤ 1000000000) :
    Lqb5 none [.i w, .i now, .i gv, .i b, .l T, .l P, .s x, .i m, .l (encL L)] = some (if L.length < 200 ∧ gv < 1000000000 then [.i 0, .i w, .i now, .i (gv + 1), .i b, .l T, .l P, .s E0, .i (gv + 1), .s E0, .s E0, .l (encL (L ++ [⟨gv + 1, x, now + m⟩]))] else [.i 4, .i 0, .i 0, .i 0, .i 0, .l [], .l [], .s E0, .i 0, .s E0, .s E0, .l []]) := by
  rw [eqb5_i, ← zfm, mostE]
  by_cases h1 : L.length < 200
  · by_cases h2 : gv < 1000000000
    · rw [if_pos ⟨h1, h2⟩]; simp (disch := omega) only [push_cast] <;> rfl
    · rw [if_neg fun h => h2 h.2]; simp (disch := omega) only [push_cast]
  · rw [if_neg fun h => h1 h.1]; simp (disch := omega) only [push_cast]
theorem zdm (w now g b : Int) (T : List Kept) (P L : Rw) (hT : T.length ≤ 1000000) (hr : ∀ k ∈ T, k.thing.refs.length ≤ 1000000) (hP : P.length ≤ 1000000) (hL : L.length ≤ 1000000) :
    Lqq none [.i w, .i now, .i g, .i b, .l (encK T), .l P, .l L] = some [.i w, .i now, .i g, .i b, .l (encK T), .l P, .l L] := by
  rw [eqq_i]
  have := zu (f := fun (i : Nat) (a : List Kept) => Lqq (some 4) [.i (i : Int), .i w, .i now, .i g, .i b, .l (encK T), .l P, .l L, .i 0, .i 0, .i 0, .i 0, .i w, .i now, .i g, .i b, .l P, .l L, .l [], .l [], .l [], .l (encK a)]) (n := T.length) (T := some [.i w, .i now, .i g, .i b, .l (encK T), .l P, .l L])
    (I := fun i a => a = T.take i) (fun i a hi hI => ⟨a ++ [nth K0 T i], by
      show Lqq _ _ = Lqq _ _
      have hk := hr _ (zh (d := K0) hi)
      have hl : a.length ≤ i := by rw [hI]; simp; omega
      rw [eqq_4, mostE, ← zbj]
      simp (disch := omega) only [push_cast, ze6 _ (encS (nth K0 T i).thing.refs) (by rw [zbn]; omega)] <;> rfl, by show a ++ [nth K0 T i] = _; rw [zz K0 hi, hI]⟩) (fun a hI => by
      show Lqq _ _ = _
      rw [eqq_4, mostE]
      simp (disch := omega) only [push_cast, List.nil_append]
      rw [hI, List.take_length]) 0 [] (Nat.zero_le _) rfl
  exact this
section
variable {s : State} {e : Entry} (V : VS s)
include V
theorem zb3 : ∀ k ∈ s.things, k.thing.refs.length ≤ 1000000 := fun k hk => by have := (V.okT k hk).1.refs; omega
theorem zry (x : Bs) (bn : Int) (t : Thing) (hx : ¬ hasT s.things x) (hb : 0 ≤ bn ∧ bn ≤ 1000000000) (hm : 0 ≤ e.number ∧ e.number ≤ 1000000000) :
    Lqo (some 20) [.s x, .b false, .i 0, .i s.width, .i s.now, .i s.given, .i bn, .l (encK s.things), .l (encP s.pins), .i e.kind, .s e.sum, .s e.name, .i e.number, .s e.thing.text, .l (encS e.thing.refs), .i 0, .i 0, .i 0, .i 0, .i 0, .s E0, .i 0, .s E0, .s E0, .l [], .s x, .i bn, .s t.text, .l (encS t.refs), .l (encL s.leases), .l [], .l [], .l []] =
      some (if room s then [.i 0, .i s.width, .i s.now, .i (s.given + 1), .i bn, .l (encK (insK ⟨x, bn, t⟩ s.things)), .l (encP s.pins), .s x, .i (s.given + 1), .s E0, .s E0, .l (encL (s.leases ++ [⟨s.given + 1, x, s.now + e.number⟩]))] else [.i 4, .i 0, .i 0, .i 0, .i 0, .l [], .l [], .s E0, .i 0, .s E0, .s E0, .l []]) := by
  have h1 := V.nT; have h2 := V.nL
  have hl := lb_le (qK x) s.things
  have := zu (f := fun (i : Nat) (a : Bool × List Kept) => Lqo (some 20) [.s x, .b a.1, .i (i : Int), .i s.width, .i s.now, .i s.given, .i bn, .l (encK s.things), .l (encP s.pins), .i e.kind, .s e.sum, .s e.name, .i e.number, .s e.thing.text, .l (encS e.thing.refs), .i 0, .i 0, .i 0, .i 0, .i 0, .s E0, .i 0, .s E0, .s E0, .l (encK a.2), .s x, .i bn, .s t.text, .l (encS t.refs), .l (encL s.leases), .l [], .l [], .l []]) (n := s.things.length)
    (T := some (if room s then [.i 0, .i s.width, .i s.now, .i (s.given + 1), .i bn, .l (encK (insK ⟨x, bn, t⟩ s.things)), .l (encP s.pins), .s x, .i (s.given + 1), .s E0, .s E0, .l (encL (s.leases ++ [⟨s.given + 1, x, s.now + e.number⟩]))] else [.i 4, .i 0, .i 0, .i 0, .i 0, .l [], .l [], .s E0, .i 0, .s E0, .s E0, .l []]))
    (I := fun i a => (i ≤ lb (qK x) s.things ∧ a = (false, s.things.take i)) ∨ (lb (qK x) s.things < i ∧ a = (true, s.things.take (lb (qK x) s.things) ++ ⟨x, bn, t⟩ :: (s.things.drop (lb (qK x) s.things)).take (i - lb (qK x) s.things)))) (fun i a hi hI => by
      rcases hI with ⟨hi2, rfl⟩ | ⟨hi2, rfl⟩
      · rcases Nat.eq_or_lt_of_le hi2 with he | hlt
        · refine ⟨(true, (s.things.take i ++ [⟨x, bn, t⟩]) ++ [nth K0 s.things i]), ?_, .inr ⟨by omega, ?_⟩⟩
          · show Lqo _ _ = Lqo _ _
            have c1 : slt (nth K0 s.things i).sum x = false := by rw [he]; exact lb_at (qK x) K0 s.things (by omega)
            have c2 : ¬ (nth K0 s.things i).sum = x := fun h => hx ⟨_, zh hi, h⟩
            rw [eqo_20, mostE, ← zbj, ← zbj]
            simp (disch := omega) only [push_cast, c1, Bool.false_or, decide_eq_false c2, List.length_append, List.length_take]
            rw [zdp, zdp]
          · rw [← he, Nat.add_sub_cancel_left, zdy K0 hi]; simp
        · refine ⟨(false, s.things.take i ++ [nth K0 s.things i]), ?_, .inl ⟨hlt, by rw [zz K0 hi]⟩⟩
          show Lqo _ _ = Lqo _ _
          have c1 : slt (nth K0 s.things i).sum x = true := lb_lt (qK x) K0 s.things i hlt
          rw [eqo_20, mostE, ← zbj]
          simp (disch := omega) only [push_cast, c1, Bool.true_or, List.length_append, List.length_take]
          rw [zdp]
      · refine ⟨(true, (s.things.take (lb (qK x) s.things) ++ ⟨x, bn, t⟩ :: (s.things.drop (lb (qK x) s.things)).take (i - lb (qK x) s.things)) ++ [nth K0 s.things i]), ?_, .inr ⟨by omega, ?_⟩⟩
        · show Lqo _ _ = Lqo _ _
          rw [eqo_20, mostE]
          conv => rhs; rw [← zbj]
          simp (disch := omega) only [push_cast, List.length_append, List.length_take, List.length_drop]
          rw [zdp]
        · congr 1
          have hd : nth K0 s.things i = nth K0 (s.things.drop (lb (qK x) s.things)) (i - lb (qK x) s.things) := by
            rw [zj _ _ _ hi, zj _ _ _ (by simp; omega)]; simp; congr 1; omega
          rw [hd, show i + 1 - lb (qK x) s.things = (i - lb (qK x) s.things) + 1 by omega, zz K0 (by simp; omega)]
          simp) (fun a hI => by
      show Lqo _ _ = _
      rw [eqo_20]
      rcases hI with ⟨hi2, rfl⟩ | ⟨hi2, rfl⟩
      · have hlb : lb (qK x) s.things = s.things.length := by omega
        have hins : insK ⟨x, bn, t⟩ s.things = s.things ++ [⟨x, bn, t⟩] := by
          unfold insK; simp only; rw [hlb, List.take_length, List.drop_length]
        rw [List.take_length, zdp, zbj, hins, mostE]
        simp (disch := omega) only [push_cast, zeh s.width s.now s.given bn _ (encP s.pins) x e.number s.leases (by omega) V.given V.now hm, List.length_append]
        by_cases hr : room s
        · rw [if_pos hr, if_pos (show s.leases.length < 200 ∧ s.given < 1000000000 from hr)]; simp (disch := omega) only [push_cast] <;> rfl
        · rw [if_neg hr, if_neg (show ¬ (s.leases.length < 200 ∧ s.given < 1000000000) from hr)]; simp (disch := omega) only [push_cast] <;> rfl
      · have hins : s.things.take (lb (qK x) s.things) ++ ⟨x, bn, t⟩ :: (s.things.drop (lb (qK x) s.things)).take (s.things.length - lb (qK x) s.things) = insK ⟨x, bn, t⟩ s.things := by
          unfold insK; simp only; rw [List.take_of_length_le (l := s.things.drop _) (by simp)]
        rw [hins]
        simp (disch := omega) only [push_cast, zeh s.width s.now s.given bn _ (encP s.pins) x e.number s.leases (by omega) V.given V.now hm]
        by_cases hr : room s
        · rw [if_pos hr, if_pos (show s.leases.length < 200 ∧ s.given < 1000000000 from hr)]; simp (disch := omega) only [push_cast] <;> rfl
        · rw [if_neg hr, if_neg (show ¬ (s.leases.length < 200 ∧ s.given < 1000000000) from hr)]; simp (disch := omega) only [push_cast] <;> rfl) 0 (false, []) (Nat.zero_le _) (.inl ⟨Nat.zero_le _, rfl⟩)
  exact this
theorem zc2 (x : Bs) (P L : Rw) : Lqd none [.i s.width, .i s.now, .i s.given, .i s.births, .l (encK s.things), .l P, .l L, .s x] = some [.i (findT s.things x)] := by
  have h1 := V.nT
  exact zb6 _ _ _ _ _ _ _ _ V.srtT (by omega)
def zb9 (s : State) (e : Entry) : Lv := [.i s.width, .i s.now, .i s.given, .i s.births, .l (encK s.things), .l (encP s.pins), .i e.kind, .s e.sum, .s e.name, .i e.number, .s e.thing.text, .l (encS e.thing.refs), .l (encL s.leases)]
theorem zpr (h : ThingOk e.thing s.width) (hm : 0 ≤ e.number ∧ e.number ≤ 1000000000) : Lqo none (zb9 s e) = some (zq (putS s e)) := by
  have h1 := V.nT; have h2 := V.nL; have h3 := V.births
  have hz := zbk h
  have hfs := zbo e.thing
  unfold zb9
  rw [eqo_i]
  simp (disch := omega) only [push_cast, zb8, formT, if_pos (zb4.2 h), zck (formM e.thing) s.width (by omega)]
  have hput := putS.eq_1 s e
  have hl := lb_le (qK (sumM (formM e.thing) s.width)) s.things
  generalize hx : sumM (formM e.thing) s.width = x at hl hput ⊢
  have := zdc (f := fun i : Nat => Lqo (some 4) [.s (formM e.thing), .s x, .i (i : Int), .i s.width, .i s.now, .i s.given, .i s.births, .l (encK s.things), .l (encP s.pins), .i e.kind, .s e.sum, .s e.name, .i e.number, .s e.thing.text, .l (encS e.thing.refs), .i 0, .i 0, .i 0, .i 0, .i 0, .s E0, .i 0, .s E0, .s E0, .l (encL s.leases), .l [], .l [], .l []])
    .empty (l := e.thing.refs) (p := fun r => ¬ hasT s.things r) (T := some (zq (fail s 2))) (E := Lqo (some 4) [.s (formM e.thing), .s x, .i (e.thing.refs.length : Int), .i s.width, .i s.now, .i s.given, .i s.births, .l (encK s.things), .l (encP s.pins), .i e.kind, .s e.sum, .s e.name, .i e.number, .s e.thing.text, .l (encS e.thing.refs), .i 0, .i 0, .i 0, .i 0, .i 0, .s E0, .i 0, .s E0, .s E0, .l (encL s.leases), .l [], .l [], .l []]) (fun i hi => by
      show Lqo _ _ = cond _ _ (Lqo _ _)
      rw [eqo_4]
      simp (disch := omega) only [push_cast, zc2 V]
      by_cases hT : hasT s.things (nth .empty e.thing.refs i)
      · rw [decide_eq_false (show ¬ findT s.things (nth .empty e.thing.refs i) < 0 from fun h => zbe.1 h hT), decide_eq_false (not_not_intro hT)]; rfl
      · rw [decide_eq_true (zbe.2 hT), decide_eq_true hT]; rfl) rfl
  refine this.trans ?_
  by_cases hr : ∃ r ∈ e.thing.refs, ¬ hasT s.things r
  · rw [if_pos hr]; unfold putS; rw [if_pos hr]
  rw [if_neg hr, hput, if_neg hr, eqo_4]
  simp (disch := omega) only [push_cast, zc2 V]
  unfold findT
  by_cases hT : hasT s.things x
  · have hi := (zbv V.srtT x).1 hT
    have hk := (V.okT _ (zh (d := K0) hi.1)).1
    rw [if_pos hT, if_pos hT]
    simp (disch := omega) only [push_cast, zb8, formT, if_pos (zb4.2 hk)]
    by_cases hf : formM (nth K0 s.things (lb (qK x) s.things)).thing = formM e.thing
    · rw [if_pos hf, decide_eq_true hf]
      simp (disch := omega) only [push_cast, zeh s.width s.now s.given s.births (encK s.things) (encP s.pins) x e.number s.leases (by omega) V.given V.now hm]
      by_cases hro : room s
      · rw [if_pos hro, if_pos (show s.leases.length < 200 ∧ s.given < 1000000000 from hro)]; simp (disch := omega) only [push_cast] <;> rfl
      · rw [if_neg hro, if_neg (show ¬ (s.leases.length < 200 ∧ s.given < 1000000000) from hro)]; simp (disch := omega) only [push_cast] <;> rfl
    · rw [if_neg hf, decide_eq_false hf]; simp (disch := omega) only [push_cast] <;> rfl
  · rw [if_neg hT, if_neg hT]
    by_cases c1 : s.things.length < 600
    · by_cases c2 : s.births < 1000000000
      · simp (disch := omega) only [push_cast, ze6 _ (encS e.thing.refs) (by rw [zbn]; omega)]
        have := zry (e := e) V x (s.births + 1) e.thing hT (by omega) hm
        rw [this]
        by_cases hro : room s
        · rw [if_pos hro, if_pos ⟨hro, c1, c2⟩]; rfl
        · rw [if_neg hro, if_neg fun h => hro h.1]; rfl
      · simp (disch := omega) only [push_cast]
        rw [if_neg fun h => c2 h.2.2]; rfl
    · simp (disch := omega) only [push_cast]
      rw [if_neg fun h => c1 h.2.1]; rfl
end
end KV
end
section
namespace KV
open Go Go.Eng
open Classical
theorem zq8 {α : Type} {R : α → α → Prop} {q : α → Bool} {p : α → Prop} [DecidablePred p] (d : α) {l : List α} (h : l.Pairwise R) (hp : ∀ a, p a → q a = false) (hR : ∀ a b, R a b → p b → q a = true) :
    (l.drop (lb q l)).filter (fun a => !decide (p a)) = if ∃ a ∈ l, p a then l.drop (lb q l + 1) else l.drop (lb q l) := by
  have tail : ∀ k, lb q l < k → (l.drop k).filter (fun a => !decide (p a)) = l.drop k := fun k hk => by
    apply List.filter_eq_self.2
    intro a ha
    obtain ⟨j, hj, rfl⟩ := List.mem_iff_getElem.1 ha
    simp only [List.getElem_drop, Bool.not_eq_true', decide_eq_false_iff_not]
    rw [List.length_drop] at hj
    rw [← zj d l _ (by omega)]
    intro hpj; have := zcx d h hp hR (show k + j < l.length by omega) hpj; omega
  split
  · rename_i he
    obtain ⟨h1, h2⟩ := (zec d h hp hR).1 he
    rw [zdy d h1, List.filter_cons, if_neg (by simp [h2]), tail _ (by omega)]
  · rename_i he
    apply List.filter_eq_self.2
    intro a ha
    simp only [Bool.not_eq_true', decide_eq_false_iff_not]
    exact fun hpa => he ⟨a, List.mem_of_mem_drop ha, hpa⟩
theorem zk2 {l : List Pin} (h : SrtP l) (n x : Bs) : l.take (lb (qP n) l) ++ ⟨n, x⟩ :: (l.drop (lb (qP n) l)).filter (fun k => !decide (k.name = n)) = putP n x l := by
  rw [zq8 P0 h (pp n) (pR n)]
  unfold putP
  by_cases hP : hasP l n
  · rw [if_pos (show ∃ a ∈ l, a.name = n from hP), if_pos hP, List.set_eq_take_append_cons_drop, if_pos ((zfq h n).1 hP).1]
  · rw [if_neg (show ¬ ∃ a ∈ l, a.name = n from hP), if_neg hP]
theorem znk (l : List Pin) (n x : Bs) : (putP n x l).length = if hasP l n then l.length else l.length + 1 := by
  have := lb_le (qP n) l
  unfold putP; split
  · rw [List.length_set]
  · simp; omega
theorem zdz {α : Type} (d : α) {l : List α} {p : α → Bool} {f : Nat → List α → Option Lv} {T : Option Lv} (step : ∀ i a, i < l.length → a.length ≤ i → f i a = f (i + 1) (if p (nth d l i) = true then a ++ [nth d l i] else a)) (last : f l.length (l.filter p) = T) : f 0 [] = T := by
  refine zu (f := f) (n := l.length) (T := T) (I := fun i a => a = (l.take i).filter p) (fun i a hi hI => ?_) (fun a hI => ?_) 0 [] (Nat.zero_le _) rfl
  · refine ⟨_, step i a hi ?_, ?_⟩
    · rw [hI]; exact Nat.le_trans (List.length_filter_le _ _) (by simp; omega)
    · rw [zz d hi, List.filter_append, ← hI]
      by_cases h : p (nth d l i) = true
      · rw [if_pos h]; simp [h]
      · rw [if_neg h]; simp [h]
  · rw [hI, List.take_length]; exact last
theorem ziz {α : Type} {l : List α} {p : α → Prop} [DecidablePred p] : (l.filter fun a => !decide (p a)).length = l.length ↔ ¬ ∃ a ∈ l, p a := by
  rw [List.length_filter_eq_length_iff]
  simp
def zba (o : Out) : Lv := if o.code = 0 then [.i 0, .i o.st.width, .i o.st.now, .i o.st.given, .i o.st.births, .l (encK o.st.things), .s o.sum, .i o.lease, .s o.a, .s o.b, .l (encP o.st.pins), .l (encL o.st.leases)]
  else [.i o.code, .i 0, .i 0, .i 0, .i 0, .l [], .s o.sum, .i o.lease, .s o.a, .s o.b, .l [], .l []]
theorem zn6 {o : Out} (h : o.code = 0) : zq o = [.i 0, .i o.st.width, .i o.st.now, .i o.st.given, .i o.st.births, .l (encK o.st.things), .l (encP o.st.pins), .s o.sum, .i o.lease, .s o.a, .s o.b, .l (encL o.st.leases)] := by unfold zq; rw [if_pos h]
theorem zny {o : Out} (h : ¬ o.code = 0) : zq o = [.i o.code, .i 0, .i 0, .i 0, .i 0, .l [], .l [], .s o.sum, .i o.lease, .s o.a, .s o.b, .l []] := by unfold zq; rw [if_neg h]
section
variable {s : State} {e : Entry} (V : VS s)
include V
theorem znn (hk : e.kind = 2) : Lqw none (zb9 s e) = some (zba (chg s e)) := by
  have h2 := V.nP
  have hl := lb_le (qP e.name) s.pins
  unfold zb9 chg
  rw [eqw_i, if_neg (by omega), if_pos hk]
  simp (disch := omega) only [push_cast, zc2 V]
  by_cases hT : hasT s.things e.sum
  · rw [if_pos hT, decide_eq_false (show ¬ findT s.things e.sum < 0 from fun h => zbe.1 h hT)]
    simp (disch := omega) only [push_cast]
    have := zu (f := fun (i : Nat) (a : Bool × List Pin) => Lqw (some 6) [.b a.1, .i (i : Int), .i s.width, .i s.now, .i s.given, .i s.births, .l (encK s.things), .l (encP s.pins), .i e.kind, .s e.sum, .s e.name, .i e.number, .s e.thing.text, .l (encS e.thing.refs), .i 0, .i 0, .i 0, .i 0, .i 0, .s E0, .i 0, .s E0, .s E0, .l (encP a.2), .l (encL s.leases), .l [], .l [], .l []]) (n := s.pins.length)
      (T := some (zba (if hasP s.pins e.name ∨ s.pins.length < 100 then done { s with pins := putP e.name e.sum s.pins } else fail s 4)))
      (I := fun i a => (i ≤ lb (qP e.name) s.pins ∧ a = (false, s.pins.take i)) ∨ (lb (qP e.name) s.pins < i ∧ a = (true, s.pins.take (lb (qP e.name) s.pins) ++ ⟨e.name, e.sum⟩ :: ((s.pins.drop (lb (qP e.name) s.pins)).take (i - lb (qP e.name) s.pins)).filter (fun k => !decide (k.name = e.name))))) (fun i a hi hI => by
        have step11 : ∀ (b : Bool) (l : List Pin), l.length ≤ 1000 → Lqw (some 11) [.b b, .i (i : Int), .i s.width, .i s.now, .i s.given, .i s.births, .l (encK s.things), .l (encP s.pins), .i e.kind, .s e.sum, .s e.name, .i e.number, .s e.thing.text, .l (encS e.thing.refs), .i 0, .i 0, .i 0, .i 0, .i 0, .s E0, .i 0, .s E0, .s E0, .l (encP l), .l (encL s.leases), .l [], .l [], .l []] =
            Lqw (some 6) [.b b, .i ((i + 1 : Nat) : Int), .i s.width, .i s.now, .i s.given, .i s.births, .l (encK s.things), .l (encP s.pins), .i e.kind, .s e.sum, .s e.name, .i e.number, .s e.thing.text, .l (encS e.thing.refs), .i 0, .i 0, .i 0, .i 0, .i 0, .s E0, .i 0, .s E0, .s E0, .l (encP (if (nth P0 s.pins i).name = e.name then l else l ++ [nth P0 s.pins i])), .l (encL s.leases), .l [], .l [], .l []] := fun b l hll => by
          rw [eqw_11, mostE]
          by_cases hc : (nth P0 s.pins i).name = e.name
          · rw [if_pos hc]; simp (disch := omega) only [push_cast]
          · rw [if_neg hc, ← zcm]; simp (disch := omega) only [push_cast]; rfl
        rcases hI with ⟨hi2, rfl⟩ | ⟨hi2, rfl⟩
        · rcases Nat.eq_or_lt_of_le hi2 with he | hlt
          · refine ⟨_, ?_, .inr ⟨by omega, rfl⟩⟩
            show Lqw _ _ = Lqw _ _
            have c1 : slt (nth P0 s.pins i).name e.name = false := by rw [he]; exact lb_at (qP e.name) P0 s.pins (by omega)
            rw [eqw_6, mostE]
            simp (disch := omega) only [push_cast, c1, List.length_append, List.length_take]
            rw [zez, zcm, step11 true _ (by simp; omega)]
            rw [← he, Nat.add_sub_cancel_left, zdy P0 hi]
            by_cases hc : (nth P0 s.pins i).name = e.name
            · simp [hc]
            · simp [hc]
          · refine ⟨(false, s.pins.take (i + 1)), ?_, .inl ⟨hlt, rfl⟩⟩
            show Lqw _ _ = Lqw _ _
            have c1 : slt (nth P0 s.pins i).name e.name = true := lb_lt (qP e.name) P0 s.pins i hlt
            have c2 : ¬ (nth P0 s.pins i).name = e.name := zlt c1
            rw [eqw_6, mostE]
            simp (disch := omega) only [push_cast, c1]
            rw [step11 false _ (by simp; omega), if_neg c2, zz P0 hi]; simp (disch := omega) only [push_cast]
        · have hfl := List.length_filter_le (fun k : Pin => !decide (k.name = e.name)) ((s.pins.drop (lb (qP e.name) s.pins)).take (i - lb (qP e.name) s.pins))
          simp only [List.length_take, List.length_drop] at hfl
          refine ⟨_, ?_, .inr ⟨by omega, rfl⟩⟩
          show Lqw _ _ = Lqw _ _
          rw [eqw_6]
          simp (disch := omega) only [push_cast]
          rw [step11 true _ (by simp; omega)]
          have hd : nth P0 s.pins i = nth P0 (s.pins.drop (lb (qP e.name) s.pins)) (i - lb (qP e.name) s.pins) := by
            rw [zj _ _ _ hi, zj _ _ _ (by simp; omega)]; simp; congr 1; omega
          rw [show i + 1 - lb (qP e.name) s.pins = (i - lb (qP e.name) s.pins) + 1 by omega, zz P0 (by simp; omega), ← hd]
          by_cases hc : (nth P0 s.pins i).name = e.name
          · simp [hc, List.filter_append]
          · simp [hc, List.filter_append]) (fun a hI => by
        show Lqw _ _ = _
        have hpl := znk s.pins e.name e.sum
        rw [eqw_6]
        rcases hI with ⟨hi2, rfl⟩ | ⟨hi2, rfl⟩
        · have hlb : lb (qP e.name) s.pins = s.pins.length := by omega
          have hnP : ¬ hasP s.pins e.name := fun h => by have := ((zfq V.srtP e.name).1 h).1; omega
          have hF : s.pins ++ [⟨e.name, e.sum⟩] = putP e.name e.sum s.pins := by
            rw [← zk2 V.srtP, hlb, List.take_length, List.drop_length]; rfl
          rw [List.take_length, zez, zcm, hF, mostE]
          rw [if_neg hnP] at hpl
          by_cases hc : s.pins.length < 100
          · rw [if_pos (Or.inr hc)]
            simp (disch := omega) only [push_cast, hpl, List.length_append] <;> rfl
          · rw [if_neg (by rintro (h | h); exact hnP h; exact hc h)]
            simp (disch := omega) only [push_cast, hpl, List.length_append] <;> rfl
        · rw [List.take_of_length_le (l := s.pins.drop _) (by simp), zk2 V.srtP]
          by_cases hP : hasP s.pins e.name
          · rw [if_pos hP] at hpl
            rw [if_pos (Or.inl hP)]
            simp (disch := omega) only [push_cast, hpl] <;> rfl
          · rw [if_neg hP] at hpl
            by_cases hc : s.pins.length < 100
            · rw [if_pos (Or.inr hc)]
              simp (disch := omega) only [push_cast, hpl] <;> rfl
            · rw [if_neg (by rintro (h | h); exact hP h; exact hc h)]
              simp (disch := omega) only [push_cast, hpl] <;> rfl) 0 (false, []) (Nat.zero_le _) (.inl ⟨Nat.zero_le _, rfl⟩)
    exact this
  · rw [if_neg hT, decide_eq_true (zbe.2 hT)]; simp (disch := omega) only [push_cast] <;> rfl
theorem zo4 (hk : e.kind = 3) : Lqbk none [.i s.width, .i s.now, .i s.given, .i s.births, .l (encK s.things), .l (encP s.pins), .s e.name, .l (encL s.leases)] = some (zba (chg s e)) := by
  have h2 := V.nP
  unfold chg
  rw [eqbk_i, if_neg (by omega), if_neg (by omega), if_pos hk]
  refine zdz P0 (l := s.pins) (p := fun k => !decide (k.name = e.name)) (f := fun i a => Lqbk (some 3) [.s e.name, .i (i : Int), .i s.width, .i s.now, .i s.given, .i s.births, .l (encK s.things), .l (encP s.pins), .i 0, .i 0, .i 0, .i 0, .i 0, .s E0, .i 0, .s E0, .s E0, .l (encP a), .l (encL s.leases), .l [], .l [], .l []]) (fun i a hi ha => ?_) ?_
  · show Lqbk _ _ = Lqbk _ _
    rw [eqbk_3, mostE]
    by_cases hc : (nth P0 s.pins i).name = e.name
    · rw [if_neg (by simp [hc])]; simp (disch := omega) only [push_cast]
    · rw [if_pos (by simp [hc]), ← zcm]; simp (disch := omega) only [push_cast] <;> rfl
  · show Lqbk _ _ = _
    rw [eqbk_3]
    have hfl := ziz (l := s.pins) (p := fun k => k.name = e.name)
    by_cases hP : hasP s.pins e.name
    · rw [if_pos hP]
      have : ¬ (s.pins.filter fun a => !decide (a.name = e.name)).length = s.pins.length := fun h => hfl.1 h hP
      simp (disch := omega) only [push_cast] <;> rfl
    · rw [if_neg hP]
      have : (s.pins.filter fun a => !decide (a.name = e.name)).length = s.pins.length := hfl.2 hP
      simp (disch := omega) only [push_cast] <;> rfl
theorem zq6 (hk : e.kind = 5) : Lqbl none [.i s.width, .i s.now, .i s.given, .i s.births, .l (encK s.things), .l (encP s.pins), .i e.number, .l (encL s.leases)] = some (zq (chg s e)) := by
  have h2 := V.nL
  unfold chg
  rw [eqbl_i, if_neg (by omega), if_neg (by omega), if_neg (by omega), if_neg (by omega), if_pos hk]
  refine zdz L0 (l := s.leases) (p := fun k => !decide (k.number = e.number)) (f := fun i a => Lqbl (some 3) [.i e.number, .i (i : Int), .i s.width, .i s.now, .i s.given, .i s.births, .l (encK s.things), .l (encP s.pins), .i 0, .i 0, .i 0, .i 0, .i 0, .s E0, .i 0, .s E0, .s E0, .l (encL a), .l (encL s.leases), .l [], .l [], .l []]) (fun i a hi ha => ?_) ?_
  · show Lqbl _ _ = Lqbl _ _
    rw [eqbl_3, mostE]
    by_cases hc : (nth L0 s.leases i).number = e.number
    · rw [if_neg (by simp [hc])]; simp (disch := omega) only [push_cast]
    · rw [if_pos (by simp [hc]), ← zfm]; simp (disch := omega) only [push_cast] <;> rfl
  · show Lqbl _ _ = _
    rw [eqbl_3]
    have hfl := ziz (l := s.leases) (p := fun k => k.number = e.number)
    by_cases hP : hasL s.leases e.number
    · rw [if_pos hP]
      have : ¬ (s.leases.filter fun a => !decide (a.number = e.number)).length = s.leases.length := fun h => hfl.1 h hP
      simp (disch := omega) only [push_cast] <;> rfl
    · rw [if_neg hP]
      have : (s.leases.filter fun a => !decide (a.number = e.number)).length = s.leases.length := hfl.2 hP
      simp (disch := omega) only [push_cast] <;> rfl
theorem zqn (hk : e.kind = 6) (hm : 0 ≤ e.number ∧ e.number ≤ 1000000000) : Lqbm none [.i s.width, .i s.now, .i s.given, .i s.births, .l (encK s.things), .l (encP s.pins), .i e.number, .l (encL s.leases)] = some (zq (chg s e)) := by
  have h2 := V.nL; have h3 := V.now
  unfold chg
  rw [eqbm_i, if_neg (by omega), if_neg (by omega), if_neg (by omega), if_neg (by omega), if_neg (by omega), if_pos hk]
  by_cases hn : s.now + e.number ≤ 1000000000
  · rw [if_pos hn]
    simp (disch := omega) only [push_cast]
    refine zdz L0 (l := s.leases) (p := fun l => decide (s.now + e.number < l.till)) (f := fun i a => Lqbm (some 6) [.i (i : Int), .i s.width, .i (s.now + e.number), .i s.given, .i s.births, .l (encK s.things), .l (encP s.pins), .i 0, .i 0, .i 0, .i 0, .i 0, .s E0, .i 0, .s E0, .s E0, .l (encL a), .l (encL s.leases), .l [], .l [], .l []]) (fun i a hi ha => ?_) ?_
    · show Lqbm _ _ = Lqbm _ _
      rw [eqbm_6, mostE]
      by_cases hc : s.now + e.number < (nth L0 s.leases i).till
      · rw [if_pos (by simp [hc]), ← zfm]; simp (disch := omega) only [push_cast] <;> rfl
      · rw [if_neg (by simp [hc])]; simp (disch := omega) only [push_cast]
    · show Lqbm _ _ = _
      rw [eqbm_6]; simp (disch := omega) only [push_cast] <;> rfl
  · rw [if_neg hn]; simp (disch := omega) only [push_cast] <;> rfl
theorem zmh (hr : ¬ isRef s.things e.sum) : Lqy (some 7) [.s e.sum, .i 0, .i s.width, .i s.now, .i s.given, .i s.births, .l (encK s.things), .l (encP s.pins), .i 0, .i 0, .i 0, .i 0, .i 0, .s E0, .i 0, .s E0, .s E0, .l (encK []), .l (encL s.leases), .l [], .l [], .l []] =
    some [.i 0, .i s.width, .i s.now, .i s.given, .i s.births, .l (encP s.pins), .s E0, .i 0, .s E0, .s E0, .l (encK (delK e.sum s.things)), .l (encL s.leases)] := by
  have h1 := V.nT
  refine zdz K0 (l := s.things) (p := fun k => !decide (k.sum = e.sum)) (f := fun i a => Lqy (some 7) [.s e.sum, .i (i : Int), .i s.width, .i s.now, .i s.given, .i s.births, .l (encK s.things), .l (encP s.pins), .i 0, .i 0, .i 0, .i 0, .i 0, .s E0, .i 0, .s E0, .s E0, .l (encK a), .l (encL s.leases), .l [], .l [], .l []]) (fun i a hi ha => ?_) ?_
  · show Lqy _ _ = Lqy _ _
    have hm := zh (d := K0) hi
    have hrl := zb3 V _ hm
    have hn : ¬ e.sum ∈ (nth K0 s.things i).thing.refs := fun h => hr ⟨_, hm, h⟩
    rw [eqy_7, mostE]
    by_cases hc : (nth K0 s.things i).sum = e.sum
    · rw [if_neg (by simp [hc])]; simp (disch := omega) only [push_cast, zo _ e.sum (show (nth K0 s.things i).thing.refs.length ≤ 4611686018427387904 by omega), decide_eq_false hn]
    · rw [if_pos (by simp [hc]), ← zbj]; simp (disch := omega) only [push_cast, zo _ e.sum (show (nth K0 s.things i).thing.refs.length ≤ 4611686018427387904 by omega), decide_eq_false hn] <;> rfl
  · show Lqy _ _ = _
    rw [eqy_7]; simp (disch := omega) only [push_cast] <;> rfl
theorem zp4 (hr : isRef s.things e.sum) : ∀ (i : Nat) (a : List Kept), i ≤ s.things.length → (a.length ≤ i ∧ ∃ j, i ≤ j ∧ j < s.things.length ∧ e.sum ∈ (nth K0 s.things j).thing.refs) → Lqy (some 7) [.s e.sum, .i (i : Int), .i s.width, .i s.now, .i s.given, .i s.births, .l (encK s.things), .l (encP s.pins), .i 0, .i 0, .i 0, .i 0, .i 0, .s E0, .i 0, .s E0, .s E0, .l (encK a), .l (encL s.leases), .l [], .l [], .l []] =
    some [.i 6, .i 0, .i 0, .i 0, .i 0, .l [], .s E0, .i 0, .s E0, .s E0, .l [], .l []] := by
  have h1 := V.nT
  intro i a hi hI
  refine zg5 (f := fun i a => Lqy (some 7) [.s e.sum, .i (i : Int), .i s.width, .i s.now, .i s.given, .i s.births, .l (encK s.things), .l (encP s.pins), .i 0, .i 0, .i 0, .i 0, .i 0, .s E0, .i 0, .s E0, .s E0, .l (encK a), .l (encL s.leases), .l [], .l [], .l []]) (n := s.things.length) (I := fun i a => a.length ≤ i ∧ ∃ j, i ≤ j ∧ j < s.things.length ∧ e.sum ∈ (nth K0 s.things j).thing.refs)
    (T := fun r => r = some [.i 6, .i 0, .i 0, .i 0, .i 0, .l [], .s E0, .i 0, .s E0, .s E0, .l [], .l []]) (fun i a hi hI => ?_) (fun a hI => ?_) i a hi hI
  · obtain ⟨ha, j, hj1, hj2, hj3⟩ := hI
    have hm := zh (d := K0) hi
    have hrl := zb3 V _ hm
    by_cases hn : e.sum ∈ (nth K0 s.things i).thing.refs
    · right
      show Lqy _ _ = _
      rw [eqy_7]
      simp (disch := omega) only [push_cast, zo _ e.sum (show (nth K0 s.things i).thing.refs.length ≤ 4611686018427387904 by omega), decide_eq_true hn]
    · left
      have hj : i + 1 ≤ j := by
        rcases Nat.eq_or_lt_of_le hj1 with h | h
        · rw [h] at hn; exact absurd hj3 hn
        · exact h
      by_cases hc : (nth K0 s.things i).sum = e.sum
      · refine ⟨a, ?_, by omega, j, hj, hj2, hj3⟩
        show Lqy _ _ = Lqy _ _
        rw [eqy_7]
        simp (disch := omega) only [push_cast, zo _ e.sum (show (nth K0 s.things i).thing.refs.length ≤ 4611686018427387904 by omega), decide_eq_false hn]
      · refine ⟨a ++ [nth K0 s.things i], ?_, by simp; omega, j, hj, hj2, hj3⟩
        show Lqy _ _ = Lqy _ _
        rw [eqy_7, mostE, ← zbj]
        simp (disch := omega) only [push_cast, zo _ e.sum (show (nth K0 s.things i).thing.refs.length ≤ 4611686018427387904 by omega), decide_eq_false hn] <;> rfl
  · obtain ⟨_, j, h1, h2, _⟩ := hI; omega
theorem zn1 (hk : e.kind = 7) : (Lqy none [.i s.width, .i s.now, .i s.given, .i s.births, .l (encK s.things), .l (encP s.pins), .s e.sum, .l (encL s.leases)]).bind (fun y9 => some [.i ((g y9 0).int), .i ((g y9 1).int), .i ((g y9 2).int), .i ((g y9 3).int), .i ((g y9 4).int), .l ((g y9 10).list), .l ((g y9 5).list), .s ((g y9 6).str), .i ((g y9 7).int), .s ((g y9 8).str), .s ((g y9 9).str), .l ((g y9 11).list)]) = some (zq (chg s e)) := by
  have h2 := V.nP; have h3 := V.nL
  have hh := zjw s e.sum (by omega) (by omega)
  unfold encSt at hh
  unfold chg
  rw [eqy_i, if_neg (by omega), if_neg (by omega), if_neg (by omega), if_neg (by omega), if_neg (by omega), if_neg (by omega)]
  simp (disch := omega) only [push_cast, zc2 V, show Lqr none [.i s.width, .i s.now, .i s.given, .i s.births, .l (encK s.things), .l (encP s.pins), .l (encL s.leases), .s e.sum] = _ from hh]
  by_cases hT : hasT s.things e.sum
  · rw [if_pos hT, decide_eq_false (show ¬ findT s.things e.sum < 0 from fun h => zbe.1 h hT)]
    by_cases c1 : held s e.sum
    · rw [if_pos (Or.inl c1), decide_eq_true c1]; simp (disch := omega) only [push_cast] <;> rfl
    · rw [decide_eq_false c1]
      by_cases c2 : isRef s.things e.sum
      · rw [if_pos (Or.inr c2)]
        have := zp4 V c2 0 [] (Nat.zero_le _) ⟨Nat.le_refl _, by
          obtain ⟨k, hk1, hk2⟩ := c2
          obtain ⟨j, hj, rfl⟩ := z8 K0 hk1
          exact ⟨j, Nat.zero_le _, hj, hk2⟩⟩
        simp (disch := omega) only [push_cast]
        rw [show Lqy (some 7) [.s e.sum, .i 0, .i s.width, .i s.now, .i s.given, .i s.births, .l (encK s.things), .l (encP s.pins), .i 0, .i 0, .i 0, .i 0, .i 0, .s E0, .i 0, .s E0, .s E0, .l [], .l (encL s.leases), .l [], .l [], .l []] = _ from this]
        rfl
      · rw [if_neg (by rintro (h | h); exact c1 h; exact c2 h)]
        have := zmh V c2
        simp (disch := omega) only [push_cast]
        rw [show Lqy (some 7) [.s e.sum, .i 0, .i s.width, .i s.now, .i s.given, .i s.births, .l (encK s.things), .l (encP s.pins), .i 0, .i 0, .i 0, .i 0, .i 0, .s E0, .i 0, .s E0, .s E0, .l [], .l (encL s.leases), .l [], .l [], .l []] = _ from this]
        rfl
  · rw [if_neg hT, decide_eq_true (zbe.2 hT)]; simp (disch := omega) only [push_cast] <;> rfl
theorem zfp (o : Out) : [Lf.i ((g (zq o) 0).int), .i ((g (zq o) 1).int), .i ((g (zq o) 2).int), .i ((g (zq o) 3).int), .i ((g (zq o) 4).int), .l ((g (zq o) 5).list), .l ((g (zq o) 6).list), .s ((g (zq o) 7).str), .i ((g (zq o) 8).int), .s ((g (zq o) 9).str), .s ((g (zq o) 10).str), .l ((g (zq o) 11).list)] = zq o := by
  unfold zq; split <;> rfl
theorem zil (o : Out) : [Lf.i ((g (zba o) 0).int), .i ((g (zba o) 1).int), .i ((g (zba o) 2).int), .i ((g (zba o) 3).int), .i ((g (zba o) 4).int), .l ((g (zba o) 5).list), .l ((g (zba o) 10).list), .s ((g (zba o) 6).str), .i ((g (zba o) 7).int), .s ((g (zba o) 8).str), .s ((g (zba o) 9).str), .l ((g (zba o) 11).list)] = zq o := by
  unfold zq zba; split <;> rfl
theorem zi9 (he : zi e s.width = true) : Lqb6 none (zb9 s e) = some (zq (chg s e)) := by
  have h1 := V.nT; have h2 := V.nL; have h4 := V.nP
  have hnum := EntryOk.num he; have hk := EntryOk.kd he
  have hc : e.kind = 1 ∨ e.kind = 2 ∨ e.kind = 3 ∨ e.kind = 4 ∨ e.kind = 5 ∨ e.kind = 6 ∨ e.kind = 7 := by omega
  unfold zb9
  rw [eqb6_i]
  rcases hc with h | h | h | h | h | h | h
  · have := zpr V (EntryOk.thing he h) hnum
    unfold zb9 at this
    have hp : chg s e = putS s e := by unfold chg; rw [if_pos h]
    simp (disch := omega) only [push_cast]
    rw [this, Option.bind_some, zfp V, hp]
  · have := znn V h
    unfold zb9 at this
    simp (disch := omega) only [push_cast]
    rw [this, Option.bind_some, zil V]
  · have := zo4 V h
    simp (disch := omega) only [push_cast]
    rw [this, Option.bind_some, zil V]
  · simp (disch := omega) only [push_cast, zc2 V]
    unfold chg
    rw [if_neg (by omega), if_neg (by omega), if_neg (by omega), if_pos h]
    by_cases hT : hasT s.things e.sum
    · rw [if_pos hT, decide_eq_false (show ¬ findT s.things e.sum < 0 from fun h => zbe.1 h hT)]
      simp (disch := omega) only [push_cast, zdm s.width s.now s.given s.births s.things (encP s.pins) (encL s.leases) (by omega) (zb3 V) (by rw [zdg]; omega) (by rw [zdn]; omega), zeh s.width s.now s.given s.births (encK s.things) (encP s.pins) e.sum e.number s.leases (by omega) V.given V.now hnum]
      by_cases hro : room s
      · rw [if_pos hro, if_pos (show s.leases.length < 200 ∧ s.given < 1000000000 from hro)]; simp (disch := omega) only [push_cast] <;> rfl
      · rw [if_neg hro, if_neg (show ¬ (s.leases.length < 200 ∧ s.given < 1000000000) from hro)]; simp (disch := omega) only [push_cast] <;> rfl
    · rw [if_neg hT, decide_eq_true (zbe.2 hT)]; simp (disch := omega) only [push_cast] <;> rfl
  · have := zq6 V h
    simp (disch := omega) only [push_cast]
    rw [this, Option.bind_some, zfp V]
  · have := zqn V h hnum
    simp (disch := omega) only [push_cast]
    rw [this, Option.bind_some, zfp V]
  · have := zn1 V h
    simp (disch := omega) only [push_cast]
    exact this
end
end KV
end
section
namespace KV
open Go Go.Eng
open Classical
theorem EntryOk.hold {e : Entry} {w : Int} (h : zi e w = true) (hk : e.kind = 1 ∨ e.kind = 4 ∨ e.kind = 6) : 1 ≤ e.number ∧ e.number ≤ 100000 := by
  unfold zi numB at h; simp only [Bool.and_eq_true, decide_eq_true_eq] at h
  have := h.2.2.2.2.1
  rw [if_pos hk] at this
  exact of_decide_eq_true this
theorem EntryOk.name {e : Entry} {w : Int} (h : zi e w = true) (hk : e.kind = 2) : NameOk e.name := by
  unfold zi namB at h; simp only [Bool.and_eq_true, decide_eq_true_eq] at h
  have := h.2.2.2.1
  rw [if_pos (by unfold uN; simp [hk])] at this
  exact zk0.1 this
theorem zda {k a : Kept} {l : List Kept} : a ∈ insK k l ↔ a = k ∨ a ∈ l := by
  unfold insK
  rw [List.mem_append, List.mem_cons]
  conv => rhs; rw [← List.take_append_drop (lb (qK k.sum) l) l, List.mem_append]
  constructor
  · rintro (h | h | h)
    · exact .inr (.inl h)
    · exact .inl h
    · exact .inr (.inr h)
  · rintro (h | h | h)
    · exact .inr (.inl h)
    · exact .inl h
    · exact .inr (.inr h)
theorem zha {α : Type} {l : List α} {i : Nat} {a : α} (d : α) (h : a ∈ l.take i) : ∃ j, j < i ∧ j < l.length ∧ nth d l j = a := by
  obtain ⟨j, hj, rfl⟩ := List.mem_iff_getElem.1 h
  rw [List.length_take] at hj
  exact ⟨j, by omega, by omega, by rw [zj d l j (by omega), List.getElem_take]⟩
theorem zn2 {α : Type} {l : List α} {i : Nat} {a : α} (d : α) (h : a ∈ l.drop i) : ∃ j, i ≤ j ∧ j < l.length ∧ nth d l j = a := by
  obtain ⟨j, hj, rfl⟩ := List.mem_iff_getElem.1 h
  rw [List.length_drop] at hj
  exact ⟨i + j, by omega, by omega, by rw [zj d l _ (by omega), List.getElem_drop]⟩
theorem zh8 {α : Type} {R : α → α → Prop} {q : α → Bool} (d k : α) {l : List α} (h : l.Pairwise R) (mono : ∀ a b, R a b → q b = true → q a = true) (h1 : ∀ a, a ∈ l → q a = true → R a k) (h2 : ∀ a, a ∈ l → q a = false → R k a) (tr : ∀ a b c, R a b → R b c → R a c) : (l.take (lb q l) ++ k :: l.drop (lb q l)).Pairwise R := by
  have hd : ∀ a ∈ l.drop (lb q l), R k a := fun a ha => by
    obtain ⟨j, hj1, hj2, rfl⟩ := zn2 d ha
    exact h2 _ (zh hj2) (lb_hi d h mono j hj1 hj2)
  have ht : ∀ a ∈ l.take (lb q l), R a k := fun a ha => by
    obtain ⟨j, hj1, hj2, rfl⟩ := zha d ha
    exact h1 _ (zh hj2) (lb_lt q d l j hj1)
  rw [List.pairwise_append, List.pairwise_cons]
  refine ⟨h.sublist (List.take_sublist _ _), ⟨hd, h.sublist (List.drop_sublist _ _)⟩, fun a ha b hb => ?_⟩
  rcases List.mem_cons.1 hb with rfl | hb
  · exact ht a ha
  · exact tr _ _ _ (ht a ha) (hd b hb)
theorem zmo {k : Kept} {l : List Kept} (h : SrtK l) (hk : ¬ hasT l k.sum) : SrtK (insK k l) :=
  zh8 (R := fun (a b : Kept) => slt a.sum b.sum = true) (q := qK k.sum) K0 k h (fun a b hab hb => zbh hab hb) (fun a _ ha => ha) (fun a hm ha => by
    rcases zfx.1 (show slt a.sum k.sum = false from ha) with h1 | h1
    · exact absurd ⟨a, hm, h1⟩ hk
    · exact h1) (fun a b c h1 h2 => zbh h1 h2)
theorem zra (k : Kept) (l : List Kept) : (insK k l).length = l.length + 1 := by
  have := lb_le (qK k.sum) l
  unfold insK; simp; omega
theorem zie {k : Kept} {l : List Kept} {x : Bs} (h : hasT l x) : hasT (insK k l) x := by
  obtain ⟨j, h1, h2⟩ := h; exact ⟨j, zda.2 (.inr h1), h2⟩
theorem zpt {l : List Pin} (h : SrtP l) (n x : Bs) : SrtP (putP n x l) := by
  unfold putP
  split
  · rename_i hP
    have hi := (zfq h n).1 hP
    unfold SrtP at h ⊢
    rw [List.pairwise_iff_getElem] at h ⊢
    intro i j hi' hj' hij
    rw [List.length_set] at hi' hj'
    have key : ∀ i (hi' : i < l.length), ((l.set (lb (qP n) l) ⟨n, x⟩)[i]'(by rw [List.length_set]; exact hi')).name = l[i].name := fun i hi' => by
      rw [List.getElem_set]
      split
      · rename_i he
        subst he
        rw [← zj P0 l _ hi']; exact hi.2.symm
      · rfl
    rw [key i hi', key j hj']
    exact h i j hi' hj' hij
  · rename_i hP
    exact zh8 (R := fun (a b : Pin) => slt a.name b.name = true) (q := qP n) P0 ⟨n, x⟩ h (fun a b hab hb => zbh hab hb) (fun a _ ha => ha) (fun a hm ha => by
      rcases zfx.1 (show slt a.name n = false from ha) with h1 | h1
      · exact absurd ⟨a, hm, h1⟩ hP
      · exact h1) (fun a b c h1 h2 => zbh h1 h2)
theorem zoj {l : List Pin} {n x : Bs} {a : Pin} (h : a ∈ putP n x l) : a = ⟨n, x⟩ ∨ a ∈ l := by
  unfold putP at h
  split at h
  · rcases List.mem_or_eq_of_mem_set h with h | h
    · exact .inr h
    · exact .inl h
  · rw [List.mem_append, List.mem_cons] at h
    rcases h with h | h | h
    · exact .inr (List.mem_of_mem_take h)
    · exact .inl h
    · exact .inr (List.mem_of_mem_drop h)
theorem znz (l : List Pin) (n x : Bs) : (putP n x l).length ≤ l.length + 1 ∧ (hasP l n → (putP n x l).length = l.length) := by
  have := lb_le (qP n) l
  unfold putP; split
  · simp
  · rename_i h; exact ⟨by simp; omega, fun h1 => absurd h1 h⟩
theorem zf7 {s : State} (V : VS s) {x : Bs} {m : Int} (hr : room s) (hx : hasT s.things x) (hm : 1 ≤ m ∧ m ≤ 100000) : VS (lent s x m) := by
  have hg := V.given
  obtain ⟨r1, r2⟩ := hr
  refine ⟨V.wd, V.now, ?_, V.births, V.nT, V.nP, ?_, V.srtT, V.okT, V.ndT, V.refs, V.srtP, V.okP, ?_, ?_⟩
  · show 0 ≤ s.given + 1 ∧ s.given + 1 ≤ 1000000000; omega
  · show (s.leases ++ [_]).length ≤ 200; simp; omega
  · show (s.leases ++ [_]).Pairwise _
    rw [List.pairwise_append]
    refine ⟨V.srtL, List.pairwise_singleton _ _, fun a ha b hb => ?_⟩
    rw [List.mem_singleton] at hb
    subst hb
    have := (V.okL a ha).2.1
    show a.number < s.given + 1; omega
  · intro l hl
    show 1 ≤ l.number ∧ l.number ≤ s.given + 1 ∧ hasT s.things l.sum ∧ s.now < l.till ∧ l.till ≤ s.now + 100000
    rcases List.mem_append.1 hl with h | h
    · obtain ⟨a, b, c, d⟩ := V.okL l h; exact ⟨a, by omega, c, d⟩
    · rw [List.mem_singleton] at h
      subst h
      refine ⟨?_, ?_, hx, ?_, ?_⟩ <;> simp only <;> omega
theorem zfb {s : Bs} {w : Int} (hw : 1 ≤ w ∧ w ≤ 8) : ((sumM s w).size : Int) = w := zg4 (zw.2 hw)
theorem zr5 {s : State} (V : VS s) {t : Thing} (ht : ThingOk t s.width) (hx : ¬ hasT s.things (sumM (formM t) s.width)) (hr : ∀ r ∈ t.refs, hasT s.things r) (h1 : s.things.length < 600) (h2 : s.births < 1000000000) :
    VS { s with births := s.births + 1, things := insK ⟨sumM (formM t) s.width, s.births + 1, t⟩ s.things } := by
  have hb := V.births
  refine ⟨V.wd, V.now, V.given, ?_, ?_, V.nP, V.nL, zmo V.srtT hx, ?_, ?_, ?_, V.srtP, ?_, V.srtL, ?_⟩
  · show 0 ≤ s.births + 1 ∧ s.births + 1 ≤ 1000000000; omega
  · show (insK _ _).length ≤ 600; rw [zra]; omega
  · intro k hk
    show ThingOk k.thing s.width ∧ k.sum = sumM (formM k.thing) s.width ∧ 1 ≤ k.born ∧ k.born ≤ s.births + 1
    rcases zda.1 hk with rfl | hk
    · exact ⟨ht, rfl, by simp only; omega, by simp only; omega⟩
    · obtain ⟨a, b, c, d⟩ := V.okT k hk; exact ⟨a, b, c, by omega⟩
  · show ((insK _ _).map (·.born)).Nodup
    unfold insK
    rw [List.map_append, List.map_cons]
    have hp : (List.map (·.born) (s.things.take (lb (qK (sumM (formM t) s.width)) s.things)) ++ (s.births + 1) :: List.map (·.born) (s.things.drop (lb (qK (sumM (formM t) s.width)) s.things))).Perm ((s.births + 1) :: s.things.map (·.born)) := by
      refine List.perm_middle.trans ?_
      rw [← List.map_append, List.take_append_drop]
    rw [hp.nodup_iff, List.nodup_cons]
    refine ⟨fun hm => ?_, V.ndT⟩
    obtain ⟨k, hk, he⟩ := List.mem_map.1 hm
    have := (V.okT k hk).2.2.2; omega
  · intro k hk r hkr
    rcases zda.1 hk with rfl | hk
    · obtain ⟨j, h3, h4⟩ := hr r hkr
      refine ⟨j, zda.2 (.inr h3), h4, ?_⟩
      have := (V.okT j h3).2.2.2
      simp only; omega
    · obtain ⟨j, h3, h4, h5⟩ := V.refs k hk r hkr
      exact ⟨j, zda.2 (.inr h3), h4, h5⟩
  · intro p hp; exact ⟨(V.okP p hp).1, zie (V.okP p hp).2⟩
  · intro l hl; obtain ⟨a, b, c, d⟩ := V.okL l hl; exact ⟨a, b, zie c, d⟩
theorem zd0 {x : Bs} {l : List Kept} {a : Kept} : a ∈ delK x l ↔ a ∈ l ∧ a.sum ≠ x := by unfold delK; simp
theorem znb {s : State} (V : VS s) {x : Bs} (hh : ¬ held s x) (hr : ¬ isRef s.things x) : VS { s with things := delK x s.things } := by
  have hs : (delK x s.things).Sublist s.things := List.filter_sublist
  have keep : ∀ y, y ≠ x → hasT s.things y → hasT (delK x s.things) y := fun y hy ⟨j, h1, h2⟩ => ⟨j, zd0.2 ⟨h1, by rw [h2]; exact hy⟩, h2⟩
  refine ⟨V.wd, V.now, V.given, V.births, Nat.le_trans hs.length_le V.nT, V.nP, V.nL, V.srtT.sublist hs, fun k hk => V.okT k (zd0.1 hk).1, (V.ndT.sublist (hs.map _)), ?_, V.srtP, ?_, V.srtL, ?_⟩
  · intro k hk r hkr
    obtain ⟨j, h3, h4, h5⟩ := V.refs k (zd0.1 hk).1 r hkr
    refine ⟨j, zd0.2 ⟨h3, ?_⟩, h4, h5⟩
    rw [h4]; rintro rfl; exact hr ⟨k, (zd0.1 hk).1, hkr⟩
  · intro p hp; exact ⟨(V.okP p hp).1, keep _ (fun h => hh (.inl ⟨p, hp, h⟩)) (V.okP p hp).2⟩
  · intro l hl; obtain ⟨a, b, c, d⟩ := V.okL l hl; exact ⟨a, b, keep _ (fun h => hh (.inr ⟨l, hl, h⟩)) c, d⟩
theorem zfh {s : State} (V : VS s) {e : Entry} (he : zi e s.width = true) (hc : (chg s e).code = 0) : VS (chg s e).st := by
  have hk := EntryOk.kd he
  unfold chg at hc ⊢
  split at hc
  · rename_i h1
    rw [if_pos h1]
    have hh := EntryOk.hold he (.inl h1)
    have ht := EntryOk.thing he h1
    unfold putS at hc ⊢
    split at hc
    · cases hc
    · rename_i hr
      rw [if_neg hr]
      have hr' : ∀ r ∈ e.thing.refs, hasT s.things r := fun r hr2 => Classical.byContradiction fun h5 => hr ⟨r, hr2, h5⟩
      split at hc
      · rename_i hT
        rw [if_pos hT]
        split at hc
        · rename_i hf
          rw [if_pos hf]
          split at hc
          · rename_i hro; rw [if_pos hro]; exact zf7 V hro hT hh
          · cases hc
        · cases hc
      · rename_i hT
        rw [if_neg hT]
        split at hc
        · rename_i hro
          rw [if_pos hro]
          exact zf7 (zr5 V ht hT hr' hro.2.1 hro.2.2) hro.1 ⟨_, zda.2 (.inl rfl), rfl⟩ hh
        · cases hc
  · rename_i h1
    rw [if_neg h1]
    split at hc
    · rename_i h2
      rw [if_pos h2]
      split at hc
      · rename_i hT
        rw [if_pos hT]
        split at hc
        · rename_i hP
          rw [if_pos hP]
          have hpl := znz s.pins e.name e.sum
          have hn := V.nP
          refine ⟨V.wd, V.now, V.given, V.births, V.nT, ?_, V.nL, V.srtT, V.okT, V.ndT, V.refs, zpt V.srtP _ _, ?_, V.srtL, V.okL⟩
          · show (putP e.name e.sum s.pins).length ≤ 100
            rcases hP with hP | hP
            · rw [hpl.2 hP]; exact hn
            · omega
          · intro p hp
            rcases zoj hp with rfl | hp
            · exact ⟨EntryOk.name he h2, hT⟩
            · exact V.okP p hp
        · cases hc
      · cases hc
    · rename_i h2
      rw [if_neg h2]
      split at hc
      · rename_i h3
        rw [if_pos h3]
        split at hc
        · rename_i hP
          rw [if_pos hP]
          have hs : (delP e.name s.pins).Sublist s.pins := List.filter_sublist
          exact ⟨V.wd, V.now, V.given, V.births, V.nT, Nat.le_trans hs.length_le V.nP, V.nL, V.srtT, V.okT, V.ndT, V.refs, V.srtP.sublist hs, fun p hp => V.okP p (hs.subset hp), V.srtL, V.okL⟩
        · cases hc
      · rename_i h3
        rw [if_neg h3]
        split at hc
        · rename_i h4
          rw [if_pos h4]
          split at hc
          · rename_i hT
            rw [if_pos hT]
            split at hc
            · rename_i hro; rw [if_pos hro]; exact zf7 V hro hT (EntryOk.hold he (.inr (.inl h4)))
            · cases hc
          · cases hc
        · rename_i h4
          rw [if_neg h4]
          split at hc
          · rename_i h5
            rw [if_pos h5]
            split at hc
            · rename_i hP
              rw [if_pos hP]
              have hs : (delL e.number s.leases).Sublist s.leases := List.filter_sublist
              exact ⟨V.wd, V.now, V.given, V.births, V.nT, V.nP, Nat.le_trans hs.length_le V.nL, V.srtT, V.okT, V.ndT, V.refs, V.srtP, V.okP, V.srtL.sublist hs, fun l hl => V.okL l (hs.subset hl)⟩
            · cases hc
          · rename_i h5
            rw [if_neg h5]
            split at hc
            · rename_i h6
              rw [if_pos h6]
              split at hc
              · rename_i hn
                rw [if_pos hn]
                have hh := EntryOk.hold he (.inr (.inr h6))
                have hnow := V.now
                have hs : (s.leases.filter fun l => decide (s.now + e.number < l.till)).Sublist s.leases := List.filter_sublist
                refine ⟨V.wd, ?_, V.given, V.births, V.nT, V.nP, Nat.le_trans hs.length_le V.nL, V.srtT, V.okT, V.ndT, V.refs, V.srtP, V.okP, V.srtL.sublist hs, fun l hl => ?_⟩
                · show 0 ≤ s.now + e.number ∧ s.now + e.number ≤ 1000000000; omega
                · obtain ⟨a, b, c, d, f⟩ := V.okL l (hs.subset hl)
                  have hl2 := (List.mem_filter.1 hl).2
                  simp only [decide_eq_true_eq] at hl2
                  exact ⟨a, b, c, hl2, by show l.till ≤ s.now + e.number + 100000; omega⟩
              · cases hc
            · rename_i h6
              rw [if_neg h6]
              split at hc
              · rename_i hT
                rw [if_pos hT]
                split at hc
                · cases hc
                · rename_i hn
                  rw [if_neg hn]
                  exact znb V (fun h => hn (.inl h)) (fun h => hn (.inr h))
              · cases hc
theorem zgw (s : State) (e : Entry) : (chg s e).st.width = s.width := by
  unfold chg putS fail done lent
  repeat' split
  all_goals rfl
theorem zed {w : Int} (hw : 1 ≤ w ∧ w ≤ 8) : VS ⟨w, 0, 0, 0, [], [], []⟩ := by
  refine ⟨hw, by simp, by simp, by simp, by simp, by simp, by simp, List.Pairwise.nil, (fun k hk => by cases hk), List.nodup_nil, (fun k hk => by cases hk), List.Pairwise.nil, (fun k hk => by cases hk), List.Pairwise.nil, (fun k hk => by cases hk)⟩
end KV
end
section
namespace KV
open Go Go.Eng
open Classical
def empty (w : Int) : State := ⟨w, 0, 0, 0, [], [], []⟩
noncomputable def runL (w : Int) : State → List Bs → Nat → State ⊕ Nat
  | s, [], _ => .inl s
  | s, x :: l, i => match readE x w with
    | none => .inr (i + 1)
    | some e => if (chg s e).code = 0 then runL w (chg s e).st l (i + 1) else .inr (i + 1)
theorem zdw {w : Int} : ∀ (l : List Bs) (s : State) (i : Nat) (s' : State), VS s → s.width = w → runL w s l i = .inl s' → VS s' ∧ s'.width = w
  | [], s, i, s', V, hw, h => by simp only [runL] at h; cases h; exact ⟨V, hw⟩
  | x :: l, s, i, s', V, hw, h => by
    simp only [runL] at h
    split at h
    · cases h
    · rename_i e he
      split at h
      · rename_i hc
        have hE := (zku he).2
        rw [← hw] at hE
        exact zdw l _ _ _ (zfh V hE hc) ((zgw s e).trans hw) h
      · cases h
theorem ze2 {w : Int} : ∀ (l m : List Bs) (s : State) (i : Nat), runL w s (l ++ m) i = match runL w s l i with | .inl s' => runL w s' m (i + l.length) | .inr n => .inr n
  | [], m, s, i => by simp [runL]
  | x :: l, m, s, i => by
    simp only [List.cons_append, runL]
    cases readE x w with
    | none => rfl
    | some e =>
      simp only
      split
      · rw [ze2 l m]; simp only [List.length_cons]; rw [show i + 1 + l.length = i + (l.length + 1) by omega]
      · rfl
def Small (l : List Bs) : Prop := l.length ≤ 1099511627776 ∧ ∀ x ∈ l, x.size ≤ 1099511627776
def zdb : State ⊕ Nat → Lv
  | .inl s => [.i 0, .i s.width, .i s.now, .i s.given, .i s.births, .s E0, .i 0, .s E0, .s E0, .l (encK s.things), .l (encP s.pins), .l (encL s.leases)]
  | .inr n => [.i 7, .i 0, .i 0, .i 0, .i 0, .s E0, .i (n : Int), .s E0, .s E0, .l [], .l [], .l []]
def rep1 : Lv := [.i 1, .i 0, .i 0, .i 0, .i 0, .s E0, .i 0, .s E0, .s E0, .l [], .l [], .l []]
theorem zqo (w : Int) (l : List Bs) (hl : Small l) : ∀ (m i : Nat) (s : State), l.length - i = m → i ≤ l.length → VS s → s.width = w →
    Lqbn (some 5) [.i w, .l (encS l), .i (i : Int), .i 0, .i 0, .i 0, .i 0, .i 0, .s E0, .i 0, .s E0, .s E0, .i s.width, .i s.now, .i s.given, .i s.births, .l (encK s.things), .l (encP s.pins), .l [], .l [], .l [], .l (encL s.leases)] = some (zdb (runL w s (l.drop i) i)) := by
  intro m
  induction m with
  | zero =>
    intro i s hm hi V hw
    have h1 := V.nT; have h2 := V.nP; have h3 := V.nL
    have : i = l.length := by omega
    subst this
    rw [eqbn_5, List.drop_length]
    simp (disch := omega) only [push_cast, zdm s.width s.now s.given s.births s.things (encP s.pins) (encL s.leases) (by omega) (zb3 V) (by rw [zdg]; omega) (by rw [zdn]; omega)]
    rfl
  | succ m ih =>
    intro i s hm hi V hw
    have hlt : i < l.length := by omega
    have hlen := hl.1
    rw [eqbn_5, zdy .empty hlt]
    simp only [runL]
    simp (disch := omega) only [push_cast, zpj (nth .empty l i) w (hl.2 _ (zh hlt))]
    cases he : readE (nth .empty l i) w with
    | none => simp (disch := omega) only [push_cast, encOE] <;> rfl
    | some e =>
      have hE := (zku he).2
      rw [← hw] at hE
      have := zi9 V hE
      unfold zb9 at this
      by_cases hc : (chg s e).code = 0
      · rw [zn6 hc] at this
        simp (disch := omega) only [push_cast, encOE, this]
        rw [if_pos hc]
        exact ih (i + 1) (chg s e).st (by omega) (by omega) (zfh V hE hc) ((zgw s e).trans hw)
      · rw [zny hc] at this
        simp (disch := omega) only [push_cast, encOE, this]
        rw [if_neg hc]; rfl
theorem zk9 (w : Int) (l : List Bs) (hl : Small l) : Lqbn none [.i w, .l (encS l)] = some (if zk w = true ∧ l.length ≤ 4000 then zdb (runL w (empty w) l 0) else rep1) := by
  rw [eqbn_i, zr]
  cases hw : zk w
  · simp (disch := omega) only [push_cast, false_and] <;> rfl
  · by_cases hn : l.length ≤ 4000
    · simp (disch := omega) only [push_cast]
      rw [if_pos ⟨trivial, hn⟩]
      exact zqo w l hl l.length 0 (empty w) (by omega) (Nat.zero_le _) (zed (zw.1 hw)) rfl
    · simp (disch := omega) only [push_cast]
      rw [if_neg fun h => hn h.2]; rfl
structure LogOk (a b : List Bs) : Prop where
  sa : ∀ x ∈ a, x.size ≤ 5000
  sb : ∀ x ∈ b, x.size ≤ 5000
  n : a.length + b.length ≤ 4000
theorem zir (l : List Bs) : (∀ j, 0 ≤ j → j < l.length → (nth .empty l j).size ≤ 5000) ↔ ∀ x ∈ l, x.size ≤ 5000 := by
  constructor
  · intro h x hx
    obtain ⟨i, hi, rfl⟩ := z8 .empty hx
    exact h i (Nat.zero_le _) hi
  · intro h j _ hj; exact h _ (zh hj)
theorem zob (a b : List Bs) : (if (∀ j, 0 ≤ j → j < a.length → (nth .empty a j).size ≤ 5000) then (if (∀ j, 0 ≤ j → j < b.length → (nth .empty b j).size ≤ 5000) then some [Lf.b (decide ((a.length : Int) + (b.length : Int) ≤ 4000))] else some [.b false]) else some [.b false]) = some [.b (decide (LogOk a b))] := by
  rw [zir, zir]
  by_cases h1 : ∀ x ∈ a, x.size ≤ 5000
  · rw [if_pos h1]
    by_cases h2 : ∀ x ∈ b, x.size ≤ 5000
    · rw [if_pos h2]
      by_cases h3 : a.length + b.length ≤ 4000
      · rw [decide_eq_true (p := LogOk a b) ⟨h1, h2, h3⟩, decide_eq_true (by omega)]
      · rw [decide_eq_false (p := LogOk a b) fun h => h3 h.n, decide_eq_false (by omega)]
    · rw [if_neg h2, decide_eq_false (p := LogOk a b) fun h => h2 h.sb]
  · rw [if_neg h1, decide_eq_false (p := LogOk a b) fun h => h1 h.sa]
theorem zb1 (a b : List Bs) (ha : Small a) (hb : Small b) : Lqk none [.l (encS a), .l (encS b)] = some [.b (decide (LogOk a b))] := by
  have h1 := ha.1; have h2 := hb.1
  rw [eqk_i, ← zob]
  have l2 := zt (f := fun i : Nat => Lqk (some 7) [.i (i : Int), .l (encS a), .l (encS b)]) (P := fun j => (nth .empty b j).size ≤ 5000) (n := b.length) (T := some [Lf.b (decide ((a.length : Int) + (b.length : Int) ≤ 4000))]) (F := some [.b false]) (fun i hi => by
    show (_ → Lqk _ _ = _) ∧ (_ → Lqk _ _ = _)
    rw [eqk_7]
    by_cases hc : (nth .empty b i).size ≤ 5000 <;> simp (disch := omega) only [push_cast] <;> simp [hc]) (by show Lqk _ _ = _; rw [eqk_7]; simp (disch := omega) only [push_cast]) 0 (Nat.zero_le _)
  have l1 := zt (f := fun i : Nat => Lqk (some 2) [.i (i : Int), .l (encS a), .l (encS b)]) (P := fun j => (nth .empty a j).size ≤ 5000) (n := a.length) (T := Lqk (some 7) [.i 0, .l (encS a), .l (encS b)]) (F := some [.b false]) (fun i hi => by
    show (_ → Lqk _ _ = _) ∧ (_ → Lqk _ _ = _)
    rw [eqk_2]
    by_cases hc : (nth .empty a i).size ≤ 5000 <;> simp (disch := omega) only [push_cast] <;> simp [hc]) (by show Lqk _ _ = _; rw [eqk_2]; simp (disch := omega) only [push_cast]) 0 (Nat.zero_le _)
  refine l1.trans ?_
  rw [show Lqk (some 7) [.i 0, .l (encS a), .l (encS b)] = _ from l2]
theorem zht (a b : List Bs) (hn : a.length + b.length ≤ 1099511627776) : Lqb8 none [.l (encS a), .l (encS b)] = some [.l (encS (a ++ b))] := by
  rw [eqb8_i, mostE, ← zp]; simp (disch := omega) only [push_cast, List.nil_append]
end KV
end
section
namespace KV
open Go Go.Eng
open Classical
theorem Kept.ext' {a b : Kept} (h1 : a.sum = b.sum) (h2 : a.born = b.born) (h3 : a.thing.text = b.thing.text) (h4 : a.thing.refs = b.thing.refs) : a = b := by
  obtain ⟨s, n, ⟨x, r⟩⟩ := a; obtain ⟨s', n', ⟨x', r'⟩⟩ := b
  simp only at h1 h2 h3 h4
  subst h1; subst h2; subst h3; subst h4; rfl
theorem Pin.ext' {a b : Pin} (h1 : a.name = b.name) (h2 : a.sum = b.sum) : a = b := by
  obtain ⟨s, n⟩ := a; obtain ⟨s', n'⟩ := b
  simp only at h1 h2
  subst h1; subst h2; rfl
theorem Lease.ext' {a b : Lease} (h1 : a.number = b.number) (h2 : a.sum = b.sum) (h3 : a.till = b.till) : a = b := by
  obtain ⟨s, n, m⟩ := a; obtain ⟨s', n', m'⟩ := b
  simp only at h1 h2 h3
  subst h1; subst h2; subst h3; rfl
theorem zeb {α : Type} (d : α) {a b : List α} (hl : a.length = b.length) (h : ∀ j, 0 ≤ j → j < a.length → nth d a j = nth d b j) : a = b := by
  apply List.ext_getElem hl
  intro i h1 h2
  rw [← zj d a i h1, ← zj d b i h2]; exact h i (Nat.zero_le _) h1
structure Small1 (s : State) : Prop where
  nT : s.things.length ≤ 1099511627776
  nP : s.pins.length ≤ 1099511627776
  nL : s.leases.length ≤ 1099511627776
  t : ∀ k ∈ s.things, 1 + szs k.thing.refs + k.thing.text.size ≤ 1099511627776 ∧ k.thing.refs.length ≤ 1099511627776
theorem VS.small {s : State} (V : VS s) : Small1 s := by
  have h1 := V.nT; have h2 := V.nP; have h3 := V.nL
  exact ⟨by omega, by omega, by omega, fun k hk => by have := zbk (V.okT k hk).1; omega⟩
def Cut (a b : State) : Prop := ∀ i, i < a.things.length → i < b.things.length → (nth K0 a.things i).thing.text = (nth K0 b.things i).thing.text → (nth K0 a.things i).thing.refs.length = (nth K0 b.things i).thing.refs.length →
  formM (nth K0 a.things i).thing = formM (nth K0 b.things i).thing → (nth K0 a.things i).thing.refs = (nth K0 b.things i).thing.refs
theorem Cut.refl (a : State) : Cut a a := fun _ _ _ _ _ _ => rfl
theorem zl7 (a b : State) : a = b ↔ a.width = b.width ∧ a.now = b.now ∧ a.given = b.given ∧ a.births = b.births ∧ a.things = b.things ∧ a.pins = b.pins ∧ a.leases = b.leases := by
  constructor
  · rintro rfl; exact ⟨rfl, rfl, rfl, rfl, rfl, rfl, rfl⟩
  · rintro ⟨h1, h2, h3, h4, h5, h6, h7⟩
    obtain ⟨w, n, g, b', T, P, L⟩ := a; obtain ⟨w', n', g', b'', T', P', L'⟩ := b
    simp only at *
    subst h1; subst h2; subst h3; subst h4; subst h5; subst h6; subst h7; rfl
theorem zmx (a b : Pin) : ((Eng.seq a.name b.name) && ((Eng.seq a.sum b.sum) && true)) = decide (a = b) := by
  rw [zek, zek, Bool.and_true]
  by_cases h : a = b
  · subst h; simp
  · rw [decide_eq_false h]
    by_cases h1 : a.name = b.name
    · by_cases h2 : a.sum = b.sum
      · exact absurd (Pin.ext' h1 h2) h
      · simp [h2]
    · simp [h1]
theorem zmf (a b : Lease) : ((a.number == b.number) && ((Eng.seq a.sum b.sum) && ((a.till == b.till) && true))) = decide (a = b) := by
  rw [zek, Bool.and_true]
  by_cases h : a = b
  · subst h; simp
  · rw [decide_eq_false h]
    by_cases h1 : a.number = b.number
    · by_cases h2 : a.sum = b.sum
      · by_cases h3 : a.till = b.till
        · exact absurd (Lease.ext' h1 h2 h3) h
        · simp [h3]
      · simp [h2]
    · simp [h1]
theorem zri {a b : State} (hT : a.things = b.things) (h0 : a.width = b.width ∧ a.now = b.now ∧ a.given = b.given ∧ a.births = b.births) (hP : a.pins.length = b.pins.length) (hL : a.leases.length = b.leases.length) :
    (if (∀ j, 0 ≤ j → j < a.pins.length → nth P0 a.pins j = nth P0 b.pins j) then (if (∀ j, 0 ≤ j → j < a.leases.length → nth L0 a.leases j = nth L0 b.leases j) then some [Lf.b true] else some [.b false]) else some [.b false]) = some [.b (decide (a = b))] := by
  split
  · rename_i h1
    split
    · rename_i h2
      rw [decide_eq_true (p := a = b)]
      exact (zl7 a b).2 ⟨h0.1, h0.2.1, h0.2.2.1, h0.2.2.2, hT, zeb P0 hP h1, zeb L0 hL h2⟩
    · rename_i h2
      rw [decide_eq_false (p := a = b)]
      rintro rfl; exact h2 fun _ _ _ => rfl
  · rename_i h1
    rw [decide_eq_false (p := a = b)]
    rintro rfl; exact h1 fun _ _ _ => rfl
end KV
end
section
namespace KV
open Go Go.Eng
open Classical
structure Round where
  phase : Int
  queue : List Bs
  marked : List Bs
  top : Int
  at_ : Int
  rounds : Int
def R0 : Round := ⟨0, [], [], 0, 0, 0⟩
def encR (r : Round) : Lv := [.i r.phase, .l (encS r.queue), .l (encS r.marked), .i r.top, .i r.at_, .i r.rounds]
structure RoundOk (w births : Int) (r : Round) : Prop where
  ph : 0 ≤ r.phase ∧ r.phase ≤ 2
  rds : 0 ≤ r.rounds ∧ r.rounds ≤ 1000000000
  nQ : r.queue.length ≤ 23200
  nM : r.marked.length ≤ 600
  szM : ∀ x ∈ r.marked, (x.size : Int) = w
  ndM : r.marked.Nodup
  szQ : ∀ x ∈ r.queue, (x.size : Int) = w
  rest : r.phase = 0 → r.queue = [] ∧ r.marked = [] ∧ r.top = 0 ∧ r.at_ = 0
  go : r.phase ≠ 0 → 0 ≤ r.top ∧ r.top ≤ births ∧ 1 ≤ r.at_ ∧ r.at_ ≤ r.top + 1 ∧ (r.phase = 1 → r.at_ = r.top + 1)
theorem zcv (n : Int) : Lqcc none [.i n] = some [.b (decide (0 ≤ n ∧ n ≤ 1000000000))] := by
  rw [eqcc_i]
  by_cases h : 0 ≤ n
  · simp (disch := omega) only [push_cast]; congr 3; exact decide_eq_decide.2 ⟨fun h1 => ⟨h, h1⟩, fun h1 => h1.2⟩
  · simp (disch := omega) only [push_cast]; rw [decide_eq_false (p := 0 ≤ n ∧ n ≤ 1000000000) fun h1 => h h1.1]
theorem zl (n a b : Int) : Lqs none [.i n, .i a, .i b] = some [.b (decide (a ≤ n ∧ n ≤ b))] := by
  rw [eqs_i]
  by_cases h : a ≤ n
  · simp (disch := omega) only [push_cast]; congr 3; exact decide_eq_decide.2 ⟨fun h1 => ⟨h, h1⟩, fun h1 => h1.2⟩
  · simp (disch := omega) only [push_cast]; rw [decide_eq_false (p := a ≤ n ∧ n ≤ b) fun h1 => h h1.1]
def setM (ks : List Bs) : List (C × C) := ks.map fun k => (.s k, .b true)
theorem ceq_s (x y : Bs) : ceq .s (.s x) (.s y) = decide (x = y) := by
  show (x.data == y.data) = _
  by_cases h : x = y
  · subst h; simp
  · rw [decide_eq_false h, beq_eq_false_iff_ne]
    intro e; apply h; cases x; cases y; exact congrArg _ e
theorem zit (x : Bs) : ∀ ks : List Bs, mget .s (.s x) (setM ks) = if x ∈ ks then some (.b true) else none
  | [] => by simp [setM, mget]
  | k :: ks => by
    show cond (ceq .s (.s x) (.s k)) (some (.b true)) (mget .s (.s x) (setM ks)) = _
    rw [ceq_s, zit x ks]
    by_cases h : x = k
    · subst h; simp
    · simp [h]
theorem zhc (x : Bs) : ∀ ks : List Bs, x ∉ ks → mput .s (.s x) (.b true) (setM ks) = setM (ks ++ [x])
  | [], _ => by simp [setM, mput]
  | k :: ks, h => by
    show cond (ceq .s (.s x) (.s k)) _ _ = _
    rw [ceq_s, decide_eq_false (fun e => h (by rw [e]; simp)), cond_false]
    show (C.s k, C.b true) :: mput .s (.s x) (.b true) (setM ks) = _
    rw [zhc x ks (fun e => h (by simp [e]))]; rfl
theorem inM (x : Bs) (ks : List Bs) : (((mget .s (.s x) (setM ks)).getD (.b false)).bool) = decide (x ∈ ks) := by
  rw [zit]
  by_cases h : x ∈ ks
  · rw [if_pos h, decide_eq_true h]; rfl
  · rw [if_neg h, decide_eq_false h]; rfl
def mkP (w : Int) (m : List Bs) (j : Nat) : Prop := ((nth .empty m j).size : Int) = w ∧ nth .empty m j ∉ m.take j
theorem zic (w : Int) (m : List Bs) : (∀ j, 0 ≤ j → j < m.length → mkP w m j) ↔ (∀ x ∈ m, (x.size : Int) = w) ∧ m.Nodup := by
  have hnd : m.Nodup ↔ ∀ j, 0 ≤ j → j < m.length → nth .empty m j ∉ m.take j := by
    constructor
    · intro h j _ hj hm
      obtain ⟨i, h1, h2, h3⟩ := zha .empty hm
      have := zes (R := fun a b => a ≠ b) .empty h h1 hj
      exact this h3
    · intro h
      rw [List.Nodup, List.pairwise_iff_getElem]
      intro i j hi hj hij he
      apply h j (Nat.zero_le _) hj
      rw [zj _ _ _ hj, ← he]
      exact List.mem_take_iff_getElem.2 ⟨i, by omega, rfl⟩
  rw [hnd]
  constructor
  · intro h
    refine ⟨fun x hx => ?_, fun j h1 h2 => (h j h1 h2).2⟩
    obtain ⟨i, hi, rfl⟩ := z8 .empty hx
    exact (h i (Nat.zero_le _) hi).1
  · rintro ⟨h1, h2⟩ j h3 h4; exact ⟨h1 _ (zh h4), h2 j h3 h4⟩
theorem zj7 (w : Int) (m : List Bs) : (∀ j, 0 ≤ j → j < m.length → ((nth .empty m j).size : Int) = w) ↔ ∀ x ∈ m, (x.size : Int) = w := by
  constructor
  · intro h x hx
    obtain ⟨i, hi, rfl⟩ := z8 .empty hx
    exact h i (Nat.zero_le _) hi
  · intro h j _ hj; exact h _ (zh hj)
noncomputable def lastB (births : Int) (r : Round) : Bool := if r.phase = 0 then decide (r.queue = [] ∧ r.marked = [] ∧ r.top = 0 ∧ r.at_ = 0) else decide (0 ≤ r.top ∧ r.top ≤ births ∧ 1 ≤ r.at_ ∧ r.at_ ≤ r.top + 1 ∧ (r.phase = 1 → r.at_ = r.top + 1))
theorem zmb (w births : Int) (r : Round) : RoundOk w births r ↔ (0 ≤ r.phase ∧ r.phase ≤ 2) ∧ (0 ≤ r.rounds ∧ r.rounds ≤ 1000000000) ∧ r.queue.length ≤ 23200 ∧ r.marked.length ≤ 600 ∧ ((∀ x ∈ r.marked, (x.size : Int) = w) ∧ r.marked.Nodup) ∧ (∀ x ∈ r.queue, (x.size : Int) = w) ∧ lastB births r = true := by
  unfold lastB
  constructor
  · intro h
    refine ⟨h.ph, h.rds, h.nQ, h.nM, ⟨h.szM, h.ndM⟩, h.szQ, ?_⟩
    split
    · rename_i h0; exact decide_eq_true (h.rest h0)
    · rename_i h0; exact decide_eq_true (h.go h0)
  · rintro ⟨a, b, c, d, ⟨e1, e2⟩, f, h⟩
    refine ⟨a, b, c, d, e1, e2, f, fun h0 => ?_, fun h0 => ?_⟩
    · rw [if_pos h0] at h; exact of_decide_eq_true h
    · rw [if_neg h0] at h; exact of_decide_eq_true h
end KV
end
section
namespace KV
open Go Go.Eng
open Classical
def encRo (r : Round) : Lv := [.i r.phase, .i r.top, .i r.at_, .i r.rounds, .l (encS r.queue), .l (encS r.marked)]
structure Vault where
  width : Int
  limit : Int
  safe : List Bs
  loose : List Bs
  st : State
  rd : Round
def V0 : Vault := ⟨0, 0, [], [], ⟨0, 0, 0, 0, [], [], []⟩, R0⟩
def encV (v : Vault) : Lv := [.i v.width, .i v.limit, .l (encS v.safe), .l (encS v.loose), .i v.st.width, .i v.st.now, .i v.st.given, .i v.st.births, .l (encK v.st.things), .l (encP v.st.pins), .l (encL v.st.leases), .i v.rd.phase, .l (encS v.rd.queue), .l (encS v.rd.marked), .i v.rd.top, .i v.rd.at_, .i v.rd.rounds]
def vI (v : Vault) : Lv := [.i v.width, .i v.limit, .i v.st.width, .i v.st.now, .i v.st.given, .i v.st.births, .i v.rd.phase, .i v.rd.top, .i v.rd.at_, .i v.rd.rounds]
def vL (v : Vault) : Lv := [.l (encS v.safe), .l (encS v.loose), .l (encK v.st.things), .l (encP v.st.pins), .l (encL v.st.leases), .l (encS v.rd.queue), .l (encS v.rd.marked)]
structure SmallV (v : Vault) : Prop where
  a : Small v.safe
  b : Small v.loose
  ab : v.safe.length + v.loose.length ≤ 1099511627776
  st : Small1 v.st
  nT : v.st.things.length ≤ 1099511627775
  q : v.rd.queue.length ≤ 1099511627776
  m : v.rd.marked.length ≤ 1099511627776
structure VV (v : Vault) : Prop where
  wd : zk v.width = true
  lim : 0 ≤ v.limit ∧ v.limit ≤ 1000000
  log : LogOk v.safe v.loose
  run : runL v.width (empty v.width) (v.safe ++ v.loose) 0 = .inl v.st
  rd : RoundOk v.st.width v.st.births v.rd
theorem VV.vs {v : Vault} (h : VV v) : VS v.st ∧ v.st.width = v.width := zdw _ _ _ _ (zed (zw.1 h.wd)) rfl h.run
theorem VV.small {v : Vault} (h : VV v) : SmallV v := by
  have hn := h.log.n; have hq := h.rd.nQ; have hm := h.rd.nM; have hT := h.vs.1.nT
  refine ⟨⟨by omega, fun x hx => by have := h.log.sa x hx; omega⟩, ⟨by omega, fun x hx => by have := h.log.sb x hx; omega⟩, by omega, h.vs.1.small, by omega, by omega, by omega⟩
def CutV (v : Vault) : Prop := ∀ s, runL v.width (empty v.width) (v.safe ++ v.loose) 0 = .inl s → Cut s v.st
def encO : Vault ⊕ Int → Lv
  | .inl v => [.i v.width, .i v.limit, .i v.st.width, .i v.st.now, .i v.st.given, .i v.st.births, .i 0, .l [], .l [], .i 0, .i 0, .i 0, .i 0, .l (encS v.safe), .l (encS v.loose), .l (encK v.st.things), .l (encP v.st.pins), .l (encL v.st.leases)]
  | .inr c => [.i 0, .i 0, .i 0, .i 0, .i 0, .i 0, .i 0, .l [], .l [], .i 0, .i 0, .i 0, .i c, .l [], .l [], .l [], .l [], .l []]
noncomputable def openM (w lim : Int) (a b : List Bs) : Vault ⊕ Int :=
  if zk w = true ∧ (0 ≤ lim ∧ lim ≤ 1000000) ∧ LogOk a b then (match runL w (empty w) (a ++ b) 0 with
    | .inl s => .inl ⟨w, lim, a, b, s, R0⟩
    | .inr _ => .inr 2)
  else .inr 1
theorem Small.app {a b : List Bs} (ha : Small a) (hb : Small b) (hn : a.length + b.length ≤ 1099511627776) : Small (a ++ b) :=
  ⟨by rw [List.length_append]; exact hn, fun x hx => by rcases List.mem_append.1 hx with h | h; exact ha.2 x h; exact hb.2 x h⟩
def roomM (s : State) : Nat := (s.things.map fun k => (formM k.thing).size).sum
theorem zf9 {l : List Nat} : ∀ {i : Nat}, (l.take i).sum ≤ l.sum := fun {i} => by
  conv => rhs; rw [← List.take_append_drop i l, List.sum_append]
  omega
theorem zr1 {s : State} (h : Small1 s) (hr : roomM s ≤ 1099511627776) : Lqbx none (encSt s) = some [.i (roomM s : Int)] := by
  unfold encSt
  have hn := h.nT
  rw [eqbx_i, zds]
  have := zu (f := fun (i : Nat) (a : Nat) => Lqbx (some 3) [.i (a : Int), .l (encK s.things), .i (s.things.length : Int), .i (i : Int)]) (n := s.things.length) (T := some [.i (roomM s : Int)])
    (I := fun i a => a = ((s.things.map fun k => (formM k.thing).size).take i).sum) (fun i a hi hI => ⟨a + (formM (nth K0 s.things i).thing).size, by
      show Lqbx _ _ = Lqbx _ _
      have hk := h.t _ (zh (d := K0) hi)
      have ha : a ≤ roomM s := by rw [hI]; exact zf9
      have hf := zbo (nth K0 s.things i).thing
      rw [eqbx_3]
      simp (disch := omega) only [push_cast, zkz (nth K0 s.things i).thing hk.1 (by omega)], by
      show a + (formM (nth K0 s.things i).thing).size = _
      rw [hI, ← List.map_take, ← List.map_take, zz K0 hi, List.map_append, List.sum_append]; simp⟩) (fun a hI => by
      show Lqbx _ _ = _
      rw [eqbx_3]
      simp (disch := omega) only [push_cast]
      rw [hI, List.take_of_length_le (by simp)]; rfl) 0 0 (Nat.zero_le _) rfl
  exact this
theorem zg0 {s : State} (V : VS s) : roomM s ≤ 1344600 := by
  have : ∀ T : List Kept, (∀ k ∈ T, ThingOk k.thing s.width) → (T.map fun k => (formM k.thing).size).sum ≤ 2241 * T.length := by
    intro T
    induction T with
    | nil => intro _; simp
    | cons a T ih =>
      intro h
      have h1 := zbk (h a (by simp)); have h2 := zbo a.thing; have h3 := ih fun k hk => h k (by simp [hk])
      simp only [List.map_cons, List.sum_cons, List.length_cons]; omega
  have h1 := this s.things fun k hk => (V.okT k hk).1
  have h2 := V.nT
  unfold roomM; omega
noncomputable def zcb (s : State) (r : Round) (x : Bs) : Round := if hasT s.things x ∧ r.phase ≠ 0 ∧ x ∉ r.marked ∧ r.queue.length < 23200 then { r with queue := r.queue ++ [x] } else r
theorem zq9 {w b : Int} {s : State} {r : Round} {x : Bs} (h : RoundOk w b r) (hx : (x.size : Int) = w) : RoundOk w b (zcb s r x) := by
  unfold zcb
  split
  · rename_i hc
    refine ⟨h.ph, h.rds, ?_, h.nM, h.szM, h.ndM, ?_, fun h0 => absurd h0 hc.2.1, h.go⟩
    · show (r.queue ++ [x]).length ≤ 23200; rw [List.length_append]; simp; omega
    · intro y hy
      rcases List.mem_append.1 hy with h1 | h1
      · exact h.szQ y h1
      · rw [List.mem_singleton] at h1; rw [h1]; exact hx
  · exact h
theorem RoundOk.mono {w b b' : Int} {r : Round} (h : RoundOk w b r) (hb : b ≤ b') : RoundOk w b' r :=
  ⟨h.ph, h.rds, h.nQ, h.nM, h.szM, h.ndM, h.szQ, h.rest, fun h0 => by obtain ⟨a, b, c⟩ := h.go h0; exact ⟨a, by omega, c⟩⟩
end KV
end
section
namespace KV
open Go Go.Eng
open Classical
theorem zp7 (a b : List Bs) (ha : a.length ≤ 1099511627776) (hb : b.length ≤ 1099511627776) : Lqbo none [.l (encS a), .l (encS b)] = some [.b (decide (a = b))] := by
  rw [eqbo_i]
  by_cases h : a.length = b.length
  · have l1 := zt (f := fun i : Nat => Lqbo (some 4) [.l (encS a), .l (encS b), .i (i : Int)]) (P := fun j => nth .empty a j = nth .empty b j) (n := a.length) (T := some [.b true]) (F := some [.b false]) (fun i hi => by
      show (_ → Lqbo _ _ = _) ∧ (_ → Lqbo _ _ = _)
      rw [eqbo_4]
      by_cases hc : nth .empty a i = nth .empty b i <;> simp (disch := omega) only [push_cast] <;> simp [hc]) (by show Lqbo _ _ = _; rw [eqbo_4]; simp (disch := omega) only [push_cast]) 0 (Nat.zero_le _)
    simp (disch := omega) only [push_cast]
    refine l1.trans ?_
    split
    · rename_i hh; rw [decide_eq_true (p := a = b) (zeb .empty h hh)]
    · rename_i hh; rw [decide_eq_false (p := a = b)]; rintro rfl; exact hh fun _ _ _ => rfl
  · have : ¬ a = b := fun e => h (by rw [e])
    simp (disch := omega) only [push_cast]; rw [decide_eq_false this]
theorem zgm (l : List Bs) (x : Bs) (h : l.length ≤ 1099511627776) : Lqbg none [.l (encS l), .s x] = some [.b (decide (x ∈ l))] := by
  rw [eqbg_i]
  have := zdc (f := fun i : Nat => Lqbg (some 2) [.l (encS l), .s x, .i (i : Int)]) .empty (l := l) (p := fun r => r = x) (T := some [.b true]) (E := some [.b false]) (fun i hi => by
    show Lqbg _ _ = cond _ _ (Lqbg _ _)
    rw [eqbg_2]; simp (disch := omega) only [push_cast]) (by show Lqbg _ _ = _; rw [eqbg_2]; simp (disch := omega) only [push_cast])
  refine this.trans ?_
  by_cases h : ∃ r ∈ l, r = x
  · rw [if_pos h, decide_eq_true (p := x ∈ l) (by obtain ⟨r, hr, rfl⟩ := h; exact hr)]
  · rw [if_neg h, decide_eq_false (p := x ∈ l) (fun h3 => h ⟨x, h3, rfl⟩)]
end KV
end
section
namespace KV
open Go Go.Eng
open Classical
structure Did where
  code : Int
  v : Vault
  sum : Bs
  lease : Int
  a : Bs
  b : Bs
def zn (d : Did) : Lv := .i d.code :: (vI d.v ++ ([.s d.sum, .i d.lease, .s d.a, .s d.b] ++ vL d.v))
def same (v : Vault) (c : Int) : Did := ⟨c, v, E0, 0, E0, E0⟩
def zdv (e : Entry) (o : Out) : Bs := if e.kind = 1 then o.sum else e.sum
noncomputable def doE (v : Vault) (e : Entry) (sh : Bool) : Did :=
  if ¬ VV v then same V0 1
  else if ¬ zi e v.width = true then same v 1
  else if ¬ (chg v.st e).code = 0 then { same v (chg v.st e).code with a := (chg v.st e).a, b := (chg v.st e).b }
  else if e.kind = 1 ∧ v.limit < (roomM (chg v.st e).st : Int) then same v 8
  else if v.safe.length + v.loose.length = 4000 then same v 9
  else ⟨0, { v with loose := v.loose ++ [formE e], st := (chg v.st e).st, rd := if sh = true then zcb (chg v.st e).st v.rd (zdv e (chg v.st e)) else v.rd }, (chg v.st e).sum, (chg v.st e).lease, E0, E0⟩
end KV
end
section
namespace KV
open Go Go.Eng
open Classical
theorem zdd (d : Did) : [Lf.i ((g (zn d) 0).int), .i ((g (zn d) 1).int), .i ((g (zn d) 2).int), .i ((g (zn d) 3).int), .i ((g (zn d) 4).int), .i ((g (zn d) 5).int), .i ((g (zn d) 6).int), .i ((g (zn d) 7).int), .i ((g (zn d) 8).int), .i ((g (zn d) 9).int), .i ((g (zn d) 10).int), .s ((g (zn d) 11).str), .i ((g (zn d) 12).int), .s ((g (zn d) 13).str), .s ((g (zn d) 14).str), .l ((g (zn d) 15).list), .l ((g (zn d) 16).list), .l ((g (zn d) 17).list), .l ((g (zn d) 18).list), .l ((g (zn d) 19).list), .l ((g (zn d) 20).list), .l ((g (zn d) 21).list)] = zn d := rfl
def ePut (t : Thing) (hold : Int) : Entry := ⟨1, E0, E0, hold, t⟩
theorem zot {s : State} {e : Entry} (h : (chg s e).code = 0) : s.births ≤ (chg s e).st.births := by
  unfold chg putS fail done lent at h ⊢
  repeat' split
  all_goals first | exact Int.le_refl _ | (show s.births ≤ s.births + 1; omega)
theorem zl0 {s : State} (V : VS s) {r : Round} (x : Bs) (h : RoundOk s.width s.births r) : RoundOk s.width s.births (zcb s r x) := by
  by_cases hT : hasT s.things x
  · obtain ⟨k, hk, he⟩ := hT
    refine zq9 h ?_
    rw [← he, (V.okT k hk).2.1]
    exact zfb V.wd
  · unfold zcb; rw [if_neg fun h => hT h.1]; exact h
theorem zqq {v : Vault} {e : Entry} {sh : Bool} (h : (doE v e sh).code = 0) : VV v ∧ zi e v.width = true ∧ (chg v.st e).code = 0 ∧ VV (doE v e sh).v := by
  unfold doE at h ⊢
  split at h
  · cases h
  · rename_i V
    have V := Classical.not_not.1 V
    rw [if_neg (not_not_intro V)]
    split at h
    · cases h
    · rename_i he
      have he := Classical.not_not.1 he
      rw [if_neg (not_not_intro he)]
      split at h
      · rename_i hc; exact absurd h hc
      · rename_i hc
        have hc := Classical.not_not.1 hc
        rw [if_neg (not_not_intro hc)]
        split at h
        · cases h
        · rename_i h8
          rw [if_neg h8]
          split at h
          · cases h
          · rename_i h9
            rw [if_neg h9]
            refine ⟨V, he, hc, ?_⟩
            have Vs := V.vs
            have he' : zi e v.st.width = true := by rw [Vs.2]; exact he
            have Vc := zfh Vs.1 he' hc
            have hfs := zko he
            have hl := V.log.n
            refine ⟨V.wd, V.lim, ⟨V.log.sa, fun x hx => ?_, ?_⟩, ?_, ?_⟩
            · rcases List.mem_append.1 hx with h1 | h1
              · exact V.log.sb x h1
              · rw [List.mem_singleton] at h1; rw [h1]; omega
            · show v.safe.length + (v.loose ++ [formE e]).length ≤ 4000
              rw [List.length_append]; simp; omega
            · show runL v.width (empty v.width) (v.safe ++ (v.loose ++ [formE e])) 0 = .inl (chg v.st e).st
              rw [← List.append_assoc, ze2, V.run]
              simp only [runL, zgp he]
              rw [if_pos hc]
            · show RoundOk (chg v.st e).st.width (chg v.st e).st.births (if sh = true then zcb (chg v.st e).st v.rd (zdv e (chg v.st e)) else v.rd)
              have hr : RoundOk (chg v.st e).st.width (chg v.st e).st.births v.rd := by
                rw [zgw]; exact V.rd.mono (zot hc)
              split
              · exact zl0 Vc _ hr
              · exact hr
end KV
end
section
namespace KV
open Go Go.Eng
open Classical
theorem zjo (a b : Thing) (ha : a.refs.length ≤ 1099511627776) (hb : b.refs.length ≤ 1099511627776) : Lqbu none [.s a.text, .l (encS a.refs), .s b.text, .l (encS b.refs)] = some [.b (decide (a = b))] := by
  obtain ⟨x, r⟩ := a; obtain ⟨y, t⟩ := b
  simp only at ha hb ⊢
  rw [eqbu_i]
  by_cases h0 : x = y
  rotate_left; · simp (disch := omega) only [push_cast]; rw [decide_eq_false (p := (⟨x, r⟩ : Thing) = ⟨y, t⟩)]; intro e; cases e; exact h0 rfl
  by_cases h : r.length = t.length
  · have l1 := zt (f := fun i : Nat => Lqbu (some 4) [.i (i : Int), .s x, .l (encS r), .s y, .l (encS t)]) (P := fun j => nth .empty r j = nth .empty t j) (n := r.length) (T := some [.b true]) (F := some [.b false]) (fun i hi => by
      show (_ → Lqbu _ _ = _) ∧ (_ → Lqbu _ _ = _)
      rw [eqbu_4]
      by_cases hc : nth .empty r i = nth .empty t i <;> simp (disch := omega) only [push_cast] <;> simp [hc]) (by show Lqbu _ _ = _; rw [eqbu_4]; simp (disch := omega) only [push_cast]) 0 (Nat.zero_le _)
    simp (disch := omega) only [push_cast]
    refine l1.trans ?_
    split
    · rename_i hh; rw [decide_eq_true (p := (⟨x, r⟩ : Thing) = ⟨y, t⟩) (by rw [h0, zeb .empty h hh])]
    · rename_i hh; rw [decide_eq_false (p := (⟨x, r⟩ : Thing) = ⟨y, t⟩)]; intro e; cases e; exact hh fun _ _ _ => rfl
  · have : ¬ (⟨x, r⟩ : Thing) = ⟨y, t⟩ := fun e => h (by cases e; rfl)
    simp (disch := omega) only [push_cast]; rw [decide_eq_false this]
theorem zr4 {a b : State} (ha : Small1 a) (hb : Small1 b) : Lqi none (encSt a ++ encSt b) = some [.b (decide (a = b))] := by
  have a1 := ha.nT; have a2 := ha.nP; have a3 := ha.nL; have b1 := hb.nT; have b2 := hb.nP; have b3 := hb.nL
  show Lqi none [.i a.width, .i a.now, .i a.given, .i a.births, .l (encK a.things), .l (encP a.pins), .l (encL a.leases), .i b.width, .i b.now, .i b.given, .i b.births, .l (encK b.things), .l (encP b.pins), .l (encL b.leases)] = _
  rw [eqi_i]
  have no : ∀ p : Prop, [Decidable p] → (a = b → p) → ¬ p → decide (a = b) = false := fun p _ h1 h2 => decide_eq_false fun h3 => h2 (h1 h3)
  by_cases h1 : a.width = b.width
  rotate_left; · rw [no _ (fun h => by rw [h]) h1]; simp (disch := omega) only [push_cast]
  by_cases h2 : a.now = b.now
  rotate_left; · rw [no _ (fun h => by rw [h]) h2]; simp (disch := omega) only [push_cast]
  by_cases h3 : a.given = b.given
  rotate_left; · rw [no _ (fun h => by rw [h]) h3]; simp (disch := omega) only [push_cast]
  by_cases h4 : a.births = b.births
  rotate_left; · rw [no _ (fun h => by rw [h]) h4]; simp (disch := omega) only [push_cast]
  by_cases h5 : a.things.length = b.things.length
  rotate_left; · rw [no _ (fun h => by rw [h]) h5]; simp (disch := omega) only [push_cast]
  by_cases h6 : a.pins.length = b.pins.length
  rotate_left; · rw [no _ (fun h => by rw [h]) h6]; simp (disch := omega) only [push_cast]
  by_cases h7 : a.leases.length = b.leases.length
  rotate_left; · rw [no _ (fun h => by rw [h]) h7]; simp (disch := omega) only [push_cast]
  simp (disch := omega) only [push_cast]
  have l3 := zt (f := fun i : Nat => Lqi (some 14) [.i (i : Int), .i a.width, .i a.now, .i a.given, .i a.births, .l (encK a.things), .l (encP a.pins), .l (encL a.leases), .i b.width, .i b.now, .i b.given, .i b.births, .l (encK b.things), .l (encP b.pins), .l (encL b.leases)])
    (P := fun j => nth L0 a.leases j = nth L0 b.leases j) (n := a.leases.length) (T := some [.b true]) (F := some [.b false]) (fun i hi => by
      show (_ → Lqi _ _ = _) ∧ (_ → Lqi _ _ = _)
      rw [eqi_14]
      simp only [zfe, zqk, zl2, zoh, zmf]
      by_cases hc : nth L0 a.leases i = nth L0 b.leases i <;> simp (disch := omega) only [push_cast] <;> simp [hc]) (by show Lqi _ _ = _; rw [eqi_14]; simp (disch := omega) only [push_cast]) 0 (Nat.zero_le _)
  have l2 := zt (f := fun i : Nat => Lqi (some 9) [.i (i : Int), .i a.width, .i a.now, .i a.given, .i a.births, .l (encK a.things), .l (encP a.pins), .l (encL a.leases), .i b.width, .i b.now, .i b.given, .i b.births, .l (encK b.things), .l (encP b.pins), .l (encL b.leases)])
    (P := fun j => nth P0 a.pins j = nth P0 b.pins j) (n := a.pins.length) (T := Lqi (some 14) [.i 0, .i a.width, .i a.now, .i a.given, .i a.births, .l (encK a.things), .l (encP a.pins), .l (encL a.leases), .i b.width, .i b.now, .i b.given, .i b.births, .l (encK b.things), .l (encP b.pins), .l (encL b.leases)]) (F := some [.b false]) (fun i hi => by
      show (_ → Lqi _ _ = _) ∧ (_ → Lqi _ _ = _)
      rw [eqi_9]
      simp only [zfe, zsc, zlw, zmx]
      by_cases hc : nth P0 a.pins i = nth P0 b.pins i <;> simp (disch := omega) only [push_cast] <;> simp [hc]) (by show Lqi _ _ = _; rw [eqi_9]; simp (disch := omega) only [push_cast]) 0 (Nat.zero_le _)
  have l1 := zt (f := fun i : Nat => Lqi (some 4) [.i (i : Int), .i a.width, .i a.now, .i a.given, .i a.births, .l (encK a.things), .l (encP a.pins), .l (encL a.leases), .i b.width, .i b.now, .i b.given, .i b.births, .l (encK b.things), .l (encP b.pins), .l (encL b.leases)])
    (P := fun j => nth K0 a.things j = nth K0 b.things j) (n := a.things.length) (T := Lqi (some 9) [.i 0, .i a.width, .i a.now, .i a.given, .i a.births, .l (encK a.things), .l (encP a.pins), .l (encL a.leases), .i b.width, .i b.now, .i b.given, .i b.births, .l (encK b.things), .l (encP b.pins), .l (encL b.leases)]) (F := some [.b false]) (fun i hi => by
      show (_ → Lqi _ _ = _) ∧ (_ → Lqi _ _ = _)
      rw [eqi_4]
      have hsa := ha.t _ (zh (d := K0) hi)
      have hsb := hb.t _ (zh (d := K0) (show i < b.things.length by omega))
      obtain ⟨x, hx⟩ : ∃ x, nth K0 a.things i = x := ⟨_, rfl⟩
      obtain ⟨y, hy⟩ : ∃ y, nth K0 b.things i = y := ⟨_, rfl⟩
      rw [hx] at hsa ⊢
      rw [hy] at hsb ⊢
      by_cases c1 : x.sum = y.sum
      · by_cases c2 : x.born = y.born
        · by_cases c3 : x.thing = y.thing
          · obtain rfl : x = y := by obtain ⟨s, n, t⟩ := x; obtain ⟨s', n', t'⟩ := y; simp only at c1 c2 c3; rw [c1, c2, c3]
            simp (disch := omega) only [push_cast, hx, hy, zjo x.thing x.thing hsa.2 hsa.2, decide_eq_true (show x.thing = x.thing from rfl)]
            simp
          · have : ¬ x = y := fun h => c3 (by rw [h])
            simp (disch := omega) only [push_cast, hx, hy, zjo x.thing y.thing hsa.2 hsb.2, decide_eq_false c3]
            simp [this]
        · have : ¬ x = y := fun h => c2 (by rw [h])
          simp (disch := omega) only [push_cast, hx, hy]; simp [this]
      · have : ¬ x = y := fun h => c1 (by rw [h])
        simp (disch := omega) only [push_cast, hx, hy]; simp [this]) (by show Lqi _ _ = _; rw [eqi_4]; simp (disch := omega) only [push_cast]) 0 (Nat.zero_le _)
  refine l1.trans ?_
  split
  · rename_i hT
    have hTe : a.things = b.things := zeb K0 h5 hT
    refine l2.trans ?_
    rw [show Lqi (some 14) [.i 0, .i a.width, .i a.now, .i a.given, .i a.births, .l (encK a.things), .l (encP a.pins), .l (encL a.leases), .i b.width, .i b.now, .i b.given, .i b.births, .l (encK b.things), .l (encP b.pins), .l (encL b.leases)] = _ from l3]
    exact zri hTe ⟨h1, h2, h3, h4⟩ h6 h7
  · rename_i hT
    rw [decide_eq_false (p := a = b)]
    rintro rfl; exact hT fun _ _ _ => rfl
theorem zo0 (s : State) (r : Round) (hb : 0 ≤ s.births ∧ s.births ≤ 1000000000) : Lqu none (encSt s ++ encR r) = some [.b (decide (RoundOk s.width s.births r))] := by
  show Lqu none [.i s.width, .i s.now, .i s.given, .i s.births, .l (encK s.things), .l (encP s.pins), .l (encL s.leases), .i r.phase, .l (encS r.queue), .l (encS r.marked), .i r.top, .i r.at_, .i r.rounds] = _
  rw [equ_i]
  have hri := zmb s.width s.births r
  have no : ∀ p : Prop, (RoundOk s.width s.births r → p) → ¬ p → decide (RoundOk s.width s.births r) = false := fun p h1 h2 => decide_eq_false fun h3 => h2 (h1 h3)
  by_cases h1 : 0 ≤ r.phase
  rotate_left; · rw [no _ (fun h => h.ph.1) h1]; simp (disch := omega) only [push_cast]
  by_cases h2 : r.phase ≤ 2
  rotate_left; · rw [no _ (fun h => h.ph.2) h2]; simp (disch := omega) only [push_cast]
  by_cases h3 : 0 ≤ r.rounds ∧ r.rounds ≤ 1000000000
  rotate_left; · rw [no _ (fun h => h.rds) h3]; simp (disch := omega) only [push_cast, zl]
  by_cases h4 : r.queue.length ≤ 23200
  rotate_left; · rw [no _ (fun h => h.nQ) h4]; simp (disch := omega) only [push_cast, zl]
  by_cases h5 : r.marked.length ≤ 600
  rotate_left; · rw [no _ (fun h => h.nM) h5]; simp (disch := omega) only [push_cast, zl]
  simp (disch := omega) only [push_cast, zl]
  have l2 := zt (f := fun i : Nat => Lqu (some 9) [.i (i : Int), .i s.width, .i s.now, .i s.given, .i s.births, .l (encK s.things), .l (encP s.pins), .l (encL s.leases), .i r.phase, .l (encS r.queue), .l (encS r.marked), .i r.top, .i r.at_, .i r.rounds])
    (P := fun j => mkP s.width r.marked j) (n := r.marked.length) (T := some [.b (lastB s.births r)]) (F := some [.b false]) (fun i hi => by
      show (_ → Lqu _ _ = Lqu _ _) ∧ (_ → Lqu _ _ = _)
      rw [equ_9]
      have hsub : Eng.sub (encS r.marked) 0 i = encS (r.marked.take i) := by rw [zdh]; rfl
      have hlen : (r.marked.take i).length ≤ 4611686018427387904 := by rw [List.length_take]; omega
      by_cases c1 : ((nth .empty r.marked i).size : Int) = s.width
      rotate_left; · exact ⟨fun h => absurd h.1 c1, fun _ => by simp (disch := omega) only [push_cast]⟩
      by_cases c2 : nth .empty r.marked i ∈ r.marked.take i
      · exact ⟨fun h => absurd c2 h.2, fun _ => by simp (disch := omega) only [push_cast, hsub, zo _ _ hlen]⟩
      · exact ⟨fun _ => by simp (disch := omega) only [push_cast, hsub, zo _ _ hlen] <;> rfl, fun h => absurd ⟨c1, c2⟩ h⟩) (by
      show Lqu _ _ = _
      rw [equ_9]
      simp (disch := omega) only [push_cast]
      unfold lastB
      by_cases h0 : r.phase = 0
      · rw [if_pos h0]
        simp (disch := omega) only [push_cast]
        have e1 : ∀ l : List Bs, decide ((l.length : Int) = 0) = decide (l = []) := fun l => decide_eq_decide.2 ⟨fun h => List.eq_nil_of_length_eq_zero (by omega), fun h => by rw [h]; rfl⟩
        by_cases c1 : r.queue = []
        rotate_left; · rw [e1, decide_eq_false c1]; simp [c1]
        by_cases c2 : r.marked = []
        rotate_left; · rw [e1, e1, decide_eq_false c2]; simp [c1, c2]
        by_cases c3 : r.top = 0 <;> simp [c1, c2, c3]
      · rw [if_neg h0]
        simp (disch := omega) only [push_cast, zl]
        by_cases c1 : 0 ≤ r.top ∧ r.top ≤ s.births
        rotate_left; · simp (disch := omega) only [push_cast]; rw [decide_eq_false]; rintro ⟨a, b, _⟩; exact c1 ⟨a, b⟩
        simp (disch := omega) only [push_cast, zl]
        by_cases c2 : 1 ≤ r.at_ ∧ r.at_ ≤ r.top + 1
        rotate_left; · simp (disch := omega) only [push_cast]; rw [decide_eq_false]; rintro ⟨_, _, a, b, _⟩; exact c2 ⟨a, b⟩
        simp (disch := omega) only [push_cast]
        by_cases c3 : r.phase = 2
        · simp (disch := omega) only [push_cast]; rw [decide_eq_true]; exact ⟨c1.1, c1.2, c2.1, c2.2, fun h => by omega⟩
        · simp (disch := omega) only [push_cast]; congr 3; exact decide_eq_decide.2 ⟨fun h => ⟨c1.1, c1.2, c2.1, c2.2, fun _ => h⟩, fun h => h.2.2.2.2 (by omega)⟩) 0 (Nat.zero_le _)
  have l1 := zt (f := fun i : Nat => Lqu (some 4) [.i (i : Int), .i s.width, .i s.now, .i s.given, .i s.births, .l (encK s.things), .l (encP s.pins), .l (encL s.leases), .i r.phase, .l (encS r.queue), .l (encS r.marked), .i r.top, .i r.at_, .i r.rounds])
    (P := fun j => ((nth .empty r.queue j).size : Int) = s.width) (n := r.queue.length) (T := Lqu (some 9) [.i 0, .i s.width, .i s.now, .i s.given, .i s.births, .l (encK s.things), .l (encP s.pins), .l (encL s.leases), .i r.phase, .l (encS r.queue), .l (encS r.marked), .i r.top, .i r.at_, .i r.rounds]) (F := some [.b false]) (fun i hi => by
      show (_ → Lqu _ _ = Lqu _ _) ∧ (_ → Lqu _ _ = _)
      rw [equ_4]
      by_cases hc : ((nth .empty r.queue i).size : Int) = s.width <;> simp (disch := omega) only [push_cast] <;> simp [hc]) (by
      show Lqu _ _ = _
      rw [equ_4]; simp (disch := omega) only [push_cast]) 0 (Nat.zero_le _)
  have l1' : Lqu (some 4) [.i 0, .i s.width, .i s.now, .i s.given, .i s.births, .l (encK s.things), .l (encP s.pins), .l (encL s.leases), .i r.phase, .l (encS r.queue), .l (encS r.marked), .i r.top, .i r.at_, .i r.rounds] = _ := l1
  have l2' : Lqu (some 9) [.i 0, .i s.width, .i s.now, .i s.given, .i s.births, .l (encK s.things), .l (encP s.pins), .l (encL s.leases), .i r.phase, .l (encS r.queue), .l (encS r.marked), .i r.top, .i r.at_, .i r.rounds] = _ := l2
  rw [l1', l2']
  by_cases h6 : ∀ j, 0 ≤ j → j < r.queue.length → ((nth .empty r.queue j).size : Int) = s.width
  rotate_left; · rw [if_neg h6, no _ (fun h => (zj7 _ _).2 h.szQ) h6]
  rw [if_pos h6]
  by_cases h7 : ∀ j, 0 ≤ j → j < r.marked.length → mkP s.width r.marked j
  rotate_left; · rw [if_neg h7, no _ (fun h => (zic _ _).2 ⟨h.szM, h.ndM⟩) h7]
  rw [if_pos h7]
  congr 3
  cases hl : lastB s.births r
  · rw [no _ (fun h => (hri.1 h).2.2.2.2.2.2) (by rw [hl]; simp)]
  · rw [decide_eq_true (hri.2 ⟨⟨h1, h2⟩, h3, h4, h5, (zic _ _).1 h7, (zj7 _ _).1 h6, hl⟩)]
theorem zeq {v : Vault} (h : SmallV v) : Lqbi none (encV v) = some [.b (decide (VV v))] := by
  unfold encV
  have hab := h.ab
  rw [eqbi_i]
  by_cases h1 : zk v.width = true
  rotate_left; · have : zk v.width = false := by simpa using h1
                 simp (disch := omega) only [push_cast, zr, this]; rw [decide_eq_false fun V : VV v => h1 V.wd]
  by_cases h2 : 0 ≤ v.limit ∧ v.limit ≤ 1000000
  rotate_left; · simp (disch := omega) only [push_cast, zr, h1, zl]; rw [decide_eq_false fun V : VV v => h2 V.lim]
  by_cases h3 : LogOk v.safe v.loose
  rotate_left; · simp (disch := omega) only [push_cast, zr, h1, zl, zb1 _ _ h.a h.b]; rw [decide_eq_false fun V : VV v => h3 V.log]
  have hn := h3.n
  simp (disch := omega) only [push_cast, zr, h1, zl, zb1 _ _ h.a h.b, zht _ _ h.ab, zk9 _ _ (h.a.app h.b h.ab)]
  rw [if_pos ⟨trivial, by rw [List.length_append]; omega⟩]
  cases hr : runL v.width (empty v.width) (v.safe ++ v.loose) 0 with
  | inl s =>
    have V := zdw _ _ _ _ (zed (zw.1 h1)) rfl hr
    have hs := zr4 V.1.small h.st
    have hs' : Lqi none [.i s.width, .i s.now, .i s.given, .i s.births, .l (encK s.things), .l (encP s.pins), .l (encL s.leases), .i v.st.width, .i v.st.now, .i v.st.given, .i v.st.births, .l (encK v.st.things), .l (encP v.st.pins), .l (encL v.st.leases)] = _ := hs
    simp only [zdb]
    simp (disch := omega) only [push_cast, hs']
    by_cases he : s = v.st
    · rw [decide_eq_true he]
      subst he
      have hro := zo0 v.st v.rd V.1.births
      have hro' : Lqu none [.i v.st.width, .i v.st.now, .i v.st.given, .i v.st.births, .l (encK v.st.things), .l (encP v.st.pins), .l (encL v.st.leases), .i v.rd.phase, .l (encS v.rd.queue), .l (encS v.rd.marked), .i v.rd.top, .i v.rd.at_, .i v.rd.rounds] = _ := hro
      simp (disch := omega) only [push_cast, hro']
      congr 3
      exact decide_eq_decide.2 ⟨fun h4 => ⟨h1, h2, h3, hr, h4⟩, fun h4 => h4.rd⟩
    · rw [decide_eq_false he, decide_eq_false (p := VV v) fun h1 => he (by have := h1.run; rw [hr] at this; cases this; rfl)]; rfl
  | inr n =>
    simp only [zdb]
    simp (disch := omega) only [push_cast]
    rw [decide_eq_false (p := VV v) fun h1 => by have := h1.run; rw [hr] at this; cases this]
end KV
end
section
namespace KV
open Go Go.Eng
open Classical
theorem zhv (r : Round) (h1 : r.queue.length ≤ 1099511627776) (h2 : r.marked.length ≤ 1099511627776) : Lqby none (encR r) = some (encRo r) := by
  unfold encR encRo
  rw [eqby_i, mostE]; simp (disch := omega) only [push_cast, List.nil_append]
theorem zhg (a b : List Bs) (ha : Small a) (hb : Small b) : Lqb9 none [.l (encS a), .l (encS b)] = some [.l (encS a), .l (encS b)] := by
  have h1 := ha.1; have h2 := hb.1
  rw [eqb9_i, mostE]; simp (disch := omega) only [push_cast, List.nil_append]
theorem zd8 {v : Vault} (V : VV v) : Lqbj none (encV v) = some (vI v ++ vL v) := by
  have h := V.small; have Vs := V.vs.1
  have h1 := zhv v.rd h.q h.m
  have h2 := Vs.nT; have h3 := Vs.nP; have h4 := Vs.nL
  unfold encV
  unfold encR encRo at h1
  rw [eqbj_i, zhg _ _ h.a h.b]
  simp (disch := omega) only [push_cast, zdm v.st.width v.st.now v.st.given v.st.births v.st.things (encP v.st.pins) (encL v.st.leases) (by omega) (zb3 Vs) (by rw [zdg]; omega) (by rw [zdn]; omega), h1]
  rfl
theorem znq {s : State} (V : VS s) : Lqbv none (encSt s) = some [.i (roomM s : Int)] := by
  unfold encSt
  have hn := V.nT; have hr := zg0 V
  rw [eqbv_i]
  have := zu (f := fun (i : Nat) (a : Nat) => Lqbv (some 3) [.i (a : Int), .i (i : Int), .i s.width, .i s.now, .i s.given, .i s.births, .l (encK s.things), .l (encP s.pins), .l (encL s.leases)]) (n := s.things.length) (T := some [.i (roomM s : Int)])
    (I := fun i a => a = ((s.things.map fun k => (formM k.thing).size).take i).sum) (fun i a hi hI => ⟨a + (formM (nth K0 s.things i).thing).size, by
      show Lqbv _ _ = Lqbv _ _
      have hk := (V.okT _ (zh (d := K0) hi)).1
      have hk2 := zbk hk
      have ha : a ≤ roomM s := by rw [hI]; exact zf9
      have hf := zbo (nth K0 s.things i).thing
      have hz : ((nth K0 s.things i).thing.refs.length : Int) * s.width = (szs (nth K0 s.things i).thing.refs : Int) := by
        have : ∀ l : List Bs, (∀ r ∈ l, (r.size : Int) = s.width) → (l.length : Int) * s.width = (szs l : Int) := by
          intro l
          induction l with
          | nil => intro _; simp [szs]
          | cons a l ih => intro hl; rw [zd4, List.length_cons, Int.natCast_add, Int.natCast_add, ← ih fun r hr => hl r (by simp [hr]), hl a (by simp), Int.add_mul]; omega
        exact this _ hk.size
      rw [eqbv_3]
      simp (disch := omega) only [push_cast, hz]
      congr 3
      omega, by
      show a + (formM (nth K0 s.things i).thing).size = _
      rw [hI, ← List.map_take, ← List.map_take, zz K0 hi, List.map_append, List.sum_append]; simp⟩) (fun a hI => by
      show Lqbv _ _ = _
      rw [eqbv_3]
      simp (disch := omega) only [push_cast]
      rw [hI, List.take_of_length_le (by simp)]; rfl) 0 0 (Nat.zero_le _) rfl
  exact this
theorem zqh {s : State} (hs : SrtK s.things) (hn : s.things.length ≤ 1000000) (r : Round) (x : Bs) (h1 : r.queue.length ≤ 1099511627775) (h2 : r.marked.length ≤ 1099511627776) : Lqcf none (encSt s ++ encR r ++ [.s x]) = some (encRo (zcb s r x)) := by
  show Lqcf none [.i s.width, .i s.now, .i s.given, .i s.births, .l (encK s.things), .l (encP s.pins), .l (encL s.leases), .i r.phase, .l (encS r.queue), .l (encS r.marked), .i r.top, .i r.at_, .i r.rounds, .s x] = _
  have hcr := zhv r (by omega) h2
  have hcr' : Lqby none [.i r.phase, .l (encS r.queue), .l (encS r.marked), .i r.top, .i r.at_, .i r.rounds] = some [.i r.phase, .i r.top, .i r.at_, .i r.rounds, .l (encS r.queue), .l (encS r.marked)] := hcr
  have hf := zbe (T := s.things) (x := x)
  rw [eqcf_i, mostE]
  unfold zcb
  simp (disch := omega) only [push_cast, hcr', zb6 _ _ _ _ s.things _ _ x hs hn]
  by_cases c2 : r.phase = 0
  · rw [if_neg fun h => h.2.1 c2]; simp (disch := omega) only [push_cast]; rfl
  by_cases c1 : hasT s.things x
  rotate_left; · rw [if_neg fun h => c1 h.1]; have := hf.2 c1; simp (disch := omega) only [push_cast]; rfl
  have c1' : ¬ findT s.things x < 0 := fun h => hf.1 h c1
  by_cases c3 : x ∈ r.marked
  · rw [if_neg fun h => h.2.2.1 c3]; simp (disch := omega) only [push_cast, zo r.marked x (by omega), decide_eq_true c3]; rfl
  by_cases c4 : r.queue.length < 23200
  · rw [if_pos ⟨c1, c2, c3, c4⟩]; simp (disch := omega) only [push_cast, zo r.marked x (by omega), decide_eq_false c3]
    rw [zb7, zp]; rfl
  · rw [if_neg fun h => c4 h.2.2.2]; simp (disch := omega) only [push_cast, zo r.marked x (by omega), decide_eq_false c3]; rfl
noncomputable def doS (v : Vault) (e : Entry) : Did := doE v e (decide (zdv e (chg v.st e) ≠ E0))
theorem do_25 (x : Bs) (w lim : Int) (s : State) (r : Round) (sum : Bs) (lease : Int) (sf ls : List Bs) (hs : SrtK s.things) (hn : s.things.length ≤ 1000000) (h1 : r.queue.length ≤ 1099511627775) (h2 : r.marked.length ≤ 1099511627776)
    (i1 i2 i3 i4 i5 : Int) (l1 l2 l3 : Rw) (s2 s3 : Bs) :
    Lqj (some 25) [.s x, .i 0, .i 0, .i 0, .i 0, .i 0, .i 0, .i 0, .i 0, .i 0, .i 0, .i 0, .s E0, .i 0, .s E0, .s E0, .i i1, .i i2, .i i3, .i i4, .i i5, .l l1, .l l2, .s sum, .i lease, .s s2, .s s3, .i w, .i lim, .i s.width, .i s.now, .i s.given, .i s.births, .i r.phase, .i r.top, .i r.at_, .i r.rounds, .l l3, .l (encS sf), .l (encS ls), .l (encK s.things), .l (encP s.pins), .l (encL s.leases), .l (encS r.queue), .l (encS r.marked), .l [], .l [], .l [], .l [], .l [], .l [], .l []] =
      some (zn ⟨0, ⟨w, lim, sf, ls, s, if decide (x ≠ E0) = true then zcb s r x else r⟩, sum, lease, E0, E0⟩) := by
  rw [eqj_25]
  have := zqh hs hn r x h1 h2
  have h' : Lqcf none [.i s.width, .i s.now, .i s.given, .i s.births, .l (encK s.things), .l (encP s.pins), .l (encL s.leases), .i r.phase, .l (encS r.queue), .l (encS r.marked), .i r.top, .i r.at_, .i r.rounds, .s x] = _ := this
  rw [h']
  by_cases hx : x = E0
  · rw [if_neg (by simp [hx])]; simp (disch := omega) only [push_cast]; rfl
  · rw [if_pos (by simp [hx])]; unfold encRo; simp (disch := omega) only [push_cast]; rfl
theorem zdi {v : Vault} (h : SmallV v) (e : Entry) (hn : e.name.size ≤ 4611686018427387904) : Lqj none (encV v ++ encE e) = some (zn (doS v e)) := by
  show Lqj none [.i v.width, .i v.limit, .l (encS v.safe), .l (encS v.loose), .i v.st.width, .i v.st.now, .i v.st.given, .i v.st.births, .l (encK v.st.things), .l (encP v.st.pins), .l (encL v.st.leases), .i v.rd.phase, .l (encS v.rd.queue), .l (encS v.rd.marked), .i v.rd.top, .i v.rd.at_, .i v.rd.rounds, .i e.kind, .s e.sum, .s e.name, .i e.number, .s e.thing.text, .l (encS e.thing.refs)] = _
  have hvv := zeq h
  unfold encV at hvv
  rw [eqj_i, hvv]
  unfold doS doE
  by_cases V : VV v
  rotate_left
  · rw [if_pos V, decide_eq_false V]; simp (disch := omega) only [push_cast]; rfl
  have hcp := zd8 V
  unfold encV at hcp
  rw [if_neg (not_not_intro V), decide_eq_true V, hcp]
  have hen := zgc e v.width hn
  rw [show Lqp none [.i e.kind, .s e.sum, .s e.name, .i e.number, .s e.thing.text, .l (encS e.thing.refs), .i v.width] = _ from hen]
  by_cases he : zi e v.width = true
  rotate_left
  · rw [if_pos he]
    have : zi e v.width = false := by simpa using he
    simp (disch := omega) only [push_cast, this]; rfl
  rw [if_neg (not_not_intro he)]
  have Vs := V.vs
  have he' : zi e v.st.width = true := by rw [Vs.2]; exact he
  have hch := zi9 Vs.1 he'
  have hch' : Lqb6 none [.i v.st.width, .i v.st.now, .i v.st.given, .i v.st.births, .l (encK v.st.things), .l (encP v.st.pins), .i e.kind, .s e.sum, .s e.name, .i e.number, .s e.thing.text, .l (encS e.thing.refs), .l (encL v.st.leases)] = _ := hch
  have hfe := zgh e v.width hn
  have hfe' : Lqbd none [.i e.kind, .s e.sum, .s e.name, .i e.number, .s e.thing.text, .l (encS e.thing.refs), .i v.width] = _ := hfe
  rw [if_pos he] at hfe'
  have hq := h.q; have hm := h.m
  have hln := V.log.n
  have n1 := Vs.1.nT; have n2 := Vs.1.nP; have n3 := Vs.1.nL
  have hc4 := zdm v.st.width v.st.now v.st.given v.st.births v.st.things (encP v.st.pins) (encL v.st.leases) (by omega) (zb3 Vs.1) (by rw [zdg]; omega) (by rw [zdn]; omega)
  simp only [vI, vL, List.cons_append, List.nil_append]
  by_cases hcode : (chg v.st e).code = 0
  rotate_left
  · rw [if_pos hcode]
    simp only [zq] at hch'
    rw [if_neg hcode] at hch'
    simp (disch := omega) only [push_cast, he, hc4, hch', decide_eq_false hcode]
    rfl
  rw [if_neg (not_not_intro hcode)]
  simp only [zq] at hch'
  rw [if_pos hcode] at hch'
  have Vc := zfh Vs.1 he' hcode
  have hrm := znq Vc
  unfold encSt at hrm
  have hqn := V.rd.nQ
  have hmn := V.rd.nM
  have m1 := Vc.nT; have m2 := Vc.nP; have m3 := Vc.nL
  have hc5 := zdm (chg v.st e).st.width (chg v.st e).st.now (chg v.st e).st.given (chg v.st e).st.births (chg v.st e).st.things (encP (chg v.st e).st.pins) (encL (chg v.st e).st.leases) (by omega) (zb3 Vc) (by rw [zdg]; omega) (by rw [zdn]; omega)
  by_cases h8 : e.kind = 1 ∧ v.limit < (roomM (chg v.st e).st : Int)
  · rw [if_pos h8]
    have h81 := h8.1; have h82 := h8.2
    simp (disch := omega) only [push_cast, he, hc4, hch', hrm]
    rfl
  rw [if_neg h8]
  by_cases h9 : v.safe.length + v.loose.length = 4000
  · rw [if_pos h9]
    by_cases hk : e.kind = 1
    · have : ¬ v.limit < (roomM (chg v.st e).st : Int) := fun h => h8 ⟨hk, h⟩
      simp (disch := omega) only [push_cast, he, hc4, hch', hrm]; rfl
    · simp (disch := omega) only [push_cast, he, hc4, hch']; rfl
  rw [if_neg h9]
  by_cases hk : e.kind = 1
  · have hlim : ¬ v.limit < (roomM (chg v.st e).st : Int) := fun h => h8 ⟨hk, h⟩
    simp (disch := omega) only [push_cast, he, hc4, hch', hrm, hfe', hc5, mostE]
    rw [zb7, zp, do_25 _ _ _ (chg v.st e).st v.rd _ _ _ _ Vc.srtT (by omega) (by omega) (by omega)]
    unfold zdv; rw [if_pos hk]
  · simp (disch := omega) only [push_cast, he, hc4, hch', hfe', hc5, mostE]
    rw [zb7, zp, do_25 _ _ _ (chg v.st e).st v.rd _ _ _ _ Vc.srtT (by omega) (by omega) (by omega)]
    unfold zdv; rw [if_neg hk]
end KV
end
section
namespace KV
open Go Go.Eng
open Classical
def eHold (name sum : Bs) : Entry := ⟨2, sum, name, 0, ⟨E0, []⟩⟩
theorem zpm {v : Vault} (h : SmallV v) (name sum : Bs) (hn : name.size ≤ 4611686018427387904) : Lqch none (encV v ++ [.s name, .s sum]) = some (zn (doS v (eHold name sum))) := by
  have := zdi h (eHold name sum) hn
  show Lqch none [.i v.width, .i v.limit, .l (encS v.safe), .l (encS v.loose), .i v.st.width, .i v.st.now, .i v.st.given, .i v.st.births, .l (encK v.st.things), .l (encP v.st.pins), .l (encL v.st.leases), .i v.rd.phase, .l (encS v.rd.queue), .l (encS v.rd.marked), .i v.rd.top, .i v.rd.at_, .i v.rd.rounds, .s name, .s sum] = _
  rw [eqch_i, show Lqj none [.i v.width, .i v.limit, .l (encS v.safe), .l (encS v.loose), .i v.st.width, .i v.st.now, .i v.st.given, .i v.st.births, .l (encK v.st.things), .l (encP v.st.pins), .l (encL v.st.leases), .i v.rd.phase, .l (encS v.rd.queue), .l (encS v.rd.marked), .i v.rd.top, .i v.rd.at_, .i v.rd.rounds, .i 2, .s sum, .s name, .i 0, .s E0, .l []] = _ from this, Option.bind_some, zdd]
def zeu (name : Bs) : Entry := ⟨3, E0, name, 0, ⟨E0, []⟩⟩
theorem zng {v : Vault} (h : SmallV v) (name : Bs) (hn : name.size ≤ 4611686018427387904) : Lqci none (encV v ++ [.s name]) = some (zn (doS v (zeu name))) := by
  have := zdi h (zeu name) hn
  show Lqci none [.i v.width, .i v.limit, .l (encS v.safe), .l (encS v.loose), .i v.st.width, .i v.st.now, .i v.st.given, .i v.st.births, .l (encK v.st.things), .l (encP v.st.pins), .l (encL v.st.leases), .i v.rd.phase, .l (encS v.rd.queue), .l (encS v.rd.marked), .i v.rd.top, .i v.rd.at_, .i v.rd.rounds, .s name] = _
  rw [eqci_i, show Lqj none [.i v.width, .i v.limit, .l (encS v.safe), .l (encS v.loose), .i v.st.width, .i v.st.now, .i v.st.given, .i v.st.births, .l (encK v.st.things), .l (encP v.st.pins), .l (encL v.st.leases), .i v.rd.phase, .l (encS v.rd.queue), .l (encS v.rd.marked), .i v.rd.top, .i v.rd.at_, .i v.rd.rounds, .i 3, .s E0, .s name, .i 0, .s E0, .l []] = _ from this, Option.bind_some, zdd]
def zfn (sum : Bs) (hold : Int) : Entry := ⟨4, sum, E0, hold, ⟨E0, []⟩⟩
theorem zsk {v : Vault} (h : SmallV v) (sum : Bs) (hold : Int)  : Lqcj none (encV v ++ [.s sum, .i hold]) = some (zn (doS v (zfn sum hold))) := by
  have := zdi h (zfn sum hold) (by show (0 : Nat) ≤ 4611686018427387904; omega)
  show Lqcj none [.i v.width, .i v.limit, .l (encS v.safe), .l (encS v.loose), .i v.st.width, .i v.st.now, .i v.st.given, .i v.st.births, .l (encK v.st.things), .l (encP v.st.pins), .l (encL v.st.leases), .i v.rd.phase, .l (encS v.rd.queue), .l (encS v.rd.marked), .i v.rd.top, .i v.rd.at_, .i v.rd.rounds, .s sum, .i hold] = _
  rw [eqcj_i, show Lqj none [.i v.width, .i v.limit, .l (encS v.safe), .l (encS v.loose), .i v.st.width, .i v.st.now, .i v.st.given, .i v.st.births, .l (encK v.st.things), .l (encP v.st.pins), .l (encL v.st.leases), .i v.rd.phase, .l (encS v.rd.queue), .l (encS v.rd.marked), .i v.rd.top, .i v.rd.at_, .i v.rd.rounds, .i 4, .s sum, .s E0, .i hold, .s E0, .l []] = _ from this, Option.bind_some, zdd]
def ze9 (n : Int) : Entry := ⟨5, E0, E0, n, ⟨E0, []⟩⟩
theorem znl {v : Vault} (h : SmallV v) (n : Int)  : Lqck none (encV v ++ [.i n]) = some (zn (doS v (ze9 n))) := by
  have := zdi h (ze9 n) (by show (0 : Nat) ≤ 4611686018427387904; omega)
  show Lqck none [.i v.width, .i v.limit, .l (encS v.safe), .l (encS v.loose), .i v.st.width, .i v.st.now, .i v.st.given, .i v.st.births, .l (encK v.st.things), .l (encP v.st.pins), .l (encL v.st.leases), .i v.rd.phase, .l (encS v.rd.queue), .l (encS v.rd.marked), .i v.rd.top, .i v.rd.at_, .i v.rd.rounds, .i n] = _
  rw [eqck_i, show Lqj none [.i v.width, .i v.limit, .l (encS v.safe), .l (encS v.loose), .i v.st.width, .i v.st.now, .i v.st.given, .i v.st.births, .l (encK v.st.things), .l (encP v.st.pins), .l (encL v.st.leases), .i v.rd.phase, .l (encS v.rd.queue), .l (encS v.rd.marked), .i v.rd.top, .i v.rd.at_, .i v.rd.rounds, .i 5, .s E0, .s E0, .i n, .s E0, .l []] = _ from this, Option.bind_some, zdd]
def eWait (n : Int) : Entry := ⟨6, E0, E0, n, ⟨E0, []⟩⟩
theorem zop {v : Vault} (h : SmallV v) (n : Int)  : Lqcl none (encV v ++ [.i n]) = some (zn (doS v (eWait n))) := by
  have := zdi h (eWait n) (by show (0 : Nat) ≤ 4611686018427387904; omega)
  show Lqcl none [.i v.width, .i v.limit, .l (encS v.safe), .l (encS v.loose), .i v.st.width, .i v.st.now, .i v.st.given, .i v.st.births, .l (encK v.st.things), .l (encP v.st.pins), .l (encL v.st.leases), .i v.rd.phase, .l (encS v.rd.queue), .l (encS v.rd.marked), .i v.rd.top, .i v.rd.at_, .i v.rd.rounds, .i n] = _
  rw [eqcl_i, show Lqj none [.i v.width, .i v.limit, .l (encS v.safe), .l (encS v.loose), .i v.st.width, .i v.st.now, .i v.st.given, .i v.st.births, .l (encK v.st.things), .l (encP v.st.pins), .l (encL v.st.leases), .i v.rd.phase, .l (encS v.rd.queue), .l (encS v.rd.marked), .i v.rd.top, .i v.rd.at_, .i v.rd.rounds, .i 6, .s E0, .s E0, .i n, .s E0, .l []] = _ from this, Option.bind_some, zdd]
theorem znr {v : Vault} (h : SmallV v) (t : Thing) (hold : Int) (ht : t.refs.length ≤ 1099511627776) : Lqcg none (encV v ++ [.s t.text, .l (encS t.refs), .i hold]) = some (zn (doS v (ePut t hold))) := by
  have := zdi h (ePut t hold) (by show (0 : Nat) ≤ 4611686018427387904; omega)
  show Lqcg none [.i v.width, .i v.limit, .l (encS v.safe), .l (encS v.loose), .i v.st.width, .i v.st.now, .i v.st.given, .i v.st.births, .l (encK v.st.things), .l (encP v.st.pins), .l (encL v.st.leases), .i v.rd.phase, .l (encS v.rd.queue), .l (encS v.rd.marked), .i v.rd.top, .i v.rd.at_, .i v.rd.rounds, .s t.text, .l (encS t.refs), .i hold] = _
  rw [eqcg_i, ze6 _ _ (by rw [zbn]; exact ht)]
  simp (disch := omega) only [push_cast]
  rw [show Lqj none [.i v.width, .i v.limit, .l (encS v.safe), .l (encS v.loose), .i v.st.width, .i v.st.now, .i v.st.given, .i v.st.births, .l (encK v.st.things), .l (encP v.st.pins), .l (encL v.st.leases), .i v.rd.phase, .l (encS v.rd.queue), .l (encS v.rd.marked), .i v.rd.top, .i v.rd.at_, .i v.rd.rounds, .i 1, .s E0, .s E0, .i hold, .s t.text, .l (encS t.refs)] = _ from this, Option.bind_some, zdd]
theorem zjp (w lim : Int) (a b : List Bs) (ha : Small a) (hb : Small b) (hn : a.length + b.length ≤ 1099511627776) : Lqb3 none [.i w, .i lim, .l (encS a), .l (encS b)] = some (encO (openM w lim a b)) := by
  rw [eqb3_i]
  unfold openM
  by_cases h1 : zk w = true
  rotate_left; · have : zk w = false := by simpa using h1
                 rw [if_neg fun h => h1 h.1]; simp (disch := omega) only [push_cast, zr, this]; rfl
  by_cases h2 : 0 ≤ lim ∧ lim ≤ 1000000
  rotate_left; · rw [if_neg fun h => h2 h.2.1]; simp (disch := omega) only [push_cast, zr, h1, zl]; rfl
  by_cases h3 : LogOk a b
  rotate_left; · rw [if_neg fun h => h3 h.2.2]; simp (disch := omega) only [push_cast, zr, h1, zl, zb1 _ _ ha hb]; rfl
  have hl := h3.n
  rw [if_pos ⟨h1, h2, h3⟩]
  simp (disch := omega) only [push_cast, zr, h1, zl, zb1 _ _ ha hb, zht _ _ hn, zk9 _ _ (ha.app hb hn), zhg _ _ ha hb]
  rw [if_pos ⟨trivial, by rw [List.length_append]; omega⟩]
  cases runL w (empty w) (a ++ b) 0 with
  | inl s => simp only [zdb]; simp (disch := omega) only [push_cast]; rfl
  | inr n => simp only [zdb]; simp (disch := omega) only [push_cast]; rfl
theorem zmk (a b : List Bs) (k : Int) (ha : Small a) (hb : Small b) : Lqcw none [.l (encS a), .l (encS b), .i k] = some [.l [], .l (encS (if LogOk a b then a ++ b.take k.toNat else []))] := by
  have h1 := ha.1; have h2 := hb.1
  rw [eqcw_i, mostE]
  by_cases h : LogOk a b
  rotate_left; · rw [if_neg h]; simp (disch := omega) only [push_cast, zb1 a b ha hb, decide_eq_false h]; rfl
  have hl := h.n
  rw [if_pos h]
  have hsub : ∀ n, Eng.sub (encS b) 0 n = encS (b.take n) := fun n => by rw [zdh]; simp
  have hlen : ∀ n, (b.take n).length ≤ b.length := fun n => by rw [List.length_take]; omega
  have l0 := hlen 0; have l1 := hlen b.length; have l2 := hlen k.toNat
  by_cases c1 : k < 0
  · have : k.toNat = 0 := by omega
    rw [this]
    simp (disch := omega) only [push_cast, zb1 a b ha hb, decide_eq_true h, hsub, List.nil_append]
    rw [zp]
  by_cases c2 : (b.length : Int) < k
  · have : b.take k.toNat = b.take b.length := by rw [List.take_length, List.take_of_length_le (by omega)]
    rw [this]
    simp (disch := omega) only [push_cast, zb1 a b ha hb, decide_eq_true h, hsub, List.nil_append]
    rw [zp]
  · simp (disch := omega) only [push_cast, zb1 a b ha hb, decide_eq_true h, hsub, List.nil_append]
    rw [zp]
noncomputable def zcf (v : Vault) : Vault := if VV v then { v with safe := v.safe ++ v.loose, loose := [] } else V0
noncomputable def loseM (v : Vault) (k : Int) : Vault := if VV v then (match openM v.width v.limit (v.safe ++ v.loose.take k.toNat) [] with | .inl x => x | .inr _ => V0) else V0
def encLo (v : Vault) : Lv := [.i v.width, .i v.limit, .i v.st.width, .i v.st.now, .i v.st.given, .i v.st.births, .i v.rd.phase, .l (encS v.rd.queue), .l (encS v.rd.marked), .i v.rd.top, .i v.rd.at_, .i v.rd.rounds, .l (encS v.safe), .l (encS v.loose), .l (encK v.st.things), .l (encP v.st.pins), .l (encL v.st.leases)]
theorem zrq {v : Vault} (V : VV v) : VV (zcf v) := by
  unfold zcf
  rw [if_pos V]
  refine ⟨V.wd, V.lim, ⟨fun x hx => ?_, (fun x hx => nomatch hx), ?_⟩, ?_, V.rd⟩
  · rcases List.mem_append.1 hx with h | h
    · exact V.log.sa x h
    · exact V.log.sb x h
  · have := V.log.n
    show (v.safe ++ v.loose).length + 0 ≤ 4000
    rw [List.length_append]; omega
  · show runL v.width (empty v.width) ((v.safe ++ v.loose) ++ []) 0 = .inl v.st
    rw [List.append_nil]; exact V.run
theorem zka {v : Vault} (V : VV v) (k : Int) : ∃ s, runL v.width (empty v.width) (v.safe ++ v.loose.take k.toNat) 0 = .inl s ∧ openM v.width v.limit (v.safe ++ v.loose.take k.toNat) [] = .inl ⟨v.width, v.limit, v.safe ++ v.loose.take k.toNat, [], s, R0⟩ ∧ VV ⟨v.width, v.limit, v.safe ++ v.loose.take k.toNat, [], s, R0⟩ := by
  have hl : LogOk (v.safe ++ v.loose.take k.toNat) [] := by
    refine ⟨fun x hx => ?_, (fun x hx => nomatch hx), ?_⟩
    · rcases List.mem_append.1 hx with h | h
      · exact V.log.sa x h
      · exact V.log.sb x (List.mem_of_mem_take h)
    · have := V.log.n
      show (v.safe ++ v.loose.take k.toNat).length + 0 ≤ 4000
      rw [List.length_append, List.length_take]; omega
  obtain ⟨s, hs⟩ : ∃ s, runL v.width (empty v.width) (v.safe ++ v.loose.take k.toNat) 0 = .inl s := by
    have := V.run
    rw [← List.take_append_drop k.toNat v.loose, ← List.append_assoc, ze2] at this
    cases hr : runL v.width (empty v.width) (v.safe ++ v.loose.take k.toNat) 0 with
    | inl s => exact ⟨s, rfl⟩
    | inr n => rw [hr] at this; cases this
  refine ⟨s, hs, ?_, ?_⟩
  · unfold openM; rw [if_pos ⟨V.wd, V.lim, hl⟩, List.append_nil, hs]
  · have W := zdw _ _ _ _ (zed (zw.1 V.wd)) rfl hs
    have hb := W.1.births
    exact ⟨V.wd, V.lim, hl, by rw [List.append_nil]; exact hs, (show RoundOk s.width s.births R0 from ⟨⟨Int.le_refl _, (by show (0 : Int) ≤ 2; omega)⟩, ⟨Int.le_refl _, (by show (0 : Int) ≤ 1000000000; omega)⟩, Nat.zero_le _, Nat.zero_le _, (fun x hx => nomatch hx), List.nodup_nil, (fun x hx => nomatch hx), fun _ => ⟨rfl, rfl, rfl, rfl⟩, fun h => absurd rfl h⟩)⟩
theorem zml {v : Vault} (V : VV v) (k : Int) : VV (loseM v k) := by
  obtain ⟨s, h1, h2, h3⟩ := zka V k
  unfold loseM; rw [if_pos V, h2]; exact h3
theorem zmg (a b : List Bs) (ha : Small a) (hb : Small b) : Lqcu none [.l (encS a), .l (encS b)] = some [.l (encS (if LogOk a b then a ++ b else [])), .l []] := by
  have h1 := ha.1; have h2 := hb.1
  rw [eqcu_i, mostE]
  by_cases h : LogOk a b
  rotate_left; · rw [if_neg h]; simp (disch := omega) only [push_cast, zb1 a b ha hb, decide_eq_false h]; rfl
  have hl := h.n
  rw [if_pos h]
  simp (disch := omega) only [push_cast, zb1 a b ha hb, decide_eq_true h, List.nil_append]
  rw [zp]
theorem zls {v : Vault} (h : SmallV v) (k : Int) : Lqcm none (encV v ++ [.i k]) = some (encLo (loseM v k)) := by
  have hvv := zeq h
  unfold encV at hvv
  show Lqcm none [.i v.width, .i v.limit, .l (encS v.safe), .l (encS v.loose), .i v.st.width, .i v.st.now, .i v.st.given, .i v.st.births, .l (encK v.st.things), .l (encP v.st.pins), .l (encL v.st.leases), .i v.rd.phase, .l (encS v.rd.queue), .l (encS v.rd.marked), .i v.rd.top, .i v.rd.at_, .i v.rd.rounds, .i k] = _
  rw [eqcm_i, hvv]
  unfold loseM
  by_cases V : VV v
  rotate_left; · rw [if_neg V, decide_eq_false V]; rfl
  rw [if_pos V, decide_eq_true V]
  obtain ⟨s, h1, h2, h3⟩ := zka V k
  have hs := h3.small
  simp (disch := omega) only [push_cast, zmk v.safe v.loose k h.a h.b]
  rw [if_pos V.log, show ([] : Rw) = encS [] from rfl, zjp _ _ _ _ hs.a hs.b hs.ab, h2]
  rfl
theorem zol {v : Vault} (h : SmallV v) : Lqcv none (encV v) = some (vI (zcf v) ++ vL (zcf v)) := by
  have hvv := zeq h
  unfold encV at hvv ⊢
  rw [eqcv_i, hvv]
  unfold zcf
  by_cases V : VV v
  rotate_left; · rw [if_neg V, decide_eq_false V]; rfl
  rw [if_pos V, decide_eq_true V]
  have hcp := zd8 V
  unfold encV at hcp
  rw [hcp]
  simp only [vI, vL, List.cons_append, List.nil_append]
  have hl := V.log.n
  simp (disch := omega) only [push_cast, zmg v.safe v.loose h.a h.b]
  rw [if_pos V.log]
  rfl
end KV
end
section
namespace KV
open Go Go.Eng
open Classical
section
variable {s : State} {x : Bs} (V : VS s)
include V
theorem zrj (hr : ¬ isRef s.things x) : Lqz (some 7) [.s x, .i 0, .i s.width, .i s.now, .i s.given, .i s.births, .l (encK s.things), .l (encP s.pins), .l (encL s.leases), .i 0, .i 0, .i 0, .i 0, .i 0, .s E0, .i 0, .s E0, .s E0, .l (encK []), .l [], .l [], .l []] =
    some [.i 0, .i s.width, .i s.now, .i s.given, .i s.births, .l (encP s.pins), .l (encL s.leases), .s E0, .i 0, .s E0, .s E0, .l (encK (delK x s.things))] := by
  have h1 := V.nT
  refine zdz K0 (l := s.things) (p := fun k => !decide (k.sum = x)) (f := fun i a => Lqz (some 7) [.s x, .i (i : Int), .i s.width, .i s.now, .i s.given, .i s.births, .l (encK s.things), .l (encP s.pins), .l (encL s.leases), .i 0, .i 0, .i 0, .i 0, .i 0, .s E0, .i 0, .s E0, .s E0, .l (encK a), .l [], .l [], .l []]) (fun i a hi ha => ?_) ?_
  · show Lqz _ _ = Lqz _ _
    have hm := zh (d := K0) hi
    have hrl := zb3 V _ hm
    have hn : ¬ x ∈ (nth K0 s.things i).thing.refs := fun h => hr ⟨_, hm, h⟩
    rw [eqz_7, mostE]
    by_cases hc : (nth K0 s.things i).sum = x
    · rw [if_neg (by simp [hc])]; simp (disch := omega) only [push_cast, zo _ x (show (nth K0 s.things i).thing.refs.length ≤ 4611686018427387904 by omega), decide_eq_false hn]
    · rw [if_pos (by simp [hc]), ← zbj]; simp (disch := omega) only [push_cast, zo _ x (show (nth K0 s.things i).thing.refs.length ≤ 4611686018427387904 by omega), decide_eq_false hn] <;> rfl
  · show Lqz _ _ = _
    rw [eqz_7]; simp (disch := omega) only [push_cast] <;> rfl
theorem zqp (hr : isRef s.things x) : ∀ (i : Nat) (a : List Kept), i ≤ s.things.length → (a.length ≤ i ∧ ∃ j, i ≤ j ∧ j < s.things.length ∧ x ∈ (nth K0 s.things j).thing.refs) → Lqz (some 7) [.s x, .i (i : Int), .i s.width, .i s.now, .i s.given, .i s.births, .l (encK s.things), .l (encP s.pins), .l (encL s.leases), .i 0, .i 0, .i 0, .i 0, .i 0, .s E0, .i 0, .s E0, .s E0, .l (encK a), .l [], .l [], .l []] =
    some [.i 6, .i 0, .i 0, .i 0, .i 0, .l [], .l [], .s E0, .i 0, .s E0, .s E0, .l []] := by
  have h1 := V.nT
  intro i a hi hI
  refine zg5 (f := fun i a => Lqz (some 7) [.s x, .i (i : Int), .i s.width, .i s.now, .i s.given, .i s.births, .l (encK s.things), .l (encP s.pins), .l (encL s.leases), .i 0, .i 0, .i 0, .i 0, .i 0, .s E0, .i 0, .s E0, .s E0, .l (encK a), .l [], .l [], .l []]) (n := s.things.length) (I := fun i a => a.length ≤ i ∧ ∃ j, i ≤ j ∧ j < s.things.length ∧ x ∈ (nth K0 s.things j).thing.refs)
    (T := fun r => r = some [.i 6, .i 0, .i 0, .i 0, .i 0, .l [], .l [], .s E0, .i 0, .s E0, .s E0, .l []]) (fun i a hi hI => ?_) (fun a hI => ?_) i a hi hI
  · obtain ⟨ha, j, hj1, hj2, hj3⟩ := hI
    have hm := zh (d := K0) hi
    have hrl := zb3 V _ hm
    by_cases hn : x ∈ (nth K0 s.things i).thing.refs
    · right
      show Lqz _ _ = _
      rw [eqz_7]
      simp (disch := omega) only [push_cast, zo _ x (show (nth K0 s.things i).thing.refs.length ≤ 4611686018427387904 by omega), decide_eq_true hn]
    · left
      have hj : i + 1 ≤ j := by
        rcases Nat.eq_or_lt_of_le hj1 with h | h
        · rw [h] at hn; exact absurd hj3 hn
        · exact h
      by_cases hc : (nth K0 s.things i).sum = x
      · refine ⟨a, ?_, by omega, j, hj, hj2, hj3⟩
        show Lqz _ _ = Lqz _ _
        rw [eqz_7]
        simp (disch := omega) only [push_cast, zo _ x (show (nth K0 s.things i).thing.refs.length ≤ 4611686018427387904 by omega), decide_eq_false hn]
      · refine ⟨a ++ [nth K0 s.things i], ?_, by simp; omega, j, hj, hj2, hj3⟩
        show Lqz _ _ = Lqz _ _
        rw [eqz_7, mostE, ← zbj]
        simp (disch := omega) only [push_cast, zo _ x (show (nth K0 s.things i).thing.refs.length ≤ 4611686018427387904 by omega), decide_eq_false hn] <;> rfl
  · obtain ⟨_, j, h1, h2, _⟩ := hI; omega
theorem zla (hT : hasT s.things x) : Lqz none [.i s.width, .i s.now, .i s.given, .i s.births, .l (encK s.things), .l (encP s.pins), .l (encL s.leases), .s x] =
    some (if held s x ∨ isRef s.things x then [.i 6, .i 0, .i 0, .i 0, .i 0, .l [], .l [], .s E0, .i 0, .s E0, .s E0, .l []] else [.i 0, .i s.width, .i s.now, .i s.given, .i s.births, .l (encP s.pins), .l (encL s.leases), .s E0, .i 0, .s E0, .s E0, .l (encK (delK x s.things))]) := by
  have h2 := V.nP; have h3 := V.nL
  have hh := zjw s x (by omega) (by omega)
  unfold encSt at hh
  rw [eqz_i]
  simp (disch := omega) only [push_cast, zc2 V, show Lqr none [.i s.width, .i s.now, .i s.given, .i s.births, .l (encK s.things), .l (encP s.pins), .l (encL s.leases), .s x] = _ from hh]
  rw [decide_eq_false (show ¬ findT s.things x < 0 from fun h => zbe.1 h hT)]
  by_cases c1 : held s x
  · rw [if_pos (Or.inl c1), decide_eq_true c1]; simp (disch := omega) only [push_cast] <;> rfl
  · rw [decide_eq_false c1]
    by_cases c2 : isRef s.things x
    · rw [if_pos (Or.inr c2)]
      have := zqp V c2 0 [] (Nat.zero_le _) ⟨Nat.le_refl _, by
        obtain ⟨k, hk1, hk2⟩ := c2
        obtain ⟨j, hj, rfl⟩ := z8 K0 hk1
        exact ⟨j, Nat.zero_le _, hj, hk2⟩⟩
      simp (disch := omega) only [push_cast]
      rw [show Lqz (some 7) [.s x, .i 0, .i s.width, .i s.now, .i s.given, .i s.births, .l (encK s.things), .l (encP s.pins), .l (encL s.leases), .i 0, .i 0, .i 0, .i 0, .i 0, .s E0, .i 0, .s E0, .s E0, .l [], .l [], .l [], .l []] = _ from this]
    · rw [if_neg (by rintro (h | h); exact c1 h; exact c2 h)]
      have := zrj V c2
      simp (disch := omega) only [push_cast]
      rw [show Lqz (some 7) [.s x, .i 0, .i s.width, .i s.now, .i s.given, .i s.births, .l (encK s.things), .l (encP s.pins), .l (encL s.leases), .i 0, .i 0, .i 0, .i 0, .i 0, .s E0, .i 0, .s E0, .s E0, .l [], .l [], .l [], .l []] = _ from this]
end
noncomputable def addU (l : List Bs) (x : Bs) : List Bs := if x ∈ l then l else l ++ [x]
theorem zo1 (l : List Bs) (x : Bs) : (addU l x).length ≤ l.length + 1 := by unfold addU; split <;> simp
theorem zcr (l : List Bs) : ∀ a, (l.foldl addU a).length ≤ a.length + l.length := by
  induction l with
  | nil => intro a; simp
  | cons x l ih => intro a; rw [List.foldl_cons, List.length_cons]; have := ih (addU a x); have := zo1 a x; omega
theorem zrr {l : List Bs} {x y : Bs} : y ∈ addU l x ↔ y ∈ l ∨ y = x := by
  unfold addU
  split
  · rename_i h; exact ⟨.inl, fun h2 => h2.elim id fun e => by rw [e]; exact h⟩
  · simp
theorem zbp (l : List Bs) : ∀ a y, y ∈ l.foldl addU a ↔ y ∈ a ∨ y ∈ l := by
  induction l with
  | nil => intro a y; simp
  | cons x l ih => intro a y; rw [List.foldl_cons, ih, zrr, List.mem_cons, or_assoc]
theorem zff (l : List Bs) (a : List Bs) (i : Nat) (h : i < l.length) : ((l.take (i + 1)).foldl addU a) = addU ((l.take i).foldl addU a) (nth .empty l i) := by
  rw [zz .empty h, List.foldl_append]; rfl
noncomputable def zbc (s : State) : List Bs := (s.leases.map (·.sum)).foldl addU ((s.pins.map (·.sum)).foldl addU [])
theorem zn0 (P : List Pin) (i : Nat) (h : i < P.length) : nth .empty (P.map (·.sum)) i = (nth P0 P i).sum := by
  rw [zj _ _ _ (by rw [List.length_map]; exact h), zj _ _ _ h, List.getElem_map]
theorem zps (P : List Lease) (i : Nat) (h : i < P.length) : nth .empty (P.map (·.sum)) i = (nth L0 P i).sum := by
  rw [zj _ _ _ (by rw [List.length_map]; exact h), zj _ _ _ h, List.getElem_map]
theorem zjr (s : State) (h1 : s.pins.length ≤ 1000000) (h2 : s.leases.length ≤ 1000000) : Lqt none (encSt s) = some [.l (encS (zbc s))] := by
  unfold encSt
  have l2 : ∀ a : List Bs, a.length ≤ 1000000 → Lqt (some 8) [.i 0, .i s.width, .i s.now, .i s.given, .i s.births, .l (encK s.things), .l (encP s.pins), .l (encL s.leases), .l (encS a)] = some [.l (encS ((s.leases.map (·.sum)).foldl addU a))] := by
    intro a0 ha0
    exact zu (f := fun (i : Nat) (a : List Bs) => Lqt (some 8) [.i (i : Int), .i s.width, .i s.now, .i s.given, .i s.births, .l (encK s.things), .l (encP s.pins), .l (encL s.leases), .l (encS a)]) (n := s.leases.length)
      (I := fun i a => a = ((s.leases.map (·.sum)).take i).foldl addU a0) (fun i a hi hI => ⟨addU a (nth L0 s.leases i).sum, by
        show Lqt _ _ = Lqt _ _
        have hl : a.length ≤ 1000000 + i := by rw [hI]; have := zcr ((s.leases.map (·.sum)).take i) a0; rw [List.length_take] at this; omega
        rw [eqt_8, mostE]
        unfold addU
        by_cases hm : (nth L0 s.leases i).sum ∈ a
        · rw [if_pos hm]; simp (disch := omega) only [push_cast, zo a _ (show a.length ≤ 4611686018427387904 by omega), decide_eq_true hm] <;> rfl
        · rw [if_neg hm, ← zp]; simp (disch := omega) only [push_cast, zo a _ (show a.length ≤ 4611686018427387904 by omega), decide_eq_false hm] <;> rfl, by
        show addU a _ = _
        rw [zff _ _ _ (by rw [List.length_map]; exact hi), hI, zps _ _ hi]⟩) (fun a hI => by
        show Lqt _ _ = _
        rw [eqt_8]
        simp (disch := omega) only [push_cast]
        rw [hI, List.take_of_length_le (by rw [List.length_map]; exact Nat.le_refl _)]) 0 a0 (Nat.zero_le _) rfl
  rw [eqt_i]
  have l1 := zu (f := fun (i : Nat) (a : List Bs) => Lqt (some 3) [.i (i : Int), .i s.width, .i s.now, .i s.given, .i s.births, .l (encK s.things), .l (encP s.pins), .l (encL s.leases), .l (encS a)]) (n := s.pins.length) (T := some [.l (encS (zbc s))])
      (I := fun i a => a = ((s.pins.map (·.sum)).take i).foldl addU []) (fun i a hi hI => ⟨addU a (nth P0 s.pins i).sum, by
        show Lqt _ _ = Lqt _ _
        have hl : a.length ≤ i := by rw [hI]; have := zcr ((s.pins.map (·.sum)).take i) []; rw [List.length_take] at this; simp at this; omega
        rw [eqt_3, mostE]
        unfold addU
        by_cases hm : (nth P0 s.pins i).sum ∈ a
        · rw [if_pos hm]; simp (disch := omega) only [push_cast, zo a _ (show a.length ≤ 4611686018427387904 by omega), decide_eq_true hm] <;> rfl
        · rw [if_neg hm, ← zp]; simp (disch := omega) only [push_cast, zo a _ (show a.length ≤ 4611686018427387904 by omega), decide_eq_false hm] <;> rfl, by
        show addU a _ = _
        rw [zff _ _ _ (by rw [List.length_map]; exact hi), hI, zn0 _ _ hi]⟩) (fun a hI => by
        show Lqt _ _ = _
        have hl : a.length ≤ s.pins.length := by rw [hI]; have := zcr ((s.pins.map (·.sum)).take s.pins.length) []; rw [List.length_take] at this; simp at this; omega
        rw [eqt_3]
        simp (disch := omega) only [push_cast]
        refine (l2 a (by omega)).trans ?_
        unfold zbc
        rw [hI, List.take_of_length_le (by rw [List.length_map]; exact Nat.le_refl _)]) 0 [] (Nat.zero_le _) rfl
  exact l1
noncomputable def bestI (T : List Kept) (a : Int) : Nat → Int
  | 0 => -1
  | i + 1 => if (nth K0 T i).born < a ∧ (bestI T a i < 0 ∨ (nth K0 T (bestI T a i).toNat).born < (nth K0 T i).born) then (i : Int) else bestI T a i
theorem zc7 (T : List Kept) (a : Int) : ∀ i, -1 ≤ bestI T a i ∧ bestI T a i < i
  | 0 => by simp [bestI]
  | i + 1 => by
    have := zc7 T a i
    simp only [bestI]
    split <;> omega
theorem zhr (T : List Kept) (a : Int) : ∀ i, (bestI T a i < 0 → ∀ j, j < i → ¬ (nth K0 T j).born < a) ∧ (0 ≤ bestI T a i → (nth K0 T (bestI T a i).toNat).born < a ∧ ∀ j, j < i → (nth K0 T j).born < a → (nth K0 T j).born ≤ (nth K0 T (bestI T a i).toNat).born)
  | 0 => by
    refine ⟨fun _ j hj => by omega, fun h => ?_⟩
    simp [bestI] at h
  | i + 1 => by
    obtain ⟨h1, h2⟩ := zhr T a i
    have h3 := zc7 T a i
    simp only [bestI]
    split
    · rename_i hc
      refine ⟨fun h => by omega, fun _ => ?_⟩
      rw [zfe]
      refine ⟨hc.1, fun j hj hb => ?_⟩
      rcases Nat.lt_or_ge j i with hji | hji
      · rcases hc.2 with h4 | h4
        · exact absurd hb (h1 h4 j hji)
        · rcases (by omega : bestI T a i < 0 ∨ 0 ≤ bestI T a i) with h5 | h5
          · exact absurd hb (h1 h5 j hji)
          · have := (h2 h5).2 j hji hb; omega
      · obtain rfl : j = i := by omega
        exact Int.le_refl _
    · rename_i hc
      refine ⟨fun h j hj hb => ?_, fun h => ⟨(h2 h).1, fun j hj hb => ?_⟩⟩
      · rcases Nat.lt_or_ge j i with hji | hji
        · exact h1 h j hji hb
        · obtain rfl : j = i := by omega
          exact hc ⟨hb, .inl h⟩
      · rcases Nat.lt_or_ge j i with hji | hji
        · exact (h2 h).2 j hji hb
        · obtain rfl : j = i := by omega
          rcases (by omega : (nth K0 T (bestI T a j).toNat).born < (nth K0 T j).born ∨ (nth K0 T j).born ≤ (nth K0 T (bestI T a j).toNat).born) with h6 | h6
          · exact absurd ⟨hb, .inr h6⟩ hc
          · omega
noncomputable def bestT (T : List Kept) (a : Int) : Int := bestI T a T.length
theorem zp2 (s : State) (a : Int) (hn : s.things.length ≤ 1000000) : Lq8 none (encSt s ++ [.i a]) = some [.i (bestT s.things a)] := by
  show Lq8 none [.i s.width, .i s.now, .i s.given, .i s.births, .l (encK s.things), .l (encP s.pins), .l (encL s.leases), .i a] = _
  rw [eq8_i]
  have := zu (f := fun (i : Nat) (b : Int) => Lq8 (some 3) [.i a, .i b, .i (i : Int), .i s.width, .i s.now, .i s.given, .i s.births, .l (encK s.things), .l (encP s.pins), .l (encL s.leases)]) (n := s.things.length) (T := some [.i (bestT s.things a)])
    (I := fun i b => b = bestI s.things a i) (fun i b hi hI => ⟨bestI s.things a (i + 1), by
      show Lq8 _ _ = Lq8 _ _
      have hb := zc7 s.things a i
      rw [eq8_3]
      simp only [bestI]
      rw [← hI] at hb ⊢
      by_cases c1 : (nth K0 s.things i).born < a
      rotate_left; · rw [if_neg fun h => c1 h.1]; simp (disch := omega) only [push_cast]
      by_cases c2 : b < 0
      · rw [if_pos ⟨c1, .inl c2⟩]; simp (disch := omega) only [push_cast]
      by_cases c3 : (nth K0 s.things b.toNat).born < (nth K0 s.things i).born
      · rw [if_pos ⟨c1, .inr c3⟩]; simp (disch := omega) only [push_cast]
      · rw [if_neg fun h => h.2.elim c2 c3]; simp (disch := omega) only [push_cast], rfl⟩) (fun b hI => by
      show Lq8 _ _ = _
      rw [eq8_3]
      simp (disch := omega) only [push_cast]
      rw [hI]; rfl) 0 (-1) (Nat.zero_le _) rfl
  exact this
noncomputable def unitM (s : State) (r : Round) : Round × Bs :=
  if r.phase = 0 then (⟨1, zbc s, r.marked, s.births, s.births + 1, r.rounds⟩, E0)
  else match r.queue with
  | x :: q => if hasT s.things x ∧ x ∉ r.marked then (⟨r.phase, q ++ (nth K0 s.things (lb (qK x) s.things)).thing.refs.filter fun y => !decide (y ∈ r.marked ++ [x]), r.marked ++ [x], r.top, r.at_, r.rounds⟩, E0) else (⟨r.phase, q, r.marked, r.top, r.at_, r.rounds⟩, E0)
  | [] => if bestT s.things r.at_ < 0 then (⟨0, [], [], 0, 0, r.rounds + 1⟩, E0)
    else (⟨2, [], r.marked, r.top, (nth K0 s.things (bestT s.things r.at_).toNat).born, r.rounds⟩, if (nth K0 s.things (bestT s.things r.at_).toNat).sum ∈ r.marked ∨ held s (nth K0 s.things (bestT s.things r.at_).toNat).sum ∨ isRef s.things (nth K0 s.things (bestT s.things r.at_).toNat).sum then E0 else (nth K0 s.things (bestT s.things r.at_).toNat).sum)
noncomputable def z6 (s : State) (x : Bs) : State := if x = E0 then s else { s with things := delK x s.things }
def oneD (x : Bs) : List Bs := if x = E0 then [] else [x]
def encUn (s : State) (r : Round) (d : Bs) : Lv := [.i 0, .i s.width, .i s.now, .i s.given, .i s.births, .l (encK s.things), .l (encP s.pins), .l (encL s.leases), .i r.phase, .l (encS r.queue), .l (encS r.marked), .i r.top, .i r.at_, .i r.rounds, .l (encS (oneD d))]
theorem VS.sumNe {s : State} (V : VS s) {k : Kept} (hk : k ∈ s.things) : k.sum ≠ E0 := by
  have := V.wd
  intro h
  have h2 := (V.okT k hk).2.1
  have h3 := zfb (s := formM k.thing) V.wd
  rw [← h2, h] at h3
  have : (E0 : Bs).size = 0 := rfl
  omega
theorem zpa (l m : List Bs) (i : Nat) (hi : i < l.length) : (l.take (i + 1)).filter (fun y => !decide (y ∈ m)) = (l.take i).filter (fun y => !decide (y ∈ m)) ++ (if nth .empty l i ∈ m then [] else [nth .empty l i]) := by
  rw [zz .empty hi, List.filter_append]
  congr 1
  split
  · rename_i h; simp [h]
  · rename_i h; simp [h]
theorem zmu {s : State} (V : VS s) {r : Round} (h : RoundOk s.width s.births r) (hr : r.rounds < 1000000000) : Lqbe none (encSt s ++ encR r) = some (encUn (z6 s (unitM s r).2) (unitM s r).1 (unitM s r).2) := by
  show Lqbe none [.i s.width, .i s.now, .i s.given, .i s.births, .l (encK s.things), .l (encP s.pins), .l (encL s.leases), .i r.phase, .l (encS r.queue), .l (encS r.marked), .i r.top, .i r.at_, .i r.rounds] = _
  have n1 := V.nT; have n2 := V.nP; have n3 := V.nL; have hb := V.births; have hq := h.nQ; have hm := h.nM; have hrd := h.rds
  have hro := zjr s (by omega) (by omega)
  have hnx := zp2 s r.at_ (by omega)
  unfold encSt at hro
  have hnx' : Lq8 none [.i s.width, .i s.now, .i s.given, .i s.births, .l (encK s.things), .l (encP s.pins), .l (encL s.leases), .i r.at_] = _ := hnx
  rw [eqbe_i, mostE]
  have st0 : z6 s E0 = s := if_pos rfl
  by_cases h0 : r.phase = 0
  · have : unitM s r = (⟨1, zbc s, r.marked, s.births, s.births + 1, r.rounds⟩, E0) := by unfold unitM; rw [if_pos h0]
    rw [this, st0]
    simp (disch := omega) only [push_cast, hro]; rfl
  cases hqq : r.queue with
  | cons x q =>
    rw [hqq] at hq
    simp only [List.length_cons] at hq
    have hsub : Eng.sub (encS (x :: q)) 1 (q.length + 1) = encS q := by rw [zdh]; simp
    have hx0 : (rd (encS (x :: q)) 0 0).str = x := rfl
    have hf := zbe (T := s.things) (x := x)
    by_cases c1 : hasT s.things x
    rotate_left
    · have : unitM s r = (⟨r.phase, q, r.marked, r.top, r.at_, r.rounds⟩, E0) := by unfold unitM; rw [if_neg h0, hqq]; simp only; rw [if_neg fun h => c1 h.1]
      rw [this, st0]
      have hneg := hf.2 c1
      simp (disch := omega) only [push_cast, hsub, hx0, zb6 _ _ _ _ s.things _ _ x V.srtT (by omega), List.nil_append]; rfl
    have c1' : ¬ findT s.things x < 0 := fun h => hf.1 h c1
    by_cases c2 : x ∈ r.marked
    · have : unitM s r = (⟨r.phase, q, r.marked, r.top, r.at_, r.rounds⟩, E0) := by unfold unitM; rw [if_neg h0, hqq]; simp only; rw [if_neg fun h => h.2 c2]
      rw [this, st0]
      simp (disch := omega) only [push_cast, hsub, hx0, zb6 _ _ _ _ s.things _ _ x V.srtT (by omega), List.nil_append, zo r.marked x (by omega), decide_eq_true c2]; rfl
    have : unitM s r = (⟨r.phase, q ++ (nth K0 s.things (lb (qK x) s.things)).thing.refs.filter fun y => !decide (y ∈ r.marked ++ [x]), r.marked ++ [x], r.top, r.at_, r.rounds⟩, E0) := by unfold unitM; rw [if_neg h0, hqq]; simp only; rw [if_pos ⟨c1, c2⟩]
    rw [this, st0]
    have hfi : findT s.things x = (lb (qK x) s.things : Int) := if_pos c1
    have hlt := ((zbv V.srtT x).1 c1).1
    have hrl := (V.okT _ (zh (d := K0) hlt)).1.refs
    have hml : (r.marked ++ [x]).length ≤ 4611686018427387904 := by rw [List.length_append]; simp; omega
    have lp := zu (f := fun (i : Nat) (a : List Bs) => Lqbe (some 15) [.l (encS (nth K0 s.things (lb (qK x) s.things)).thing.refs), .i (i : Int), .i s.width, .i s.now, .i s.given, .i s.births, .l (encK s.things), .l (encP s.pins), .l (encL s.leases), .i r.phase, .l (encS (x :: q)), .i r.top, .i r.at_, .i r.rounds, .i 0, .i 0, .i 0, .i 0, .i 0, .i 0, .i 0, .i 0, .i 0, .l (encS a), .l (encS (r.marked ++ [x])), .l [], .l [], .l [], .l [], .l [], .l []])
      (n := (nth K0 s.things (lb (qK x) s.things)).thing.refs.length) (T := some (encUn s ⟨r.phase, q ++ (nth K0 s.things (lb (qK x) s.things)).thing.refs.filter fun y => !decide (y ∈ r.marked ++ [x]), r.marked ++ [x], r.top, r.at_, r.rounds⟩ E0))
      (I := fun i a => a = q ++ ((nth K0 s.things (lb (qK x) s.things)).thing.refs.take i).filter fun y => !decide (y ∈ r.marked ++ [x])) (fun i a hi hI => ⟨a ++ (if nth .empty (nth K0 s.things (lb (qK x) s.things)).thing.refs i ∈ r.marked ++ [x] then [] else [nth .empty (nth K0 s.things (lb (qK x) s.things)).thing.refs i]), by
        show Lqbe _ _ = Lqbe _ _
        have ha : a.length ≤ 24000 := by
          rw [hI, List.length_append]
          have := List.length_filter_le (fun y => !decide (y ∈ r.marked ++ [x])) ((nth K0 s.things (lb (qK x) s.things)).thing.refs.take i)
          rw [List.length_take] at this; omega
        rw [eqbe_15, mostE]
        by_cases hc : nth .empty (nth K0 s.things (lb (qK x) s.things)).thing.refs i ∈ r.marked ++ [x]
        · rw [if_pos hc, List.append_nil]; simp (disch := omega) only [push_cast, zo _ (nth .empty (nth K0 s.things (lb (qK x) s.things)).thing.refs i) hml, decide_eq_true hc]
        · rw [if_neg hc, ← zp a]; simp (disch := omega) only [push_cast, zo _ (nth .empty (nth K0 s.things (lb (qK x) s.things)).thing.refs i) hml, decide_eq_false hc] <;> rfl, by
        show a ++ _ = _
        rw [zpa _ _ _ hi, hI, List.append_assoc]⟩) (fun a hI => by
        show Lqbe _ _ = _
        rw [eqbe_15]
        simp (disch := omega) only [push_cast]
        rw [hI, List.take_length]; rfl) 0 q (Nat.zero_le _) (by simp)
    simp (disch := omega) only [push_cast, hsub, hx0, zb6 _ _ _ _ s.things _ _ x V.srtT (by omega), List.nil_append, zo r.marked x (by omega), decide_eq_false c2, hfi]
    rw [zb7, zp]
    exact lp
  | nil =>
    have hbl := zc7 s.things r.at_ s.things.length
    have hbt : bestI s.things r.at_ s.things.length = bestT s.things r.at_ := rfl
    rw [hbt] at hbl
    by_cases c1 : bestT s.things r.at_ < 0
    · have : unitM s r = (⟨0, [], [], 0, 0, r.rounds + 1⟩, E0) := by unfold unitM; rw [if_neg h0, hqq]; simp only; rw [if_pos c1]
      rw [this, st0]
      simp (disch := omega) only [push_cast, hnx']; rfl
    obtain ⟨n, hn⟩ : ∃ n : Nat, bestT s.things r.at_ = n := ⟨(bestT s.things r.at_).toNat, by omega⟩
    have hnl : n < s.things.length := by omega
    have hmem := zh (d := K0) hnl
    have hne := V.sumNe hmem
    have hT : hasT s.things (nth K0 s.things n).sum := ⟨_, hmem, rfl⟩
    have hu : unitM s r = (⟨2, [], r.marked, r.top, (nth K0 s.things n).born, r.rounds⟩, if (nth K0 s.things n).sum ∈ r.marked ∨ held s (nth K0 s.things n).sum ∨ isRef s.things (nth K0 s.things n).sum then E0 else (nth K0 s.things n).sum) := by
      unfold unitM; rw [if_neg h0, hqq]; simp only; rw [if_neg c1, hn, zfe]
    rw [hu]
    simp only
    by_cases c2 : (nth K0 s.things n).sum ∈ r.marked
    · rw [if_pos (Or.inl c2), st0]
      simp (disch := omega) only [push_cast, hnx', hn, zo r.marked (nth K0 s.things n).sum (by omega), decide_eq_true c2]; rfl
    by_cases c3 : held s (nth K0 s.things n).sum ∨ isRef s.things (nth K0 s.things n).sum
    · rw [if_pos (Or.inr c3), st0]
      have := zla V hT
      rw [if_pos c3] at this
      simp (disch := omega) only [push_cast, hnx', hn, zo r.marked (nth K0 s.things n).sum (by omega), decide_eq_false c2, this]; rfl
    · have hno : ¬ ((nth K0 s.things n).sum ∈ r.marked ∨ held s (nth K0 s.things n).sum ∨ isRef s.things (nth K0 s.things n).sum) := fun h => h.elim c2 c3
      rw [if_neg hno]
      have := zla V hT
      rw [if_neg c3] at this
      simp (disch := omega) only [push_cast, hnx', hn, zo r.marked (nth K0 s.things n).sum (by omega), decide_eq_false c2, this]
      unfold z6 encUn oneD; rw [if_neg hne, if_neg hne]; rfl
end KV
end
section
namespace KV
open Go Go.Eng
open Classical
def eDrop (x : Bs) : Entry := ⟨7, x, E0, 0, ⟨E0, []⟩⟩
theorem zhf {s : State} {r : Round} (V : VS s) (h : (unitM s r).2 ≠ E0) : hasT s.things (unitM s r).2 ∧ ¬ held s (unitM s r).2 ∧ ¬ isRef s.things (unitM s r).2 ∧ (unitM s r).2 ∉ r.marked ∧ r.phase ≠ 0 ∧ r.queue = [] := by
  unfold unitM at h ⊢
  split at h
  · exact absurd rfl h
  · rename_i h0
    rw [if_neg h0]
    split at h
    · split at h <;> exact absurd rfl h
    · rename_i hq
      split at h
      · exact absurd rfl h
      · rename_i hb
        rw [if_neg hb]
        simp only at h ⊢
        have hbl := zc7 s.things r.at_ s.things.length
        have hbt : bestI s.things r.at_ s.things.length = bestT s.things r.at_ := rfl
        rw [hbt] at hbl
        split at h
        · exact absurd rfl h
        · rename_i hc
          rw [if_neg hc]
          have hm := zh (d := K0) (show (bestT s.things r.at_).toNat < s.things.length by omega)
          exact ⟨⟨_, hm, rfl⟩, fun h => hc (.inr (.inl h)), fun h => hc (.inr (.inr h)), fun h => hc (.inl h), h0, hq⟩
theorem zlj {s : State} {x : Bs} (V : VS s) (h1 : hasT s.things x) (h2 : ¬ held s x) (h3 : ¬ isRef s.things x) : x ≠ E0 ∧ zi (eDrop x) s.width = true ∧ (chg s (eDrop x)).code = 0 ∧ (chg s (eDrop x)).st = z6 s x := by
  obtain ⟨k, hk, rfl⟩ := h1
  have hne := V.sumNe hk
  have hsz : (k.sum.size : Int) = s.width := by rw [(V.okT k hk).2.1]; exact zfb V.wd
  have hw : zk s.width = true := zw.2 V.wd
  refine ⟨hne, ?_, ?_, ?_⟩
  · have a1 : sumB 7 k.sum s.width = true := by
      unfold sumB; rw [if_pos (show uS 7 = true from rfl)]; exact decide_eq_true hsz
    have a2 : namB 7 E0 = true := by
      unfold namB; rw [if_neg (by decide)]; exact decide_eq_true rfl
    have a3 : thgB 7 ⟨E0, []⟩ s.width = true := by
      unfold thgB; rw [if_neg (by decide)]; rw [decide_eq_true (p := (E0 : Bs) = E0) rfl]; rfl
    show zi ⟨7, k.sum, E0, 0, ⟨E0, []⟩⟩ s.width = true
    unfold zi
    simp only
    rw [hw, a1, a2, a3]; rfl
  all_goals
    unfold chg
    rw [if_neg (show ¬ (eDrop k.sum).kind = 1 from (by show ¬ (7 : Int) = 1; omega)), if_neg (show ¬ (eDrop k.sum).kind = 2 from (by show ¬ (7 : Int) = 2; omega)), if_neg (show ¬ (eDrop k.sum).kind = 3 from (by show ¬ (7 : Int) = 3; omega)), if_neg (show ¬ (eDrop k.sum).kind = 4 from (by show ¬ (7 : Int) = 4; omega)), if_neg (show ¬ (eDrop k.sum).kind = 5 from (by show ¬ (7 : Int) = 5; omega)), if_neg (show ¬ (eDrop k.sum).kind = 6 from (by show ¬ (7 : Int) = 6; omega)), if_pos (show hasT s.things (eDrop k.sum).sum from ⟨k, hk, rfl⟩), if_neg (show ¬ (held s (eDrop k.sum).sum ∨ isRef s.things (eDrop k.sum).sum) from fun h => h.elim h2 h3)]
  · rfl
  · unfold z6; rw [if_neg hne]; rfl
theorem zj4 (s : State) (x : Bs) : (z6 s x).width = s.width ∧ (z6 s x).births = s.births ∧ (z6 s x).now = s.now ∧ (z6 s x).given = s.given ∧ (z6 s x).pins = s.pins ∧ (z6 s x).leases = s.leases := by
  unfold z6; split <;> exact ⟨rfl, rfl, rfl, rfl, rfl, rfl⟩
theorem zfi {s : State} (V : VS s) {x : Bs} (h : x ∈ zbc s) : hasT s.things x := by
  unfold zbc at h
  rw [zbp, zbp] at h
  rcases h with (h | h) | h
  · cases h
  · obtain ⟨p, hp, rfl⟩ := List.mem_map.1 h; exact (V.okP p hp).2
  · obtain ⟨p, hp, rfl⟩ := List.mem_map.1 h; exact (V.okL p hp).2.2.1
theorem zhu (s : State) : (zbc s).length ≤ s.pins.length + s.leases.length := by
  unfold zbc
  have h1 := zcr (s.leases.map (·.sum)) ((s.pins.map (·.sum)).foldl addU [])
  have h2 := zcr (s.pins.map (·.sum)) []
  rw [List.length_map] at h1 h2
  simp at h2
  omega
theorem VS.szT {s : State} (V : VS s) {x : Bs} (h : hasT s.things x) : (x.size : Int) = s.width := by
  obtain ⟨k, hk, rfl⟩ := h; rw [(V.okT k hk).2.1]; exact zfb V.wd
theorem zm1 {s : State} {r : Round} (V : VS s) (h : RoundOk s.width s.births r) : (unitM s r).1.queue.length ≤ 23230 ∧ (unitM s r).1.marked.length ≤ 601 := by
  have hq := h.nQ; have hm := h.nM; have n2 := V.nP; have n3 := V.nL; have hr := zhu s
  unfold unitM
  split
  · simp only; omega
  · split
    · rename_i x q hqq
      rw [hqq] at hq
      simp only [List.length_cons] at hq
      split
      · rename_i hc
        have hlt := ((zbv V.srtT x).1 hc.1).1
        have hrl := (V.okT _ (zh (d := K0) hlt)).1.refs
        have := List.length_filter_le (fun y => !decide (y ∈ r.marked ++ [x])) (nth K0 s.things (lb (qK x) s.things)).thing.refs
        simp only [List.length_append, List.length_cons, List.length_nil]
        omega
      · simp only; omega
    · split
      · simp
      · simp only [List.length_nil]; omega
theorem zq1 {s : State} {r : Round} (V : VS s) (h : RoundOk s.width s.births r) (hr : r.rounds < 1000000000) (hq : (unitM s r).1.queue.length ≤ 23200) (hm : (unitM s r).1.marked.length ≤ 600) : RoundOk s.width s.births (unitM s r).1 := by
  have hb := V.births; have hrd := h.rds
  unfold unitM at hq hm ⊢
  split at hq
  · rename_i h0
    rw [if_pos h0] at hm ⊢
    simp only at hq hm ⊢
    refine ⟨⟨by show (0 : Int) ≤ 1; omega, by show (1 : Int) ≤ 2; omega⟩, h.rds, hq, hm, h.szM, h.ndM, fun x hx => V.szT (zfi V hx), fun h1 => absurd h1 (by show ¬ (1 : Int) = 0; omega), fun _ => ⟨hb.1, Int.le_refl _, by show (1 : Int) ≤ s.births + 1; omega, Int.le_refl _, fun _ => rfl⟩⟩
  · rename_i h0
    rw [if_neg h0] at hm ⊢
    have hgo := h.go h0
    split at hq
    · rename_i x q hqq
      simp only [hqq] at hm ⊢
      have hszx : (x.size : Int) = s.width := h.szQ x (by rw [hqq]; simp)
      have hszq : ∀ y ∈ q, (y.size : Int) = s.width := fun y hy => h.szQ y (by rw [hqq]; simp [hy])
      split at hq
      · rename_i hc
        rw [if_pos hc] at hm ⊢
        simp only at hq hm ⊢
        have hlt := ((zbv V.srtT x).1 hc.1).1
        have hrs := (V.okT _ (zh (d := K0) hlt)).1.size
        refine ⟨h.ph, h.rds, hq, hm, fun y hy => ?_, ?_, fun y hy => ?_, fun h1 => absurd h1 h0, fun _ => hgo⟩
        · rcases List.mem_append.1 hy with h1 | h1
          · exact h.szM y h1
          · rw [List.mem_singleton] at h1; rw [h1]; exact hszx
        · rw [List.nodup_append]
          refine ⟨h.ndM, by simp, fun a ha b hb => ?_⟩
          rw [List.mem_singleton] at hb
          rintro rfl
          rw [hb] at ha; exact hc.2 ha
        · rcases List.mem_append.1 hy with h1 | h1
          · exact hszq y h1
          · exact hrs y (List.mem_filter.1 h1).1
      · rename_i hc
        rw [if_neg hc] at hm ⊢
        simp only at hq hm ⊢
        exact ⟨h.ph, h.rds, hq, hm, h.szM, h.ndM, hszq, fun h1 => absurd h1 h0, fun _ => hgo⟩
    · rename_i hqq
      simp only [hqq] at hm ⊢
      split at hq
      · rename_i hc
        rw [if_pos hc]
        exact ⟨⟨Int.le_refl _, by show (0 : Int) ≤ 2; omega⟩, ⟨by show 0 ≤ r.rounds + 1; omega, by show r.rounds + 1 ≤ 1000000000; omega⟩, Nat.zero_le _, Nat.zero_le _, (fun x hx => nomatch hx), List.nodup_nil, (fun x hx => nomatch hx), fun _ => ⟨rfl, rfl, rfl, rfl⟩, fun h => absurd rfl h⟩
      · rename_i hc
        rw [if_neg hc] at hm ⊢
        simp only at hq hm ⊢
        have hbl := zc7 s.things r.at_ s.things.length
        have hbi := (zhr s.things r.at_ s.things.length).2
        have hbt : bestI s.things r.at_ s.things.length = bestT s.things r.at_ := rfl
        rw [hbt] at hbl hbi
        have hmm := zh (d := K0) (show (bestT s.things r.at_).toNat < s.things.length by omega)
        have hk := (V.okT _ hmm).2.2
        have hlt := (hbi (by omega)).1
        refine ⟨⟨by show (0 : Int) ≤ 2; omega, Int.le_refl _⟩, h.rds, hq, hm, h.szM, h.ndM, (fun x hx => nomatch hx), fun h1 => absurd h1 (by show ¬ (2 : Int) = 0; omega), fun _ => ⟨hgo.1, hgo.2.1, hk.1, ?_, fun h1 => absurd h1 (by show ¬ (2 : Int) = 1; omega)⟩⟩
        show (nth K0 s.things (bestT s.things r.at_).toNat).born ≤ r.top + 1
        omega
noncomputable def stepV (v : Vault) : Vault := { v with st := z6 v.st (unitM v.st v.rd).2, rd := (unitM v.st v.rd).1, loose := if (unitM v.st v.rd).2 = E0 then v.loose else v.loose ++ [formE (eDrop (unitM v.st v.rd).2)] }
structure VQ (v : Vault) : Prop where
  wd : zk v.width = true
  lim : 0 ≤ v.limit ∧ v.limit ≤ 1000000
  log : LogOk v.safe v.loose
  run : runL v.width (empty v.width) (v.safe ++ v.loose) 0 = .inl v.st
  nq : v.rd.queue.length ≤ 23230
  nm : v.rd.marked.length ≤ 601
  rd : v.rd.queue.length ≤ 23200 → v.rd.marked.length ≤ 600 → RoundOk v.st.width v.st.births v.rd
theorem VQ.vs {v : Vault} (h : VQ v) : VS v.st ∧ v.st.width = v.width := zdw _ _ _ _ (zed (zw.1 h.wd)) rfl h.run
theorem VQ.vv {v : Vault} (h : VQ v) (hr : RoundOk v.st.width v.st.births v.rd) : VV v := ⟨h.wd, h.lim, h.log, h.run, hr⟩
theorem VQ.small {v : Vault} (h : VQ v) : SmallV v := by
  have hn := h.log.n; have hq := h.nq; have hm := h.nm; have hT := h.vs.1.nT
  refine ⟨⟨by omega, fun x hx => by have := h.log.sa x hx; omega⟩, ⟨by omega, fun x hx => by have := h.log.sb x hx; omega⟩, by omega, h.vs.1.small, by omega, by omega, by omega⟩
theorem zg2 {v : Vault} (V : VV v) (hr : v.rd.rounds < 1000000000) (hl : (unitM v.st v.rd).2 = E0 ∨ v.safe.length + v.loose.length < 4000) : VQ (stepV v) := by
  have Vs := V.vs
  have hlen := zm1 Vs.1 V.rd
  have hk := zj4 v.st (unitM v.st v.rd).2
  have hlog : LogOk v.safe (stepV v).loose ∧ runL v.width (empty v.width) (v.safe ++ (stepV v).loose) 0 = .inl (stepV v).st := by
    unfold stepV
    simp only
    by_cases h : (unitM v.st v.rd).2 = E0
    · rw [if_pos h]; unfold z6; rw [if_pos h]; exact ⟨V.log, V.run⟩
    · rw [if_neg h]
      obtain ⟨a, b, c, _⟩ := zhf Vs.1 h
      obtain ⟨d, e, f, g⟩ := zlj Vs.1 a b c
      rw [Vs.2] at e
      have hz := zko e
      have hl := hl.resolve_left h
      refine ⟨⟨V.log.sa, fun x hx => ?_, ?_⟩, ?_⟩
      · rcases List.mem_append.1 hx with h1 | h1
        · exact V.log.sb x h1
        · rw [List.mem_singleton] at h1; rw [h1]; omega
      · rw [List.length_append]; simp; omega
      · rw [← List.append_assoc, ze2, V.run]
        simp only [runL, zgp e]
        rw [if_pos f, g]
  exact ⟨V.wd, V.lim, hlog.1, hlog.2, hlen.1, hlen.2, fun h1 h2 => by
    show RoundOk (z6 v.st (unitM v.st v.rd).2).width (z6 v.st (unitM v.st v.rd).2).births (unitM v.st v.rd).1
    rw [hk.1, hk.2.1]
    exact zq1 Vs.1 V.rd hr h1 h2⟩
abbrev Swp := Option (Vault × List Bs × Nat)
noncomputable def clrS : Nat → Vault → List Bs → Nat → Swp
  | 0, v, d, u => some (v, d, u)
  | n + 1, v, d, u => if 1000000000 ≤ v.rd.rounds ∨ 23200 < (unitM v.st v.rd).1.queue.length ∨ 600 < (unitM v.st v.rd).1.marked.length then none
    else if (unitM v.st v.rd).2 ≠ E0 ∧ 4000 ≤ v.safe.length + v.loose.length then some (v, d, u) else clrS n (stepV v) (d ++ oneD (unitM v.st v.rd).2) (u + 1)
def zhm : Swp → Lv
  | some (v, d, u) => .i 0 :: (vI v ++ (.i (u : Int) :: (vL v ++ [.l (encS d)])))
  | none => .i 1 :: (vI V0 ++ (.i 0 :: (vL V0 ++ [.l []])))
theorem zp9 (a1 a5 a6 a7 a8 a12 a15 a16 a17 : Int) (a3 a4 a9 a10 a11 a13 a14 : Rw) (w2 : Int) : ∀ (n : Nat) (v : Vault) (d : List Bs) (u : Nat), VV v → u + n ≤ 10000 → d.length ≤ u → 
    Lqbw (some 4) [.i ((u + n : Nat) : Int), .i v.width, .i w2, .l a3, .l a4, .i a5, .i a6, .i a7, .i a8, .l a9, .l a10, .l a11, .i a12, .l a13, .l a14, .i a15, .i a16, .i a17, .i 0, .i 0, .i 0, .i 0, .i 0, .i 0, .i 0, .i 0, .i 0, .i 0, .i 0, .i 0, .i 0, .i v.width, .i v.limit, .i v.st.width, .i v.st.now, .i v.st.given, .i v.st.births, .l (encK v.st.things), .l (encP v.st.pins), .l (encL v.st.leases), .i v.rd.phase, .l (encS v.rd.queue), .l (encS v.rd.marked), .i v.rd.top, .i v.rd.at_, .i v.rd.rounds, .i (u : Int), .l [], .l [], .l [], .l [], .l [], .l [], .l [], .l [], .l (encS v.safe), .l (encS v.loose), .l (encS d)] = some (zhm (clrS n v d u)) := by
  intro n
  induction n with
  | zero =>
    intro v d u V hu hd
    have hcp := zd8 V
    unfold encV at hcp
    rw [eqbw_4]
    simp (disch := omega) only [push_cast, hcp]
    rfl
  | succ n ih =>
    intro v d u V hu hd
    have Vs := V.vs
    have hrd := V.rd.rds
    have hlog := V.log.n
    rw [eqbw_4, mostE]
    simp only [clrS]
    by_cases h9 : 1000000000 ≤ v.rd.rounds
    · rw [if_pos (Or.inl h9)]; simp (disch := omega) only [push_cast]; rfl
    have hun := zmu Vs.1 V.rd (by omega)
    have hun' : Lqbe none [.i v.st.width, .i v.st.now, .i v.st.given, .i v.st.births, .l (encK v.st.things), .l (encP v.st.pins), .l (encL v.st.leases), .i v.rd.phase, .l (encS v.rd.queue), .l (encS v.rd.marked), .i v.rd.top, .i v.rd.at_, .i v.rd.rounds] = _ := hun
    unfold encUn at hun'
    by_cases hq : 23200 < (unitM v.st v.rd).1.queue.length
    · rw [if_pos (Or.inr (Or.inl hq))]; simp (disch := omega) only [push_cast, hun']; rfl
    by_cases hm : 600 < (unitM v.st v.rd).1.marked.length
    · rw [if_pos (Or.inr (Or.inr hm))]; simp (disch := omega) only [push_cast, hun']; rfl
    rw [if_neg (fun h => h.elim h9 fun h => h.elim hq hm)]
    have hk := zj4 v.st (unitM v.st v.rd).2
    by_cases hd0 : (unitM v.st v.rd).2 = E0
    · rw [if_neg fun h => h.1 hd0]
      have hs := zg2 V (by omega) (.inl hd0)
      have := ih (stepV v) (d ++ oneD (unitM v.st v.rd).2) (u + 1) (hs.vv (hs.rd (by show (unitM v.st v.rd).1.queue.length ≤ 23200; omega) (by show (unitM v.st v.rd).1.marked.length ≤ 600; omega))) (by omega) (by rw [List.length_append]; unfold oneD; split <;> simp <;> omega)
      rw [show u + 1 + n = u + (n + 1) by omega] at this
      have e1 : oneD (unitM v.st v.rd).2 = [] := if_pos hd0
      have e2 : stepV v = { v with rd := (unitM v.st v.rd).1 } := by unfold stepV z6; rw [if_pos hd0, if_pos hd0]
      rw [e1, List.append_nil, e2] at this
      rw [e1, List.append_nil, e2]
      have e3 : z6 v.st (unitM v.st v.rd).2 = v.st := if_pos hd0
      rw [e3, e1] at hun'
      simp (disch := omega) only [push_cast, hun', show encS [] = [] from rfl]
      exact this
    obtain ⟨a, b, c, _⟩ := zhf Vs.1 hd0
    obtain ⟨e1, e2, e3, e4⟩ := zlj Vs.1 a b c
    have e2' := e2
    rw [Vs.2] at e2'
    have hfe := zgh (eDrop (unitM v.st v.rd).2) v.width (by show (0 : Nat) ≤ 4611686018427387904; omega)
    rw [if_pos e2'] at hfe
    have hfe' : Lqbd none [.i 7, .s (unitM v.st v.rd).2, .s E0, .i 0, .s E0, .l [], .i v.width] = _ := hfe
    have e5 : oneD (unitM v.st v.rd).2 = [(unitM v.st v.rd).2] := if_neg hd0
    rw [e5] at hun'
    have hx0 : (rd (encS [(unitM v.st v.rd).2]) 0 0).str = (unitM v.st v.rd).2 := rfl
    have hcp := zd8 V
    unfold encV at hcp
    by_cases hf : 4000 ≤ v.safe.length + v.loose.length
    · rw [if_pos ⟨hd0, hf⟩]
      simp (disch := omega) only [push_cast, hun', hcp]
      rfl
    rw [if_neg fun h => hf h.2]
    have hs := zg2 V (by omega) (.inr (by omega))
    have := ih (stepV v) (d ++ oneD (unitM v.st v.rd).2) (u + 1) (hs.vv (hs.rd (by show (unitM v.st v.rd).1.queue.length ≤ 23200; omega) (by show (unitM v.st v.rd).1.marked.length ≤ 600; omega))) (by omega) (by rw [List.length_append]; unfold oneD; split <;> simp <;> omega)
    rw [show u + 1 + n = u + (n + 1) by omega] at this
    have e6 : (stepV v).loose = v.loose ++ [formE (eDrop (unitM v.st v.rd).2)] := if_neg hd0
    rw [e5, e6] at this
    rw [e5]
    simp (disch := omega) only [push_cast, hun', hx0, hfe']
    rw [zb7, zp, zb7, zp]
    exact this
theorem zmn {v : Vault} (h : SmallV v) (n : Int) : Lqbw none (encV v ++ [.i n]) = some (zhm (if VV v ∧ 0 ≤ n ∧ n ≤ 10000 then clrS n.toNat v [] 0 else none)) := by
  show Lqbw none [.i v.width, .i v.limit, .l (encS v.safe), .l (encS v.loose), .i v.st.width, .i v.st.now, .i v.st.given, .i v.st.births, .l (encK v.st.things), .l (encP v.st.pins), .l (encL v.st.leases), .i v.rd.phase, .l (encS v.rd.queue), .l (encS v.rd.marked), .i v.rd.top, .i v.rd.at_, .i v.rd.rounds, .i n] = _
  have hvv := zeq h
  unfold encV at hvv
  rw [eqbw_i, hvv]
  by_cases V : VV v
  rotate_left; · rw [if_neg fun h => V h.1, decide_eq_false V]; simp (disch := omega) only [push_cast]; rfl
  rw [decide_eq_true V]
  by_cases h0 : 0 ≤ n ∧ n ≤ 10000
  rotate_left; · rw [if_neg fun h => h0 h.2]; simp (disch := omega) only [push_cast, zl]; rfl
  rw [if_pos ⟨V, h0.1, h0.2⟩]
  obtain ⟨m, rfl⟩ : ∃ m : Nat, n = m := ⟨n.toNat, by omega⟩
  have hcp := zd8 V
  unfold encV at hcp
  have := zp9 v.limit v.st.width v.st.now v.st.given v.st.births v.rd.phase v.rd.top v.rd.at_ v.rd.rounds (encS v.safe) (encS v.loose) (encK v.st.things) (encP v.st.pins) (encL v.st.leases) (encS v.rd.queue) (encS v.rd.marked) v.limit m v [] 0 V (by omega) (Nat.le_refl _)
  rw [Nat.zero_add] at this
  simp only [vI, vL, List.cons_append, List.nil_append] at hcp
  simp (disch := omega) only [push_cast, zl, decide_eq_true h0, hcp]
  exact this
end KV
end
section
namespace KV
open Go Go.Eng
open Classical
structure RB (b : Rw) : Prop where
  n : b.length ≤ 2000
  by_ : ∀ i, 0 ≤ (rd b i 0).int ∧ (rd b i 0).int ≤ 255
theorem zcp {a n : Int} (ha : 0 ≤ a) (hn : 1 ≤ n) : 0 ≤ a.tmod n ∧ a.tmod n < n := by
  rw [Int.tmod_eq_emod_of_nonneg ha]; exact ⟨Int.emod_nonneg _ (by omega), Int.emod_lt_of_pos _ (by omega)⟩
theorem zmz {a b : Int} (ha : 0 ≤ a) (hb : 0 ≤ b) (ha2 : a < 4611686018427387904) (hb2 : b < 4611686018427387904) :
    0 ≤ IntKind.i64.wrap ((BitVec.ofInt IntKind.i64.bits a ^^^ BitVec.ofInt IntKind.i64.bits b).toNat : Int) := by
  show 0 ≤ IntKind.i64.wrap ((BitVec.ofInt 64 a ^^^ BitVec.ofInt 64 b).toNat : Int)
  rw [BitVec.toNat_xor, BitVec.toNat_ofInt, BitVec.toNat_ofInt]
  have e1 : (a % ((2 ^ 64 : Nat) : Int)).toNat = a.toNat := by
    rw [Int.emod_eq_of_lt ha (by have : (2 ^ 64 : Nat) = 18446744073709551616 := rfl; omega)]
  have e2 : (b % ((2 ^ 64 : Nat) : Int)).toNat = b.toNat := by
    rw [Int.emod_eq_of_lt hb (by have : (2 ^ 64 : Nat) = 18446744073709551616 := rfl; omega)]
  rw [e1, e2]
  have h : a.toNat ^^^ b.toNat < 2 ^ 62 := Nat.xor_lt_two_pow (by have : (2 ^ 62 : Nat) = 4611686018427387904 := rfl; omega) (by have : (2 ^ 62 : Nat) = 4611686018427387904 := rfl; omega)
  have : (2 ^ 62 : Nat) = 4611686018427387904 := rfl
  rw [w64 (by omega)]; omega
theorem zm {b : Rw} (hb : RB b) (n : Int) (hn : n ≤ 1000000000000) (p : Int) (hp : 0 ≤ p ∧ p ≤ 1000000000) : ∃ x : Int, Lqc none [.i n, .l b, .i p] = some [.i x, .l b, .i (p + 1)] ∧ 0 ≤ x ∧ (x < n ∨ x = 0) := by
  obtain ⟨p, rfl⟩ : ∃ q : Nat, p = (q : Int) := ⟨p.toNat, by omega⟩
  rw [eqc_i]
  have e1 : IntKind.i64.wrap ((p : Int) + 1) = (p : Int) + 1 := w64 (by omega)
  have e2 : IntKind.i64.wrap ((p : Int) + 1 - 1) = (p : Int) := by rw [w64 (by omega)]; omega
  rw [e1, e2]
  by_cases h1 : 1 ≤ n
  rotate_left; · exact ⟨0, by simp (disch := omega) only [push_cast], by omega, .inr rfl⟩
  by_cases h2 : b.length = 0
  · exact ⟨0, by simp (disch := omega) only [push_cast], by omega, .inr rfl⟩
  by_cases h3 : p < b.length
  · have hr := hb.by_ p
    have ht := zcp hr.1 h1
    refine ⟨((rd b p 0).int).tmod n, ?_, ht.1, .inl ht.2⟩
    simp (disch := omega) only [push_cast]
  · have hbn := hb.n
    obtain ⟨m, hm⟩ : ∃ m : Nat, b.length = m := ⟨_, rfl⟩
    rw [hm] at h2 h3 hbn ⊢
    have t1 := zcp (a := (p : Int)) (n := (m : Int)) (by omega) (by omega)
    have t2 := zcp (a := (p : Int) * 7 + 3) (n := (m : Int)) (by omega) (by omega)
    have t3 : 0 ≤ (p : Int).tdiv (m : Int) ∧ (p : Int).tdiv (m : Int) ≤ p := by
      rw [Int.tdiv_eq_ediv_of_nonneg (by omega)]
      exact ⟨Int.ediv_nonneg (by omega) (by omega), Int.ediv_le_self _ (by omega)⟩
    have r1 := hb.by_ ((p : Int).tmod (m : Int)).toNat
    have r2 := hb.by_ (((p : Int) * 7 + 3).tmod (m : Int)).toNat
    obtain ⟨c1, hc1⟩ : ∃ c, (rd b ((p : Int).tmod (m : Int)).toNat 0).int = c := ⟨_, rfl⟩
    obtain ⟨c2, hc2⟩ : ∃ c, (rd b (((p : Int) * 7 + 3).tmod (m : Int)).toNat 0).int = c := ⟨_, rfl⟩
    obtain ⟨q, hq⟩ : ∃ q, (p : Int).tdiv (m : Int) = q := ⟨_, rfl⟩
    rw [hc1] at r1; rw [hc2] at r2; rw [hq] at t3
    have hv : 0 ≤ c1 * 131 + c2 * 1117 + (p : Int) * 29 + q * 53 := by omega
    have h64 : 0 ≤ (c1 * 131 + c2 * 1117 + (p : Int) * 29 + q * 53).tdiv 64 ∧ (c1 * 131 + c2 * 1117 + (p : Int) * 29 + q * 53).tdiv 64 ≤ c1 * 131 + c2 * 1117 + (p : Int) * 29 + q * 53 := by
      rw [Int.tdiv_eq_ediv_of_nonneg hv]; omega
    have hx := zmz hv h64.1 (by omega) (by omega)
    have ht := zcp hx h1
    refine ⟨(IntKind.i64.wrap ((BitVec.ofInt IntKind.i64.bits (c1 * 131 + c2 * 1117 + (p : Int) * 29 + q * 53) ^^^ BitVec.ofInt IntKind.i64.bits ((c1 * 131 + c2 * 1117 + (p : Int) * 29 + q * 53).tdiv 64)).toNat : Int)).tmod n, ?_, ht.1, .inl ht.2⟩
    simp (disch := omega) only [push_cast, hc1, hc2, hq]
theorem znm {c : Rw} (hc : ∀ i, 0 ≤ (rd c i 0).int ∧ (rd c i 0).int ≤ 255) : ∃ b, Lqcr none [.l c] = some [.l b, .i 0] ∧ RB b := by
  rw [eqcr_i]
  by_cases h : c.length ≤ 2000
  · exact ⟨c, by simp (disch := omega) only [push_cast], h, hc⟩
  · refine ⟨Eng.sub c 0 2000, by simp (disch := omega) only [push_cast] <;> rfl, ?_, fun i => ?_⟩
    · simp [Eng.sub]; omega
    · have : rd (Eng.sub c 0 2000) i 0 = if i < 2000 then rd c i 0 else .i 0 := by
        unfold rd Eng.sub
        simp only [List.drop_zero, Nat.sub_zero, List.getD_eq_getElem?_getD, List.getElem?_take]
        split <;> rfl
      rw [this]
      split
      · exact hc i
      · exact ⟨Int.le_refl _, by show (0 : Int) ≤ 255; omega⟩
theorem zi0 {b : Rw} (hb : RB b) (n : Nat) (hn : n ≤ 3) : ∀ (m i : Nat) (p : Int) (acc : Rw), n + 1 - i = m → i ≤ n + 1 → 0 ≤ p ∧ p + m ≤ 1000000000 → acc.length = i →
    ∃ s p', Lqb2 (some 13) [.i (n : Int), .i (i : Int), .l b, .i p, .l acc] = some [.s s, .l b, .i p'] ∧ p ≤ p' ∧ p' ≤ p + m ∧ s.size = n + 1
  | 0, i, p, acc, hm, hi, hp, ha => by
    refine ⟨bytesOf acc, p, ?_, by omega, by omega, by rw [zb2]; omega⟩
    rw [eqb2_13]; simp (disch := omega) only [push_cast]
  | m + 1, i, p, acc, hm, hi, hp, ha => by
    obtain ⟨x, hx, hx0, hx1⟩ := zm hb 6 (by omega) p (by omega)
    obtain ⟨s, p', h1, h2, h3, h4⟩ := zi0 hb n hn m (i + 1) (p + 1) (acc ++ [[.i (IntKind.u8.wrap (IntKind.i64.wrap (97 + x)))]]) (by omega) (by omega) (by omega) (by simp [ha])
    refine ⟨s, p', ?_, by omega, by omega, h4⟩
    rw [eqb2_13, hx, mostE, ← h1]
    simp (disch := omega) only [push_cast]
theorem zp8 {b : Rw} (hb : RB b) (p : Int) (hp : 0 ≤ p ∧ p ≤ 999999000) : ∃ s p', Lqb2 none [.l b, .i p] = some [.s s, .l b, .i p'] ∧ p ≤ p' ∧ p' ≤ p + 10 ∧ s.size ≤ 4 := by
  obtain ⟨x, hx, hx0, hx1⟩ := zm hb 9 (by omega) p (by omega)
  rw [eqb2_i, hx]
  by_cases c0 : x = 0
  · exact ⟨⟨#[]⟩, p + 1, by simp (disch := omega) only [push_cast], by omega, by omega, by decide⟩
  by_cases c1 : x = 1
  · exact ⟨⟨#[97, 32, 98]⟩, p + 1, by simp (disch := omega) only [push_cast], by omega, by omega, by decide⟩
  by_cases c2 : x = 2
  · exact ⟨⟨#[37, 45, 10]⟩, p + 1, by simp (disch := omega) only [push_cast], by omega, by omega, by decide⟩
  by_cases c3 : x = 3
  · exact ⟨⟨#[255, 0]⟩, p + 1, by simp (disch := omega) only [push_cast], by omega, by omega, by decide⟩
  obtain ⟨y, hy, hy0, hy1⟩ := zm hb 4 (by omega) (p + 1) (by omega)
  obtain ⟨n, rfl⟩ : ∃ n : Nat, y = (n : Int) := ⟨y.toNat, by omega⟩
  obtain ⟨s, p', h1, h2, h3, h4⟩ := zi0 hb n (by omega) (n + 1) 0 (p + 1 + 1) [] (by omega) (by omega) (by omega) rfl
  refine ⟨s, p', ?_, by omega, by omega, by omega⟩
  simp (disch := omega) only [push_cast, hy]
  exact h1
theorem zsh {b : Rw} (hb : RB b) (p : Int) (hp : 0 ≤ p ∧ p ≤ 999999000) : ∃ w, Lqcd none [.l b, .i p] = some [.i w, .l b, .i (p + 1)] ∧ (w = 1 ∨ w = 2 ∨ w = 8) := by
  obtain ⟨x, hx, hx0, hx1⟩ := zm hb 8 (by omega) p (by omega)
  rw [eqcd_i, hx]
  by_cases c0 : x < 2
  · exact ⟨1, by simp (disch := omega) only [push_cast], .inl rfl⟩
  by_cases c1 : x = 2
  · exact ⟨2, by simp (disch := omega) only [push_cast], .inr (.inl rfl)⟩
  · exact ⟨8, by simp (disch := omega) only [push_cast], .inr (.inr rfl)⟩
theorem zm3 {l : List Bs} (h : Asc l) (x : Bs) (hx : x ∉ l) : Asc (l.take (lb (fun a => slt a x) l) ++ x :: l.drop (lb (fun a => slt a x) l)) := by
  unfold Asc at h ⊢
  have mono : ∀ a b, slt a b = true → slt b x = true → slt a x = true := fun a b h1 h2 => zbh h1 h2
  have hd : ∀ a ∈ l.drop (lb (fun a => slt a x) l), slt x a = true := fun a ha => by
    obtain ⟨j, hj, rfl⟩ := List.mem_iff_getElem.1 ha
    rw [List.length_drop] at hj
    have := lb_hi .empty h mono (lb (fun a => slt a x) l + j) (by omega) (by omega)
    rw [List.getElem_drop, ← zj .empty l _ (by omega)]
    rcases zfx.1 this with h1 | h1
    · exact absurd (h1 ▸ zh (by omega)) hx
    · exact h1
  have ht : ∀ a ∈ l.take (lb (fun a => slt a x) l), slt a x = true := fun a ha => by
    obtain ⟨j, hj, rfl⟩ := List.mem_iff_getElem.1 ha
    rw [List.length_take] at hj
    have := lb_lt (fun a => slt a x) .empty l j (by omega)
    rw [List.getElem_take, ← zj .empty l _ (by omega)]; exact this
  rw [List.pairwise_append, List.pairwise_cons]
  refine ⟨h.sublist (List.take_sublist _ _), ⟨hd, h.sublist (List.drop_sublist _ _)⟩, fun a ha b hb => ?_⟩
  rcases List.mem_cons.1 hb with rfl | hb
  · exact ht a ha
  · exact zbh (ht a ha) (hd b hb)
theorem zjt (l : List Bs) (i : Nat) (hi : i < l.length) (out : List Bs) (ho : Asc out) (hol : out.length ≤ 1000000) (hl : l.length ≤ 1000000) : ∀ m k : Nat, lb (fun a => slt a (nth .empty l i)) out - k = m → k ≤ lb (fun a => slt a (nth .empty l i)) out →
    Lqf (some 6) [.l (encS l), .i (i : Int), .i (k : Int), .l (encS out)] = Lqf (some 3) [.l (encS l), .i ((i + 1 : Nat) : Int), .l (encS (if nth .empty l i ∈ out then out else out.take (lb (fun a => slt a (nth .empty l i)) out) ++ nth .empty l i :: out.drop (lb (fun a => slt a (nth .empty l i)) out)))]
  | m + 1, k, hm, hk => by
    have hle := lb_le (fun a => slt a (nth .empty l i)) out
    have hq := lb_lt (fun a => slt a (nth .empty l i)) .empty out k (by omega)
    rw [← zjt l i hi out ho hol hl m (k + 1) (by omega) (by omega), eqf_6]
    simp (disch := omega) only [push_cast, hq]
  | 0, k, hm, hk => by
    have hle := lb_le (fun a => slt a (nth .empty l i)) out
    have hke : k = lb (fun a => slt a (nth .empty l i)) out := by omega
    generalize hx : nth .empty l i = x at *
    have mono : ∀ a b, slt a b = true → slt b x = true → slt a x = true := fun a b h1 h2 => zbh h1 h2
    have hmem : x ∈ out ↔ k < out.length ∧ nth .empty out k = x := by
      have := zec (q := fun a => slt a x) (p := fun a => a = x) .empty ho (fun a h => by rw [h]; exact zca x) (fun a b hab hb => by rw [← hb]; exact hab)
      rw [hke, ← this]
      exact ⟨fun h => ⟨x, h, rfl⟩, fun ⟨a, h1, h2⟩ => h2 ▸ h1⟩
    have nine : x ∉ out → Lqf (some 9) [.l (encS l), .i (i : Int), .i (k : Int), .l (encS out)] = Lqf (some 3) [.l (encS l), .i ((i + 1 : Nat) : Int), .l (encS (out.take k ++ x :: out.drop k))] := fun hn => by
      have s1 : Eng.sub (encS out) 0 k = encS (out.take k) := by rw [zdh]; simp
      have s2 : Eng.sub (encS out) k out.length = encS (out.drop k) := by rw [zdh, List.take_of_length_le (by simp)]
      rw [eqf_9, mostE]
      simp (disch := omega) only [push_cast, hx, s1, s2, List.nil_append, List.length_append, List.length_take, List.length_drop]
      rw [zb7, zp, zp, List.append_assoc]; rfl
    rw [eqf_6]
    by_cases h1 : k < out.length
    · have hq : slt (nth .empty out k) x = false := by rw [hke]; exact lb_at (fun a => slt a x) .empty out (by omega)
      by_cases h2 : nth .empty out k = x
      · rw [if_pos (hmem.2 ⟨h1, h2⟩)]
        simp (disch := omega) only [push_cast, hx, hq]
      · have hn : x ∉ out := fun h => h2 (hmem.1 h).2
        rw [if_neg hn]
        simp (disch := omega) only [push_cast, hx, hq]
        rw [nine hn, hke]; simp (disch := omega) only [push_cast]
    · have hn : x ∉ out := fun h => h1 (hmem.1 h).1
      rw [if_neg hn]
      simp (disch := omega) only [push_cast]
      rw [nine hn, hke]; simp (disch := omega) only [push_cast]
theorem zf5 (l : List Bs) (hl : l.length ≤ 1000000) : ∃ out : List Bs, Lqf none [.l (encS l)] = some [.l (encS out)] ∧ Asc out ∧ (∀ x, x ∈ out ↔ x ∈ l) ∧ out.length ≤ l.length := by
  rw [eqf_i]
  refine zg5 (f := fun (i : Nat) (out : List Bs) => Lqf (some 3) [.l (encS l), .i (i : Int), .l (encS out)]) (n := l.length) (I := fun i out => Asc out ∧ (∀ x, x ∈ out ↔ x ∈ l.take i) ∧ out.length ≤ i)
    (T := fun r => ∃ out : List Bs, r = some [.l (encS out)] ∧ Asc out ∧ (∀ x, x ∈ out ↔ x ∈ l) ∧ out.length ≤ l.length) (fun i out hi hI => .inl ?_) (fun out hI => ?_) 0 [] (Nat.zero_le _) ⟨List.Pairwise.nil, fun x => by simp, Nat.zero_le _⟩
  · obtain ⟨ho, hm, hlen⟩ := hI
    refine ⟨if nth .empty l i ∈ out then out else out.take (lb (fun a => slt a (nth .empty l i)) out) ++ nth .empty l i :: out.drop (lb (fun a => slt a (nth .empty l i)) out), ?_, ?_, fun x => ?_, ?_⟩
    · show Lqf _ _ = Lqf _ _
      rw [← zjt l i hi out ho (by omega) hl (lb (fun a => slt a (nth .empty l i)) out) 0 (by omega) (Nat.zero_le _), eqf_3]; simp (disch := omega) only [push_cast]
    · split
      · exact ho
      · rename_i h; exact zm3 ho _ h
    · rw [zz .empty hi, List.mem_append, List.mem_singleton, ← hm]
      split
      · rename_i h; exact ⟨.inl, fun h1 => by rcases h1 with h1 | rfl; exact h1; exact h⟩
      · rw [List.mem_append, List.mem_cons]
        conv => rhs; rw [← List.take_append_drop (lb (fun a => slt a (nth .empty l i)) out) out, List.mem_append]
        constructor
        · rintro (h | h | h)
          · exact .inl (.inl h)
          · exact .inr h
          · exact .inl (.inr h)
        · rintro ((h | h) | h)
          · exact .inl h
          · exact .inr (.inr h)
          · exact .inr (.inl h)
    · have := lb_le (fun a => slt a (nth .empty l i)) out
      split
      · omega
      · simp; omega
  · refine ⟨out, ?_, hI.1, fun x => by rw [hI.2.1 x, List.take_length], hI.2.2⟩
    show Lqf _ _ = _
    rw [eqf_3]; simp (disch := omega) only [push_cast]
end KV
end
section
namespace KV
open Go Go.Eng
open Classical
theorem zpg : ∀ (n : Nat) (s out : Bs) (T : Nat), out.size + n * s.size = T → T ≤ 1000000000 → s.size ≤ 1000000000 → n ≤ 1000000000 → ∃ r, Lqb1 (some 2) [.s s, .i (n : Int), .s out] = some [.s r] ∧ r.size = T := by
  intro n
  induction n using Nat.strongRecOn with
  | ind n ih =>
    intro s out T hT hB hs hn
    rw [eqb1_2]
    by_cases h0 : n = 0
    · subst h0; exact ⟨out, by simp (disch := omega) only [push_cast], by omega⟩
    have hd : IntKind.i64.wrap ((n : Int).tdiv 2) = ((n / 2 : Nat) : Int) := by
      rw [Int.tdiv_eq_ediv_of_nonneg (by omega), w64 (by omega)]; omega
    have hm : ((n : Int).tmod 2) = ((n % 2 : Nat) : Int) := by rw [Int.tmod_eq_emod_of_nonneg (by omega)]; omega
    have hss : (s ++ s).size = s.size + s.size := z7 s s
    have hmul : n * s.size = (n / 2) * (s.size + s.size) + (n % 2) * s.size := by
      conv => lhs; rw [← Nat.div_add_mod n 2]
      rw [Nat.add_mul, Nat.mul_comm 2 (n / 2), Nat.mul_assoc, Nat.two_mul]
    have hsT : s.size ≤ T := by
      have : 1 * s.size ≤ n * s.size := Nat.mul_le_mul_right _ (by omega)
      omega
    rw [hd, hm, mostE]
    by_cases h1 : n % 2 = 1
    · rw [h1] at hmul ⊢
      have hh : 2 ≤ n → s.size + s.size ≤ T := fun h2 => by
        have : 1 * (s.size + s.size) ≤ (n / 2) * (s.size + s.size) := Nat.mul_le_mul_right _ (by omega)
        omega
      by_cases h2 : 2 ≤ n
      · obtain ⟨r, hr, hr2⟩ := ih (n / 2) (by omega) (s ++ s) (out ++ s) T (by rw [z7, hss]; omega) hB (by have := hh h2; omega) (by omega)
        refine ⟨r, ?_, hr2⟩
        rw [← hr]
        simp (disch := omega) only [push_cast]
      · have hn1 : n / 2 = 0 := by omega
        refine ⟨out ++ s, ?_, by rw [z7]; rw [hn1] at hmul; omega⟩
        rw [hn1]
        simp (disch := omega) only [push_cast]
        rw [eqb1_2]; simp (disch := omega) only [push_cast]
    · have h2 : n % 2 = 0 := by omega
      rw [h2] at hmul ⊢
      have : 1 * (s.size + s.size) ≤ (n / 2) * (s.size + s.size) := Nat.mul_le_mul_right _ (by omega)
      obtain ⟨r, hr, hr2⟩ := ih (n / 2) (by omega) (s ++ s) out T (by rw [hss]; omega) hB (by omega) (by omega)
      refine ⟨r, ?_, hr2⟩
      rw [← hr]
      simp (disch := omega) only [push_cast]
theorem zr0 (s : Bs) (n : Int) (h0 : 0 ≤ n ∧ n ≤ 1000000000) (hs : s.size = 1) : ∃ r, Lqb1 none [.s s, .i n] = some [.s r] ∧ (r.size : Int) = n := by
  obtain ⟨n, rfl⟩ : ∃ m : Nat, n = (m : Int) := ⟨n.toNat, by omega⟩
  rw [eqb1_i]
  obtain ⟨r, h1, h2⟩ := zpg n s ⟨#[]⟩ n (by show 0 + n * s.size = n; rw [hs]; omega) (by omega) (by omega) (by omega)
  exact ⟨r, h1, by omega⟩
inductive SpT (t t' : Thing) : Prop where
  | text (h : t'.refs = t.refs) (hs : t'.text.size ≤ 2001 ∨ t'.text.size ≤ t.text.size + 1)
  | more (r : Bs) (h : t'.text = t.text) (hr : t'.refs = t.refs ++ [r]) (hs : r.size = 1 ∨ r ∈ t.refs)
  | ones (h : t'.text = t.text) (hr : ∀ r ∈ t'.refs, r.size = 1) (hn : t'.refs.length ≤ 31)
theorem zh4 {b : Rw} (n : Nat) (hn : n ≤ 31) (p : Int) (x y : Bs) : ∀ (m i : Nat) (acc : List Bs), n - i = m → i ≤ n → acc.length = i → (∀ r ∈ acc, r.size = 1) →
    ∃ l : List Bs, Lqb4 (some 15) [.i (n : Int), .i (i : Int), .l b, .i p, .s x, .s y, .l [], .l (encS acc)] = some [.s y, .l b, .i p, .l (encS l)] ∧ (∀ r ∈ l, r.size = 1) ∧ l.length = n
  | 0, i, acc, hm, hi, ha, hr => ⟨acc, by rw [eqb4_15]; simp (disch := omega) only [push_cast], hr, by omega⟩
  | m + 1, i, acc, hm, hi, ha, hr => by
    obtain ⟨l, h1, h2, h3⟩ := zh4 n hn p x y m (i + 1) (acc ++ [bytesOf [[.i (IntKind.u8.wrap (IntKind.i64.wrap (33 + (i : Int))))]]]) (by omega) (by omega) (by simp [ha]) (fun r h => by
      rcases List.mem_append.1 h with h | h
      · exact hr r h
      · rw [List.mem_singleton] at h; rw [h, zb2]; rfl)
    refine ⟨l, ?_, h2, h3⟩
    rw [eqb4_15, ← h1, mostE, ← zp]
    simp (disch := omega) only [push_cast]; rfl
theorem zo8 {b : Rw} (hb : RB b) (t : Thing) (ht : t.refs.length ≤ 1000000000 ∧ t.text.size ≤ 1000000000) (p : Int) (hp : 0 ≤ p ∧ p ≤ 999998000) :
    ∃ (t' : Thing) (p' : Int), Lqb4 none [.s t.text, .l (encS t.refs), .l b, .i p] = some [.s t'.text, .l b, .i p', .l (encS t'.refs)] ∧ p ≤ p' ∧ p' ≤ p + 10 ∧ SpT t t' := by
  obtain ⟨x, hx, hx0, hx1⟩ := zm hb 5 (by omega) p (by omega)
  rw [eqb4_i, ze6 _ _ (by rw [zbn]; omega), mostE]
  by_cases c0 : x = 0
  · obtain ⟨y, hy, hy0, hy1⟩ := zm hb 2 (by omega) (p + 1) (by omega)
    obtain ⟨r, hr, hr2⟩ := zr0 ⟨#[116]⟩ (2000 + y) (by omega) rfl
    refine ⟨⟨r, t.refs⟩, p + 1 + 1, ?_, by omega, by omega, .text rfl (.inl (by simp only; omega))⟩
    simp (disch := omega) only [push_cast, hx, hy, hr]
  by_cases c1 : x = 1
  · refine ⟨⟨t.text, t.refs ++ [⟨#[120]⟩]⟩, p + 1, ?_, by omega, by omega, .more ⟨#[120]⟩ rfl rfl (.inl rfl)⟩
    simp (disch := omega) only [push_cast, hx]
    rw [zb7, zp]
  by_cases c2 : x = 2
  · by_cases h0 : 0 < t.refs.length
    · refine ⟨⟨t.text, t.refs ++ [nth .empty t.refs 0]⟩, p + 1, ?_, by omega, by omega, .more _ rfl rfl (.inr (zh h0))⟩
      simp (disch := omega) only [push_cast, hx]
      rw [zb7, zp]
    · refine ⟨t, p + 1, ?_, by omega, by omega, .text rfl (.inr (Nat.le_succ _))⟩
      simp (disch := omega) only [push_cast, hx]
  by_cases c3 : x = 3
  · obtain ⟨y, hy, hy0, hy1⟩ := zm hb 2 (by omega) (p + 1) (by omega)
    obtain ⟨n, hn⟩ : ∃ n : Nat, 30 + y = (n : Int) := ⟨(30 + y).toNat, by omega⟩
    obtain ⟨l, h1, h2, h3⟩ := zh4 (b := b) n (by omega) (p + 1 + 1) E0 t.text n 0 [] (by omega) (by omega) rfl (fun r hr => by cases hr)
    refine ⟨⟨t.text, l⟩, p + 1 + 1, ?_, by omega, by omega, .ones rfl h2 (by simp only; omega)⟩
    simp (disch := omega) only [push_cast, hx, hy, hn]
    exact h1
  · refine ⟨⟨t.text ++ ⟨#[122]⟩, t.refs⟩, p + 1, ?_, by omega, by omega, .text rfl (.inr (by simp only; rw [z7]; exact Nat.le_refl _))⟩
    have : (⟨#[122]⟩ : Bs).size = 1 := rfl
    simp (disch := omega) only [push_cast, hx, this]
end KV
end
section
namespace KV
open Go Go.Eng
open Classical
theorem zm0 (t : Thing) (w : Int) : (formT t w).size ≤ 2241 := by
  unfold formT
  split
  · rename_i h
    have := zbk (zb4.1 h)
    rw [zbo]; omega
  · exact Nat.zero_le _
end KV
end
