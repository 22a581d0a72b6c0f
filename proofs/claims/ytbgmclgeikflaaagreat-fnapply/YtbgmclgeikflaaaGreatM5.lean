/- Plain laws over the walks' closed forms. -/
import Derived.IntWalk
import Derived.WideShapes
import Derived.Laws.Strings
import Derived.Test.YtbgmclgeikflaaaGreatM1
import Derived.Test.YtbgmclgeikflaaaGreatM2
import Derived.Test.YtbgmclgeikflaaaGreatM3
import Derived.Test.YtbgmclgeikflaaaGreatM4
set_option linter.unusedSimpArgs false
set_option linter.unusedVariables false
set_option linter.unusedSectionVars false
section
namespace KV
open Go Go.Eng
abbrev Bs := ByteArray
theorem w64 {n : Int} (h : -9223372036854775808 ≤ n ∧ n ≤ 9223372036854775807) : IntKind.i64.wrap n = n := IntWalk.i64_in n h
theorem w8 {n : Int} (h : 0 ≤ n ∧ n ≤ 255) : IntKind.u8.wrap n = n := IntWalk.u8_in n h
theorem inb_f {i : Int} {n : Nat} (h : i < 0 ∨ (n : Int) ≤ i) : inb i n = false := by
  simp only [inb, Bool.and_eq_false_iff, decide_eq_false_iff_not]; omega
theorem dlt_f {i n : Nat} (h : n ≤ i) : decide ((i : Int) < (n : Int)) = false := by simp; omega
theorem zdl (n : Nat) : (n : Int).toNat = n := Int.toNat_natCast n
theorem zea (x y : Bs) : Eng.seq x y = decide (x = y) := by
  unfold Eng.seq
  rw [ByteArray.toList_eq, ByteArray.toList_eq]
  by_cases h : x = y
  · subst h; simp
  · simp only [h, decide_false, beq_eq_false_iff_ne]
    exact fun e => h (Go.WideShapes.bytes_inj e)
theorem zco (x : Bs) : Eng.seq x x = true := by simp [zea]
theorem zkd : ∀ x : List UInt8, Op.bytesLess x x = false
  | [] => rfl
  | a :: x => by simp [Op.bytesLess, zkd x]
theorem zhn : ∀ {x y z : List UInt8}, Op.bytesLess x y = true → Op.bytesLess y z = true → Op.bytesLess x z = true
  | [], [], _, h, _ => by simp [Op.bytesLess] at h
  | [], _ :: _, [], _, h => by simp [Op.bytesLess] at h
  | [], _ :: _, _ :: _, _, _ => rfl
  | _ :: _, [], _, h, _ => by simp [Op.bytesLess] at h
  | _ :: _, _ :: _, [], _, h => by simp [Op.bytesLess] at h
  | a :: x, b :: y, c :: z, h, k => by
    simp only [Op.bytesLess, Bool.or_eq_true, decide_eq_true_eq, Bool.and_eq_true, beq_iff_eq] at h k ⊢
    rcases h with h | ⟨rfl, h⟩ <;> rcases k with k | ⟨rfl, k⟩
    · exact .inl (UInt8.lt_trans h k)
    · exact .inl h
    · exact .inl k
    · exact .inr ⟨rfl, zhn h k⟩
theorem zh8 : ∀ (x y : List UInt8), Op.bytesLess x y = true ∨ x = y ∨ Op.bytesLess y x = true
  | [], [] => .inr (.inl rfl)
  | [], _ :: _ => .inl rfl
  | _ :: _, [] => .inr (.inr rfl)
  | a :: x, b :: y => by
    simp only [Op.bytesLess, Bool.or_eq_true, decide_eq_true_eq, Bool.and_eq_true, beq_iff_eq, List.cons.injEq]
    rcases zh8 x y with h | h | h
    · rcases Nat.lt_trichotomy a.toNat b.toNat with k | k | k
      · exact .inl (.inl (UInt8.lt_iff_toNat_lt.2 k))
      · exact .inl (.inr ⟨UInt8.toNat_inj.1 k, h⟩)
      · exact .inr (.inr (.inl (UInt8.lt_iff_toNat_lt.2 k)))
    · rcases Nat.lt_trichotomy a.toNat b.toNat with k | k | k
      · exact .inl (.inl (UInt8.lt_iff_toNat_lt.2 k))
      · exact .inr (.inl ⟨UInt8.toNat_inj.1 k, h⟩)
      · exact .inr (.inr (.inl (UInt8.lt_iff_toNat_lt.2 k)))
    · rcases Nat.lt_trichotomy a.toNat b.toNat with k | k | k
      · exact .inl (.inl (UInt8.lt_iff_toNat_lt.2 k))
      · exact .inr (.inr (.inr ⟨(UInt8.toNat_inj.1 k).symm, h⟩))
      · exact .inr (.inr (.inl (UInt8.lt_iff_toNat_lt.2 k)))
theorem zdg (x : Bs) : slt x x = false := zkd _
theorem zbj {x y z : Bs} (h : slt x y = true) (k : slt y z = true) : slt x z = true := zhn h k
theorem zmp (x y : Bs) : slt x y = true ∨ x = y ∨ slt y x = true := by
  rcases zh8 x.toList y.toList with h | h | h
  · exact .inl h
  · rw [ByteArray.toList_eq, ByteArray.toList_eq] at h; exact .inr (.inl (Go.WideShapes.bytes_inj h))
  · exact .inr (.inr h)
theorem zom {x y : Bs} (h : slt x y = true) : x ≠ y := fun e => by rw [e, zdg] at h; cases h
theorem zpu {x y : Bs} (h : slt x y = true) : slt y x = false := by
  cases k : slt y x
  · rfl
  · have := zbj h k; rw [zdg] at this; cases this
theorem zf8 {x y : Bs} : slt x y = false ↔ x = y ∨ slt y x = true := by
  constructor
  · intro h; rcases zmp x y with k | k | k
    · rw [h] at k; cases k
    · exact .inl k
    · exact .inr k
  · rintro (rfl | h)
    · exact zdg _
    · exact zpu h
theorem zg6 {α : Type} (f : α → List C) (l : List α) (i o : Nat) (h : i < l.length) : rd (l.map f) i o = (f l[i]).getD o (.i 0) := by
  simp [rd, List.getD_eq_getElem?_getD, h]
theorem zfm {α : Type} (f : α → List C) (l : List α) (a b : Nat) : Eng.sub (l.map f) a b = ((l.drop a).take (b - a)).map f := by
  simp [Eng.sub, List.map_take, List.map_drop]
def encS (l : List Bs) : Rw := l.map fun s => [.s s]
theorem zbk (l : List Bs) : (encS l).length = l.length := by simp [encS]
theorem zu (l m : List Bs) : encS l ++ encS m = encS (l ++ m) := by simp [encS]
theorem zdh (l : List Bs) (a b : Nat) : Eng.sub (encS l) a b = encS ((l.drop a).take (b - a)) := zfm _ _ _ _
theorem zcd (s : Bs) : ([[C.s s]] : Rw) = encS [s] := rfl
@[push_cast] theorem cpos {p : Prop} [Decidable p] {α : Type} {a b : α} (h : p) : cond (decide p) a b = a := by simp [h]
@[push_cast] theorem cneg {p : Prop} [Decidable p] {α : Type} {a b : α} (h : ¬ p) : cond (decide p) a b = b := by simp [h]
@[push_cast] theorem cnot {α : Type} (c : Bool) (a b : α) : cond (!c) a b = cond c b a := by cases c <;> rfl
attribute [push_cast] cond_true cond_false Option.bind_some Option.bind_none Int.toNat_natCast
@[push_cast] theorem notT : (!true) = false := Eq.trans rfl rfl
@[push_cast] theorem notF : (!false) = true := Eq.trans rfl rfl
@[push_cast] theorem g0 (a : Lf) (l : List Lf) : g (a :: l) 0 = a := Eq.trans rfl rfl
@[push_cast] theorem g1 (a b : Lf) (l : List Lf) : g (a :: b :: l) 1 = b := Eq.trans rfl rfl
@[push_cast] theorem g2 (a b c : Lf) (l : List Lf) : g (a :: b :: c :: l) 2 = c := Eq.trans rfl rfl
@[push_cast] theorem g3 (a b c d : Lf) (l : List Lf) : g (a :: b :: c :: d :: l) 3 = d := Eq.trans rfl rfl
@[push_cast] theorem g4 (a b c d e : Lf) (l : List Lf) : g (a :: b :: c :: d :: e :: l) 4 = e := Eq.trans rfl rfl
@[push_cast] theorem g5 (a b c d e f : Lf) (l : List Lf) : g (a :: b :: c :: d :: e :: f :: l) 5 = f := Eq.trans rfl rfl
@[push_cast] theorem g6 (a b c d e f h : Lf) (l : List Lf) : g (a :: b :: c :: d :: e :: f :: h :: l) 6 = h := Eq.trans rfl rfl
@[push_cast] theorem gS (a b c d e f h : Lf) (l : List Lf) (n : Nat) : g (a :: b :: c :: d :: e :: f :: h :: l) (n + 7) = g l n := Eq.trans rfl rfl
@[push_cast] theorem lfI (n : Int) : (Lf.i n).int = n := Eq.trans rfl rfl
@[push_cast] theorem lfB (n : Bool) : (Lf.b n).bool = n := Eq.trans rfl rfl
@[push_cast] theorem lfS (n : ByteArray) : (Lf.s n).str = n := Eq.trans rfl rfl
@[push_cast] theorem lfL (n : Rw) : (Lf.l n).list = n := Eq.trans rfl rfl
@[push_cast] theorem lfM (n : List (C × C)) : (Lf.m n).map = n := Eq.trans rfl rfl
attribute [push_cast] w64 w8
@[push_cast] theorem inbp {i : Int} {n : Nat} (h : 0 ≤ i ∧ i < (n : Int)) : inb i n = true := by simp [inb, h]
@[push_cast] theorem inbn {i : Int} {n : Nat} (h : ¬ (0 ≤ i ∧ i < (n : Int))) : inb i n = false := inb_f (by omega)
@[push_cast] theorem tnA (i : Nat) : ((i : Int) + 1).toNat = i + 1 := by omega
@[push_cast] theorem tnM (i : Nat) : ((i : Int) - 1).toNat = i - 1 := by omega
@[push_cast] theorem bneI (a b : Int) : (a != b) = !decide (a = b) := by
  by_cases h : a = b
  · subst h; simp
  · simp [h]
@[push_cast] theorem beqI (a b : Int) : (a == b) = decide (a = b) := by
  by_cases h : a = b
  · subst h; simp
  · simp [h]
attribute [push_cast] zea zbk
@[push_cast] theorem lenC {α : Type} (a : α) (l : List α) : (a :: l).length = l.length + 1 := Eq.trans rfl rfl
@[push_cast] theorem lenN {α : Type} : ([] : List α).length = 0 := Eq.trans rfl rfl
@[push_cast] theorem ifT {α : Type} (a b : α) : (if True then a else b) = a := if_pos trivial
@[push_cast] theorem ifF {α : Type} (a b : α) : (if False then a else b) = b := if_neg id
@[push_cast] theorem ftE : (false = true) = False := by simp
attribute [push_cast] eq_self
@[push_cast] theorem decT [Decidable True] : decide True = true := by simp
@[push_cast] theorem decF [Decidable False] : decide False = false := by simp
def nth {α : Type} (d : α) (l : List α) (i : Nat) : α := l.getD i d
theorem zhh {α : Type} (d x : α) (l : List α) : nth d (x :: l) 0 = x := rfl
theorem zdc {α : Type} (d x : α) (l : List α) (i : Nat) : nth d (x :: l) (i + 1) = nth d l i := rfl
theorem zk {α : Type} (d : α) (l : List α) (i : Nat) (h : i < l.length) : nth d l i = l[i] := by
  unfold nth; rw [List.getD_eq_getElem?_getD, List.getElem?_eq_getElem h]; rfl
theorem zo1 {α : Type} {d : α} {l : List α} {i : Nat} (h : i < l.length) : l[i]? = some (nth d l i) := by
  rw [zk d l i h, List.getElem?_eq_getElem h]
theorem zi {α : Type} {l : List α} {i : Nat} {d : α} (h : i < l.length) : nth d l i ∈ l := by
  rw [zk d l i h]; exact List.getElem_mem h
theorem zbb {α : Type} {l : List α} {x : α} (d : α) (h : x ∈ l) : ∃ i, i < l.length ∧ nth d l i = x := by
  obtain ⟨i, h1, h2⟩ := List.mem_iff_getElem.1 h
  exact ⟨i, h1, by rw [zk d l i h1]; exact h2⟩
theorem zd6 {α : Type} (d : α) {l : List α} {i : Nat} (h : i < l.length) : l.drop i = nth d l i :: l.drop (i + 1) := by
  rw [List.drop_eq_getElem_cons h, zk d l i h]
theorem zba {α : Type} (d : α) {l : List α} {i : Nat} (h : i < l.length) : l.take (i + 1) = l.take i ++ [nth d l i] := by
  rw [List.take_add_one, zo1 (d := d) h]; rfl
theorem zkj {α : Type} (f : α → List C) (d : α) (l : List α) (i o : Nat) (h : i < l.length) : rd (l.map f) i o = (f (nth d l i)).getD o (.i 0) := by
  rw [zg6 f l i o h, zk d l i h]
theorem zgk {α : Type} (f : α → List C) (l : List α) (i o : Nat) (h : l.length ≤ i) : rd (l.map f) i o = .i 0 := by
  have : (l.map f).getD i [] = [] := by
    rw [List.getD_eq_getElem?_getD, List.getElem?_eq_none (by simpa using h)]; rfl
  unfold rd
  rw [this]; rfl
@[push_cast] theorem ztw (l : List Bs) (i : Nat) : (rd (encS l) i 0).str = nth .empty l i := by
  rcases Nat.lt_or_ge i l.length with h | h
  · rw [encS, zkj _ .empty _ _ _ h]; rfl
  · rw [encS, zgk _ _ _ _ h, nth, List.getD_eq_getElem?_getD, List.getElem?_eq_none h]; rfl
end KV
end
section

end
section
namespace KV
open Go Go.Eng
open Classical in
theorem zq {β : Type} {f : Nat → β} {P : Nat → Prop} {n : Nat} {T F : β} (step : ∀ i, i < n → (P i → f i = f (i + 1)) ∧ (¬ P i → f i = F)) (last : f n = T) :
    ∀ i, i ≤ n → f i = if (∀ j, i ≤ j → j < n → P j) then T else F := by
  intro i hi
  generalize hk : n - i = k
  induction k generalizing i with
  | zero =>
    have : i = n := by omega
    subst this
    rw [if_pos (fun j h1 h2 => absurd h2 (by omega)), last]
  | succ k ih =>
    have hlt : i < n := by omega
    by_cases h : P i
    · rw [(step i hlt).1 h, ih (i + 1) (by omega) (by omega)]
      by_cases h2 : ∀ j, i + 1 ≤ j → j < n → P j
      · rw [if_pos h2, if_pos fun j h3 h4 => by
          rcases Nat.eq_or_lt_of_le h3 with rfl | h5
          · exact h
          · exact h2 j h5 h4]
      · rw [if_neg h2, if_neg fun h3 => h2 fun j h4 h5 => h3 j (by omega) h5]
    · rw [(step i hlt).2 h, if_neg fun h3 => h (h3 i (Nat.le_refl _) hlt)]
theorem zj5 {β σ : Type} {f : Nat → σ → β} {g : Nat → σ → σ} {n : Nat} (step : ∀ i s, i < n → f i s = f (i + 1) (g i s)) :
    ∀ i, i ≤ n → ∀ s, f i s = f n ((List.range' i (n - i)).foldl (fun s i => g i s) s) := by
  intro i hi
  generalize hk : n - i = k
  induction k generalizing i with
  | zero =>
    intro s
    have : i = n := by omega
    subst this; rfl
  | succ k ih =>
    intro s
    rw [step i s (by omega), ih (i + 1) (by omega) (by omega)]
    rfl
theorem zbc {β σ : Type} {f : Nat → σ → β} {I : Nat → σ → Prop} {n : Nat} {T : β} (step : ∀ i s, i < n → I i s → ∃ s', f i s = f (i + 1) s' ∧ I (i + 1) s') (last : ∀ s, I n s → f n s = T) :
    ∀ i s, i ≤ n → I i s → f i s = T := by
  intro i s hi
  generalize hk : n - i = k
  induction k generalizing i s with
  | zero =>
    intro h
    have : i = n := by omega
    subst this; exact last s h
  | succ k ih =>
    intro h
    obtain ⟨s', h1, h2⟩ := step i s (by omega) h
    rw [h1]; exact ih (i + 1) s' (by omega) (by omega) h2
theorem zhf {β σ : Type} {f : Nat → σ → β} {I : Nat → σ → Prop} {n : Nat} {T : β → Prop} (step : ∀ i s, i < n → I i s → (∃ s', f i s = f (i + 1) s' ∧ I (i + 1) s') ∨ T (f i s)) (last : ∀ s, I n s → T (f n s)) :
    ∀ i s, i ≤ n → I i s → T (f i s) := by
  intro i s hi
  generalize hk : n - i = k
  induction k generalizing i s with
  | zero =>
    intro h
    have : i = n := by omega
    subst this; exact last s h
  | succ k ih =>
    intro h
    rcases step i s (by omega) h with ⟨s', h1, h2⟩ | h1
    · rw [h1]; exact ih (i + 1) s' (by omega) (by omega) h2
    · exact h1
theorem zbu (xs ys : Rw) : bytesOf (xs ++ ys) = bytesOf xs ++ bytesOf ys := by
  apply Go.WideShapes.bytes_inj
  simp [bytesOf, ByteArray.data_append]
theorem zc3 (s : Bs) : bytesOf (rowsOf s) = s := by
  apply Go.WideShapes.bytes_inj
  simp only [bytesOf, rowsOf, List.map_map]
  rw [show ((fun r : List C => UInt8.ofNat (r.getD 0 (.i 0)).int.toNat) ∘ fun b : UInt8 => [C.i (b.toNat : Int)]) = id from funext fun b => by simp only [Function.comp, List.getD_cons_zero, C.int, Int.toNat_natCast, UInt8.ofNat_toNat, id]]
  simp only [List.map_id, Array.toArray_toList]
theorem zcb (xs : Rw) : (bytesOf xs).size = xs.length := by
  show (xs.map _).toArray.size = _
  simp only [List.size_toArray, List.length_map]
theorem ze0 (s : Bs) : (rowsOf s).length = s.size := by
  show (s.data.toList.map _).length = s.data.size
  simp only [List.length_map, Array.length_toList]
theorem zbg (s : Bs) (n : Nat) : 0 ≤ byteAt s n ∧ byteAt s n < 256 := by
  unfold byteAt
  generalize s.data.getD n 0 = b
  have := b.toNat_lt
  omega
theorem size_extract (s : Bs) (a b : Nat) : (s.extract a b).size = min b s.size - a := ByteArray.size_extract
theorem zy (s t : Bs) : (s ++ t).size = s.size + t.size := ByteArray.size_append
end KV
end
section
namespace KV
open Go Go.Eng
open Classical
def zj (w : Int) : Bool := decide (1 ≤ w) && decide (w ≤ 8)
theorem zw {w : Int} : zj w = true ↔ 1 ≤ w ∧ w ≤ 8 := by simp [zj]
theorem zby (w : Int) : Lqbl none [.i w] = some [.b (zj w)] := by
  rw [eqbl_i]; unfold zj
  cases decide (1 ≤ w) <;> rfl
theorem zt (w : Int) : Lqi none [.i w] = some [.b (zj w)] := by
  rw [eqi_i]; unfold zj
  cases decide (1 ≤ w) <;> rfl
structure Thing where
  text : Bs
  refs : List Bs
def Asc (l : List Bs) : Prop := l.Pairwise fun a b => slt a b = true
theorem zq7 (l : List Bs) : Asc l ↔ ∀ j, 0 < j → j < l.length → slt (nth .empty l (j - 1)) (nth .empty l j) = true := by
  induction l with
  | nil => exact ⟨fun _ j _ h => absurd h (by simp), fun _ => List.Pairwise.nil⟩
  | cons a l ih =>
    unfold Asc at ih ⊢
    rw [List.pairwise_cons, ih]
    constructor
    · rintro ⟨h1, h2⟩ j hj hl
      cases j with
      | zero => omega
      | succ j =>
        simp only [Nat.add_sub_cancel, zdc]
        cases j with
        | zero =>
          simp only [List.length_cons] at hl
          exact h1 _ (zi (by omega))
        | succ j =>
          simp only [zdc]
          simp only [List.length_cons] at hl
          exact h2 (j + 1) (by omega) (by omega)
    · intro h
      have h2 : ∀ j, 0 < j → j < l.length → slt (nth .empty l (j - 1)) (nth .empty l j) = true := fun j hj hl => by
        have := h (j + 1) (by omega) (by simp; omega)
        cases j with
        | zero => omega
        | succ j => simpa [zdc, zhh] using this
      refine ⟨fun b hb => ?_, h2⟩
      obtain ⟨i, hi, rfl⟩ := zbb .empty hb
      clear hb
      induction i with
      | zero => have := h 1 (by omega) (by simp; omega); simpa [zdc, zhh] using this
      | succ i ihi => exact zbj (ihi (by omega)) (h2 (i + 1) (by omega) hi)
structure ThingOk (t : Thing) (w : Int) : Prop where
  wd : 1 ≤ w ∧ w ≤ 8
  text : t.text.size ≤ 2000
  refs : t.refs.length ≤ 30
  size : ∀ r ∈ t.refs, (r.size : Int) = w
  asc : Asc t.refs
noncomputable def zz (t : Thing) (w : Int) : Bool := decide (ThingOk t w)
theorem zcl {t : Thing} {w : Int} : zz t w = true ↔ ThingOk t w := by simp [zz]
def refP (l : List Bs) (w : Int) (j : Nat) : Prop := ((nth .empty l j).size : Int) = w ∧ (0 < j → slt (nth .empty l (j - 1)) (nth .empty l j) = true)
theorem zo6 (l : List Bs) (w : Int) : (∀ j, 0 ≤ j → j < l.length → refP l w j) ↔ (∀ r ∈ l, (r.size : Int) = w) ∧ Asc l := by
  rw [zq7]
  constructor
  · intro h
    refine ⟨fun r hr => ?_, fun j h1 h2 => (h j (by omega) h2).2 h1⟩
    obtain ⟨i, hi, rfl⟩ := zbb .empty hr
    exact (h i (by omega) hi).1
  · rintro ⟨h1, h2⟩ j _ hj
    exact ⟨h1 _ (zi hj), fun h => h2 j h hj⟩
theorem znb (l : List Bs) (x : Bs) (w : Int) (hl : l.length ≤ 30) : ∀ i : Nat, i ≤ l.length →
    Lq8 (some 4) [.i w, .l (encS l), .i (l.length : Int), .i (i : Int), .s x, .l (encS l)] = if (∀ j, i ≤ j → j < l.length → refP l w j) then some [.b (zj w)] else some [.b false] := by
  refine zq (f := fun i : Nat => Lq8 (some 4) [.i w, .l (encS l), .i (l.length : Int), .i (i : Int), .s x, .l (encS l)]) (fun i hi => ?_) ?_
  · show (_ → Lq8 _ _ = _) ∧ (_ → Lq8 _ _ = _)
    rw [eq8_4]
    unfold refP
    by_cases h0 : 0 < i <;> by_cases h1 : ((nth .empty l i).size : Int) = w <;> simp (disch := omega) only [push_cast]
    · cases slt (nth .empty l (i - 1)) (nth .empty l i) <;> simp [h0, h1]
    · simp [h1]
    · simp [h0, h1]
    · simp [h1]
  · show Lq8 _ _ = _
    rw [eq8_4]; simp (disch := omega) only [push_cast, zby]
theorem zd5 (t : Thing) (w : Int) : ThingOk t w ↔ zj w = true ∧ t.text.size ≤ 2000 ∧ t.refs.length ≤ 30 ∧ ∀ j, 0 ≤ j → j < t.refs.length → refP t.refs w j := by
  rw [zo6, zw]
  exact ⟨fun h => ⟨h.wd, h.text, h.refs, h.size, h.asc⟩, fun h => ⟨h.1, h.2.1, h.2.2.1, h.2.2.2.1, h.2.2.2.2⟩⟩
theorem zbp (t : Thing) (w : Int) : Lq8 none [.s t.text, .l (encS t.refs), .i w] = some [.b (zz t w)] := by
  rw [eq8_i, zbk]
  by_cases h1 : t.text.size ≤ 2000
  · by_cases h2 : t.refs.length ≤ 30
    · rw [show decide ((2000 : Int) < (t.text.size : Int)) = false by simp; omega, show decide ((30 : Int) < (t.refs.length : Int)) = false by simp; omega]
      simp only [cond_false]
      have := znb t.refs t.text w h2 0 (Nat.zero_le _)
      rw [show ((0 : Nat) : Int) = 0 from rfl] at this
      rw [this]
      unfold zz
      by_cases h3 : ∀ j, 0 ≤ j → j < t.refs.length → refP t.refs w j
      · rw [if_pos h3]; congr 3
        cases hw : zj w
        · exact (decide_eq_false fun h => by rw [zd5, hw] at h; cases h.1).symm
        · exact (decide_eq_true ((zd5 t w).2 ⟨hw, h1, h2, h3⟩)).symm
      · rw [if_neg h3, decide_eq_false fun h => h3 ((zd5 t w).1 h).2.2.2]
    · rw [show decide ((2000 : Int) < (t.text.size : Int)) = false by simp; omega, show decide ((30 : Int) < (t.refs.length : Int)) = true by simp; omega]
      simp only [cond_false, cond_true]
      unfold zz
      rw [decide_eq_false fun h => h2 h.refs]
  · rw [show decide ((2000 : Int) < (t.text.size : Int)) = true by simp; omega]
    simp only [cond_true]
    unfold zz
    rw [decide_eq_false fun h => h1 h.text]
theorem znk (l : List Bs) (x : Bs) (w : Int) (hl : l.length ≤ 30) : ∀ i : Nat, i ≤ l.length →
    Lq0 (some 4) [.i w, .i (i : Int), .s x, .l (encS l)] = if (∀ j, i ≤ j → j < l.length → refP l w j) then some [.b true] else some [.b false] := by
  refine zq (f := fun i : Nat => Lq0 (some 4) [.i w, .i (i : Int), .s x, .l (encS l)]) (fun i hi => ?_) ?_
  · show (_ → Lq0 _ _ = _) ∧ (_ → Lq0 _ _ = _)
    rw [eq0_4]
    unfold refP
    by_cases h0 : 0 < i <;> by_cases h1 : ((nth .empty l i).size : Int) = w <;> simp (disch := omega) only [push_cast]
    · cases slt (nth .empty l (i - 1)) (nth .empty l i) <;> simp [h0, h1]
    · simp [h1]
    · simp [h0, h1]
    · simp [h1]
  · show Lq0 _ _ = _
    rw [eq0_4]; simp (disch := omega) only [push_cast]
theorem zcs (t : Thing) (w : Int) : Lq0 none [.s t.text, .l (encS t.refs), .i w] = some [.b (zz t w)] := by
  rw [eq0_i, zt, zbk]
  simp only [Option.bind_some, g, List.getD_cons_zero, Lf.bool]
  unfold zz
  cases hw : zj w
  · simp (disch := omega) only [push_cast]; rw [decide_eq_false (p := ThingOk t w) fun h => by rw [zd5, hw] at h; cases h.1]
  by_cases h1 : t.text.size ≤ 2000
  · by_cases h2 : t.refs.length ≤ 30
    · rw [show decide ((2000 : Int) < (t.text.size : Int)) = false by simp; omega, show decide ((30 : Int) < (t.refs.length : Int)) = false by simp; omega]
      simp only [cond_false, Bool.not_true]
      have := znk t.refs t.text w h2 0 (Nat.zero_le _)
      rw [show ((0 : Nat) : Int) = 0 from rfl] at this
      rw [this]
      by_cases h3 : ∀ j, 0 ≤ j → j < t.refs.length → refP t.refs w j
      · rw [if_pos h3, decide_eq_true ((zd5 t w).2 ⟨hw, h1, h2, h3⟩)]
      · rw [if_neg h3, decide_eq_false fun h => h3 ((zd5 t w).1 h).2.2.2]
    · rw [show decide ((2000 : Int) < (t.text.size : Int)) = false by simp; omega, show decide ((30 : Int) < (t.refs.length : Int)) = true by simp; omega]
      simp only [cond_false, cond_true, Bool.not_true]
      rw [decide_eq_false fun h => h2 h.refs]
  · rw [show decide ((2000 : Int) < (t.text.size : Int)) = true by simp; omega]
    simp only [cond_true, cond_false, Bool.not_true]
    rw [decide_eq_false fun h => h1 h.text]
theorem zgo (n : Int) : IntKind.u64.wrap n = n % 18446744073709551616 := by simp [IntKind.wrap, IntKind.bits, IntKind.signed]
def step1 (h b : Int) : Int := IntKind.u64.wrap ((IntKind.u64.wrap (BitVec.ofInt (IntKind.u64).bits h ^^^ BitVec.ofInt (IntKind.u64).bits (IntKind.u64.wrap b)).toNat) * 1099511628211)
def hash (s : Bs) : Int := (List.range' 0 s.size).foldl (fun h i => step1 h (byteAt s i)) 14695981039346656037
def digs : Nat → Int → List Int
  | 0, _ => []
  | n + 1, h => digs n (h / 256) ++ [h % 256]
theorem zks : ∀ n h, (digs n h).length = n
  | 0, _ => rfl
  | n + 1, h => by simp [digs, zks n]
def rowI (l : List Int) : Rw := l.map fun d => [.i d]
noncomputable def sumM (s : Bs) (w : Int) : Bs := if zj w = true then bytesOf (rowI (digs w.toNat (hash s))) else ⟨#[]⟩
theorem zfb {s : Bs} {w : Int} (h : zj w = true) : ((sumM s w).size : Int) = w := by
  rw [sumM, if_pos h, zcb, rowI, List.length_map, zks]
  have := zw.1 h; omega
theorem zq5 (n : Int) : 0 ≤ IntKind.u64.wrap n ∧ IntKind.u64.wrap n < 18446744073709551616 := by rw [zgo]; omega
theorem zkw (s : Bs) : 0 ≤ hash s ∧ hash s < 18446744073709551616 := by
  unfold hash
  generalize List.range' 0 s.size = l
  have : ∀ (l : List Nat) (h : Int), (0 ≤ h ∧ h < 18446744073709551616) → 0 ≤ l.foldl (fun h i => step1 h (byteAt s i)) h ∧ l.foldl (fun h i => step1 h (byteAt s i)) h < 18446744073709551616 := by
    intro l
    induction l with
    | nil => exact fun h hh => hh
    | cons a l ih => exact fun h _ => ih _ (zq5 _)
  exact this l _ (by omega)
theorem wrI (l : List Int) (i : Nat) (d : Int) (h : i < l.length) : wrs (rowI l) i 0 [.i d] = rowI (l.set i d) := by
  unfold wrs wrs wr rowI
  rw [List.map_set]
  congr 1
  have : (l.map fun d => [C.i d]).getD i [] = [.i l[i]] := by simp [List.getD_eq_getElem?_getD, h]
  rw [this]; rfl
theorem zq2 (n : Nat) : ∀ (h : Int) (l r : List Int), 0 ≤ h → h < 18446744073709551616 → l.length = n → n + r.length ≤ 8 →
    Lqx (some 12) [.i h, .i ((n : Int) - 1), .l (rowI (l ++ r))] = some [.s (bytesOf (rowI (digs n h ++ r)))] := by
  induction n with
  | zero =>
    intro h l r h0 h1 hl hr
    rw [eqx_12]
    have : l = [] := List.eq_nil_of_length_eq_zero hl
    subst this
    simp (disch := omega) only [push_cast] <;> rfl
  | succ n ih =>
    intro h l r h0 h1 hl hr
    rw [eqx_12]
    have hlen : (rowI (l ++ r)).length = n + 1 + r.length := by simp [rowI, hl]
    have e : ((n + 1 : Nat) : Int) - 1 = (n : Int) := by omega
    rw [e, hlen]
    have hu : IntKind.u8.wrap h = h % 256 := by rw [IntKind.wrap_u8]
    simp (disch := omega) only [push_cast, wrI]
    rw [hu, wrI _ _ _ (by simp [hl]; omega)]
    have hset : (l ++ r).set n (h % 256) = l.take n ++ (h % 256 :: r) := by
      rw [List.set_append_left _ _ (by omega)]
      have : l = l.take n ++ [l[n]] := by
        conv => lhs; rw [← List.take_append_drop n l, List.drop_eq_getElem_cons (by omega), List.drop_of_length_le (by omega)]
      conv => lhs; rw [this]
      rw [List.set_append_right _ _ (by simp; omega)]
      simp [hl]
    rw [hset]
    have hf : h.fdiv (2 ^ 8) = h / 256 := by rw [Int.fdiv_eq_ediv_of_nonneg _ (by omega)]; rfl
    rw [hf, ih (h / 256) (l.take n) (h % 256 :: r) (by omega) (by omega) (by simp [hl]) (by simp; omega)]
    simp [digs]
theorem zbl (s : Bs) (w : Int) (hs : s.size ≤ 1099511627776) : Lqx none [.s s, .i w] = some [.s (sumM s w)] := by
  rw [eqx_i, zby]
  unfold sumM
  cases hw : zj w
  · simp (disch := omega) only [push_cast] <;> rfl
  · simp (disch := omega) only [push_cast]
    have := zj5 (f := fun (i : Nat) (h : Int) => Lqx (some 5) [.s s, .i w, .i h, .i (s.size : Int), .i (i : Int)]) (g := fun i h => step1 h (byteAt s i)) (n := s.size) (fun i h hi => by
      show Lqx _ _ = Lqx _ _
      rw [eqx_5]; simp (disch := omega) only [push_cast] <;> rfl) 0 (Nat.zero_le _) 14695981039346656037
    rw [show ((0 : Nat) : Int) = 0 from rfl] at this
    rw [this, Nat.sub_zero, show (List.range' 0 s.size).foldl (fun h i => step1 h (byteAt s i)) 14695981039346656037 = hash s from rfl, eqx_5]
    have h8 := zw.1 hw
    have hr := zkw s
    have hm : (most : Int) = 1099511627776 := rfl
    obtain ⟨n, rfl⟩ : ∃ n : Nat, w = (n : Int) := ⟨w.toNat, by omega⟩
    simp (disch := omega) only [push_cast, hm]
    have h12 := zq2 n (hash s) (List.replicate n 0) [] hr.1 hr.2 (by simp) (by simp; omega)
    rw [List.append_nil, List.append_nil, show rowI (List.replicate n 0) = List.replicate n [C.i 0] by simp [rowI]] at h12
    exact h12
theorem zsj (n : Nat) : ∀ (h : Int) (r : List Int) (w : Nat), 0 ≤ h → h < 18446744073709551616 → r.length + n = w → w ≤ 8 →
    Lqf (some 10) [.i (w : Int), .i h, .i (r.length : Int), .l (rowI r)] = some [.s (bytesOf (rowI (digs n h ++ r)))] := by
  induction n with
  | zero =>
    intro h r w h0 h1 hr hw
    rw [eqf_10]
    simp (disch := omega) only [push_cast] <;> rfl
  | succ n ih =>
    intro h r w h0 h1 hr hw
    rw [eqf_10]
    have hm : most = 1099511627776 := rfl
    have hlen : (rowI r).length = r.length := by simp [rowI]
    have hu : IntKind.u8.wrap (h.tmod 256) = h % 256 := by rw [Int.tmod_eq_emod_of_nonneg h0, w8 (by omega)]
    have hq : IntKind.u64.wrap (h.tdiv 256) = h / 256 := by rw [Int.tdiv_eq_ediv_of_nonneg h0, zgo]; omega
    rw [hu, hq]
    simp (disch := omega) only [push_cast, List.length_cons, List.length_nil, hm, hlen]
    have := ih (h / 256) (h % 256 :: r) w (by omega) (by omega) (by simp; omega) hw
    simp only [List.length_cons] at this
    rw [show ([[C.i (h % 256)]] : Rw) ++ rowI r = rowI (h % 256 :: r) from rfl, show ((r.length : Int) + 1) = ((r.length + 1 : Nat) : Int) by omega, this]
    simp [digs]
theorem zb4 (s : Bs) (w : Int) (hs : s.size ≤ 1099511627776) : Lqf none [.s s, .i w] = some [.s (sumM s w)] := by
  rw [eqf_i, zt]
  unfold sumM
  cases hw : zj w
  · simp (disch := omega) only [push_cast] <;> rfl
  · simp (disch := omega) only [push_cast]
    have := zj5 (f := fun (i : Nat) (h : Int) => Lqf (some 5) [.s s, .i w, .i h, .i (i : Int)]) (g := fun i h => step1 h (byteAt s i)) (n := s.size) (fun i h hi => by
      show Lqf _ _ = Lqf _ _
      rw [eqf_5]; simp (disch := omega) only [push_cast] <;> rfl) 0 (Nat.zero_le _) 14695981039346656037
    rw [show ((0 : Nat) : Int) = 0 from rfl] at this
    rw [this, Nat.sub_zero, show (List.range' 0 s.size).foldl (fun h i => step1 h (byteAt s i)) 14695981039346656037 = hash s from rfl, eqf_5]
    have h8 := zw.1 hw
    have hr := zkw s
    obtain ⟨n, rfl⟩ : ∃ n : Nat, w = (n : Int) := ⟨w.toNat, by omega⟩
    simp (disch := omega) only [push_cast]
    have := zsj n (hash s) [] n hr.1 hr.2 (by simp) (by omega)
    rw [List.append_nil] at this
    exact this
end KV
end
section
namespace KV
open Go Go.Eng
open Classical
theorem mostE : most = 1099511627776 := rfl
theorem zf0 (l : Rw) (h : l.length ≤ 1099511627776) : Lqcb none [.l l] = some [.l l] := by
  rw [eqcb_i, mostE]; simp (disch := omega) only [push_cast]
theorem zfp (x : Bs) (l : Rw) (h : l.length ≤ 1099511627776) : Lqbn none [.s x, .l l] = some [.s x, .l l] := by
  rw [eqbn_i, mostE]; simp (disch := omega) only [push_cast, List.length_nil, List.nil_append]
def szs (l : List Bs) : Nat := (l.map (·.size)).sum
theorem zek (a : Bs) (l : List Bs) : szs (a :: l) = a.size + szs l := rfl
theorem zia (l m : List Bs) : szs (l ++ m) = szs l + szs m := by simp [szs]
theorem zjp (l : List Bs) (i : Nat) : szs (l.take i) ≤ szs l := by
  conv => rhs; rw [← List.take_append_drop i l, zia]
  omega
def hd (n : Nat) : Bs := bytesOf [[.i (IntKind.u8.wrap (n : Int))]]
theorem zcp (n : Nat) : (hd n).size = 1 := by rw [hd, zcb]; rfl
def cat (a : Bs) (l : List Bs) : Bs := l.foldl (· ++ ·) a
theorem zdi (l : List Bs) : ∀ a, (cat a l).size = a.size + szs l := by
  induction l with
  | nil => intro a; rfl
  | cons x l ih => intro a; show (cat (a ++ x) l).size = _; rw [ih, zy, zek]; omega
theorem zfn (a : Bs) (l : List Bs) (i : Nat) (h : i < l.length) : cat a (l.take (i + 1)) = cat a (l.take i) ++ nth .empty l i := by
  unfold cat; rw [zba .empty h, List.foldl_append]; rfl
def formM (t : Thing) : Bs := cat (hd t.refs.length) t.refs ++ t.text
theorem zbh (t : Thing) : (formM t).size = 1 + szs t.refs + t.text.size := by rw [formM, zy, zdi, zcp]
theorem zne (t : Thing) (h : 1 + szs t.refs + t.text.size ≤ 1099511627776) (hl : t.refs.length ≤ 4611686018427387904) : Lq9 none [.s t.text, .l (encS t.refs)] = some [.s (formM t)] := by
  rw [eq9_i]
  have := zbc (f := fun (i : Nat) (a : Bs) => Lq9 (some 3) [.s a, .l (encS t.refs), .i (t.refs.length : Int), .i (i : Int), .s t.text, .l (encS t.refs)]) (n := t.refs.length) (T := some [.s (formM t)])
    (I := fun i a => a = cat (hd t.refs.length) (t.refs.take i)) (fun i a hi hI => ⟨_, by
      show Lq9 _ _ = Lq9 _ _
      rw [eq9_3, mostE]
      have : a.size + (nth .empty t.refs i).size ≤ 1 + szs t.refs := by
        rw [hI, ← zy, ← zfn _ _ _ hi, zdi, zcp]
        have := zjp t.refs (i + 1); omega
      simp (disch := omega) only [push_cast] <;> rfl, by show _ = _; rw [hI, zfn _ _ _ hi]⟩) (fun a hI => by
      show Lq9 _ _ = _
      have : a.size + t.text.size ≤ 1099511627776 := by rw [hI, List.take_length, zdi, zcp]; omega
      rw [eq9_3, mostE]; simp (disch := omega) only [push_cast]
      rw [hI, List.take_length]; rfl) 0 (hd t.refs.length) (Nat.zero_le _) rfl
  rw [zbk]; exact this
theorem zbe {t : Thing} {w : Int} (h : ThingOk t w) : 1 + szs t.refs + t.text.size ≤ 2241 ∧ t.refs.length ≤ 30 := by
  have h1 := h.refs; have h2 := h.text; have h3 := h.wd
  have : ∀ l : List Bs, (∀ r ∈ l, (r.size : Int) = w) → szs l ≤ 8 * l.length := by
    intro l
    induction l with
    | nil => intro _; simp [szs]
    | cons a l ih => intro hl; rw [zek, List.length_cons]; have := hl a (by simp); have := ih fun r hr => hl r (by simp [hr]); omega
  have := this _ h.size
  omega
theorem zbv {t : Thing} {w : Int} (h : ThingOk t w) : Lq9 none [.s t.text, .l (encS t.refs)] = some [.s (formM t)] := by
  have := zbe h
  exact zne t (by omega) (by omega)
noncomputable def formT (t : Thing) (w : Int) : Bs := if zz t w = true then formM t else ⟨#[]⟩
theorem zcq (t : Thing) (w : Int) : Lqr none [.s t.text, .l (encS t.refs), .i w] = some [.s (formT t w)] := by
  rw [eqr_i, zcs]
  unfold formT
  cases ht : zz t w
  · simp (disch := omega) only [push_cast] <;> rfl
  · simp (disch := omega) only [push_cast]
    have hk := zbe (zcl.1 ht)
    have := zbc (f := fun (i : Nat) (a : Rw) => Lqr (some 5) [.i (i : Int), .s t.text, .l (encS t.refs), .l a]) (n := t.refs.length) (T := some [.s (formM t)])
      (I := fun i a => bytesOf a = cat (hd t.refs.length) (t.refs.take i)) (fun i a hi hI => ⟨_, by
        show Lqr _ _ = Lqr _ _
        rw [eqr_5, mostE]
        have : a.length + (nth .empty t.refs i).size ≤ 1 + szs t.refs := by
          rw [← zcb, hI, ← zy, ← zfn _ _ _ hi, zdi, zcp]
          have := zjp t.refs (i + 1); omega
        simp (disch := omega) only [push_cast, ze0] <;> rfl, by show _ = _; rw [zbu, zc3, hI, zfn _ _ _ hi]⟩) (fun a hI => by
        show Lqr _ _ = _
        have : a.length + t.text.size ≤ 1099511627776 := by rw [← zcb, hI, List.take_length, zdi, zcp]; omega
        rw [eqr_5, mostE]; simp (disch := omega) only [push_cast, ze0]
        rw [zbu, zc3, hI, List.take_length]; rfl) 0 [[.i (IntKind.u8.wrap (t.refs.length : Int))]] (Nat.zero_le _) rfl
    exact this
def chunk (s : Bs) (w i : Nat) : Bs := s.extract (1 + i * w) (1 + i * w + w)
def parts (s : Bs) (w : Nat) : Thing := ⟨s.extract (1 + (byteAt s 0).toNat * w) s.size, (List.range (byteAt s 0).toNat).map (chunk s w)⟩
noncomputable def readT (s : Bs) (w : Int) : Option Thing :=
  if zj w = true ∧ 1 ≤ s.size ∧ 1 + (byteAt s 0).toNat * w.toNat ≤ s.size then (if zz (parts s w.toNat) w = true then some (parts s w.toNat) else none) else none
theorem zq0 {s : Bs} {w : Int} (h : zj w = false) : readT s w = none := by unfold readT; rw [if_neg fun h1 => by rw [h] at h1; cases h1.1]
theorem zqc {s : Bs} {w : Int} (h : ¬ 1 ≤ s.size) : readT s w = none := by unfold readT; rw [if_neg fun h1 => h h1.2.1]
theorem zo2 {s : Bs} {n k : Nat} (hk : byteAt s 0 = (k : Int)) (h : ¬ 1 + k * n ≤ s.size) : readT s n = none := by
  unfold readT; rw [if_neg fun h1 => h (by have := h1.2.2; rw [hk] at this; exact this)]
theorem zj1 {s : Bs} {n k : Nat} (hw : zj (n : Int) = true) (h0 : 1 ≤ s.size) (hk : byteAt s 0 = (k : Int)) (h : 1 + k * n ≤ s.size) :
    readT s n = if zz (parts s n) (n : Int) = true then some (parts s n) else none := by
  unfold readT; rw [if_pos ⟨hw, h0, by rw [hk]; exact h⟩]; rfl
def encOT : Option Thing → Lv
  | none => [.s ⟨#[]⟩, .b false, .l []]
  | some t => [.s t.text, .b true, .l (encS t.refs)]
theorem zn0 {b n : Nat} (hb : b ≤ 255) (hn : n ≤ 8) : b * n ≤ 2040 := by
  calc b * n ≤ 255 * 8 := Nat.mul_le_mul hb hn
    _ = 2040 := rfl
theorem zho {α : Type} (f : Nat → α) (i : Nat) : (List.range (i + 1)).map f = (List.range i).map f ++ [f i] := by rw [List.range_succ, List.map_append]; rfl
theorem ztj (s : Bs) (w : Int) (hs : s.size ≤ 1099511627776) : Lqb3 none [.s s, .i w] = some (encOT (readT s w)) := by
  rw [eqb3_i, zt]
  cases hw : zj w
  · simp (disch := omega) only [push_cast, zq0 hw] <;> rfl
  have h8 := zw.1 hw
  obtain ⟨n, rfl⟩ : ∃ n : Nat, w = (n : Int) := ⟨w.toNat, by omega⟩
  have hb := zbg s 0
  obtain ⟨k, hk⟩ : ∃ k : Nat, byteAt s 0 = (k : Int) := ⟨(byteAt s 0).toNat, by omega⟩
  by_cases h0 : 1 ≤ s.size
  · have hkn := zn0 (b := k) (n := n) (by omega) (by omega)
    rw [hk]
    have hc : ((k : Int) * (n : Int)) = ((k * n : Nat) : Int) := by rw [Int.natCast_mul]
    generalize hq : k * n = q at hkn hc
    by_cases h1 : 1 + q ≤ s.size
    · simp (disch := omega) only [push_cast, hc]
      have := zbc (f := fun (i : Nat) (a : List Bs) => Lqb3 (some 6) [.s s, .i (n : Int), .i (k : Int), .i (i : Int), .s ⟨#[]⟩, .s (s.extract (1 + q) s.size), .l [], .l (encS a)]) (n := k) (T := some (encOT (if zz (parts s n) (n : Int) = true then some (parts s n) else none)))
        (I := fun i a => a = (List.range i).map (chunk s n)) (fun i a hi hI => by
          have hin : i * n + n ≤ q := by rw [← hq, ← Nat.succ_mul]; exact Nat.mul_le_mul_right n hi
          have hl2 : a.length = i := by rw [hI]; simp
          have hc2 : ((i : Int) * (n : Int)) = ((i * n : Nat) : Int) := by rw [Int.natCast_mul]
          generalize hr : i * n = r at hin hc2
          refine ⟨a ++ [chunk s n i], ?_, ?_⟩
          · show Lqb3 _ _ = Lqb3 _ _
            rw [eqb3_6, mostE, ← zu]
            have t1 : ((1 : Int) + (r : Int)).toNat = 1 + r := by omega
            have t2 : ((1 : Int) + (r : Int) + (n : Int)).toNat = 1 + r + n := by omega
            have hch : chunk s n i = s.extract (1 + r) (1 + r + n) := by unfold chunk; rw [hr]
            rw [hch]
            simp (disch := omega) only [push_cast, hc2, List.length_cons, List.length_nil, t1, t2] <;> rfl
          · show _ = _
            rw [zho, hI]) (fun a hI => by
          show Lqb3 _ _ = _
          rw [eqb3_6]
          have e1 : s.extract (1 + q) s.size = (parts s n).text := by unfold parts; rw [hk]; show _ = s.extract (1 + k * n) s.size; rw [hq]
          have e2 : a = (parts s n).refs := by rw [hI]; unfold parts; rw [hk]; rfl
          rw [e1, e2]
          simp (disch := omega) only [push_cast, zcs]
          cases zz (parts s n) (n : Int) <;> rfl) 0 [] (Nat.zero_le _) rfl
      rw [zj1 hw h0 hk (by rw [hq]; exact h1)]
      rw [show ((1 : Int) + (q : Int)).toNat = 1 + q by omega]
      exact this
    · simp (disch := omega) only [push_cast, hc, zo2 (n := n) hk (by rw [hq]; exact h1)] <;> rfl
  · simp (disch := omega) only [push_cast, zqc h0] <;> rfl
end KV
end
section
namespace KV
open Go Go.Eng
open Classical
structure Entry where
  kind : Int
  sum : Bs
  name : Bs
  number : Int
  thing : Thing
abbrev E0 : Bs := ⟨#[]⟩
def encE (e : Entry) : Lv := [.i e.kind, .s e.sum, .s e.name, .i e.number, .s e.thing.text, .l (encS e.thing.refs)]
structure NameOk (s : Bs) : Prop where
  lo : 1 ≤ s.size
  hi : s.size ≤ 40
  by_ : ∀ j, 0 ≤ j → j < s.size → 33 ≤ byteAt s j ∧ byteAt s j ≤ 126
noncomputable def nameB (s : Bs) : Bool := decide (NameOk s)
theorem zjb {s : Bs} : nameB s = true ↔ NameOk s := by simp [nameB]
theorem zjv (s : Bs) : (if (∀ j, 0 ≤ j → j < s.size → 33 ≤ byteAt s j ∧ byteAt s j ≤ 126) then cond (decide (1 ≤ (s.size : Int))) (some [Lf.b (decide ((s.size : Int) ≤ 40))]) (some [.b false]) else some [.b false]) = some [.b (nameB s)] := by
  unfold nameB
  by_cases h : ∀ j, 0 ≤ j → j < s.size → 33 ≤ byteAt s j ∧ byteAt s j ≤ 126
  · rw [if_pos h]
    by_cases h1 : 1 ≤ s.size
    · rw [show decide (1 ≤ (s.size : Int)) = true by simp; omega]
      by_cases h2 : s.size ≤ 40
      · rw [decide_eq_true (p := NameOk s) ⟨h1, h2, h⟩, show decide ((s.size : Int) ≤ 40) = true by simp; omega]; rfl
      · rw [decide_eq_false (p := NameOk s) fun h => h2 h.hi, show decide ((s.size : Int) ≤ 40) = false by simp; omega]; rfl
    · rw [decide_eq_false (p := NameOk s) fun h => h1 h.lo, show decide (1 ≤ (s.size : Int)) = false by simp; omega]; rfl
  · rw [if_neg h, decide_eq_false (p := NameOk s) fun h1 => h h1.by_]
theorem zi0 (s : Bs) (hs : s.size ≤ 4611686018427387904) : Lqbc none [.s s] = some [.b (nameB s)] := by
  rw [eqbc_i]
  have := zq (f := fun i : Nat => Lqbc (some 2) [.s s, .i (s.size : Int), .i (i : Int)]) (n := s.size) (P := fun j => 33 ≤ byteAt s j ∧ byteAt s j ≤ 126) (F := some [.b false])
    (T := cond (decide (1 ≤ (s.size : Int))) (some [Lf.b (decide ((s.size : Int) ≤ 40))]) (some [.b false])) (fun i hi => by
      show (_ → Lqbc _ _ = _) ∧ (_ → Lqbc _ _ = _)
      rw [eqbc_2]
      by_cases h1 : 33 ≤ byteAt s i <;> by_cases h2 : byteAt s i ≤ 126 <;> simp (disch := omega) only [push_cast] <;> simp [h1, h2]) (by
      show Lqbc _ _ = _
      rw [eqbc_2, dlt_f (Nat.le_refl _)]; rfl) 0 (Nat.zero_le _)
  rw [zjv] at this
  exact this
theorem zi1 (s : Bs) (hs : s.size ≤ 4611686018427387904) : Lqbe none [.s s] = some [.b (nameB s)] := by
  rw [eqbe_i]
  have := zq (f := fun i : Nat => Lqbe (some 2) [.s s, .i (i : Int)]) (n := s.size) (P := fun j => 33 ≤ byteAt s j ∧ byteAt s j ≤ 126) (F := some [.b false])
    (T := cond (decide (1 ≤ (s.size : Int))) (some [Lf.b (decide ((s.size : Int) ≤ 40))]) (some [.b false])) (fun i hi => by
      show (_ → Lqbe _ _ = _) ∧ (_ → Lqbe _ _ = _)
      rw [eqbe_2]
      by_cases h1 : 33 ≤ byteAt s i <;> by_cases h2 : byteAt s i ≤ 126 <;> simp (disch := omega) only [push_cast] <;> simp [h1, h2]) (by
      show Lqbe _ _ = _
      rw [eqbe_2, dlt_f (Nat.le_refl _)]; rfl) 0 (Nat.zero_le _)
  rw [zjv] at this
  exact this
def uS (k : Int) : Bool := decide (k = 2 ∨ k = 4 ∨ k = 7)
def uN (k : Int) : Bool := decide (k = 2 ∨ k = 3)
theorem zss (k : Int) : Lqcn none [.i k] = some [.b (uS k)] := by
  rw [eqcn_i]; unfold uS
  by_cases h1 : k = 2 <;> by_cases h2 : k = 4 <;> by_cases h3 : k = 7 <;> simp (disch := omega) only [push_cast] <;> simp [h1, h2, h3]
theorem zs0 (k : Int) : Lqco none [.i k] = some [.b (uN k)] := by
  rw [eqco_i]; unfold uN
  by_cases h1 : k = 2 <;> by_cases h2 : k = 3 <;> simp (disch := omega) only [push_cast] <;> simp [h1, h2]
noncomputable def sumB (k : Int) (s : Bs) (w : Int) : Bool := if uS k = true then decide ((s.size : Int) = w) else decide (s = E0)
noncomputable def namB (k : Int) (n : Bs) : Bool := if uN k = true then nameB n else decide (n = E0)
def numB (k m : Int) : Bool := if k = 1 ∨ k = 4 ∨ k = 6 then decide (1 ≤ m ∧ m ≤ 100000) else if k = 5 then decide (1 ≤ m ∧ m ≤ 1000000000) else decide (m = 0)
noncomputable def thgB (k : Int) (t : Thing) (w : Int) : Bool := if k = 1 then zz t w else decide (t.text = E0) && decide (t.refs.length = 0)
noncomputable def zh (e : Entry) (w : Int) : Bool := decide (1 ≤ e.kind ∧ e.kind ≤ 7) && (zj w && (sumB e.kind e.sum w && (namB e.kind e.name && (numB e.kind e.number && thgB e.kind e.thing w))))
theorem zdf (w lo hi k m : Int) (s n : Bs) (t : Thing) : Lqh (some 15) [.i w, .i lo, .i hi, .i k, .s s, .s n, .i m, .s t.text, .l (encS t.refs)] = some [.b (decide (lo ≤ m ∧ m ≤ hi) && thgB k t w)] := by
  rw [eqh_15]; unfold thgB
  by_cases h1 : lo ≤ m
  · by_cases h2 : m ≤ hi
    · by_cases h3 : k = 1
      · simp (disch := omega) only [push_cast, zbp, if_pos h3] <;> simp [h1, h2]
      · by_cases h4 : t.text = E0
        · simp (disch := omega) only [push_cast, if_neg h3] <;> simp [h1, h2, h4]
        · simp (disch := omega) only [push_cast, if_neg h3]; rw [decide_eq_false h4] <;> simp
    · simp (disch := omega) only [push_cast]; rw [decide_eq_false fun h => h2 h.2]; rfl
  · simp (disch := omega) only [push_cast]; rw [decide_eq_false fun h => h1 h.1]; rfl
theorem ztm (w k m : Int) (s n : Bs) (t : Thing) (hk : 1 ≤ k ∧ k ≤ 7) : Lqh (some 7) [.i w, .i k, .s s, .s n, .i m, .s t.text, .l (encS t.refs)] = some [.b (numB k m && thgB k t w)] := by
  rw [eqh_7]; unfold numB
  have : k = 1 ∨ k = 2 ∨ k = 3 ∨ k = 4 ∨ k = 5 ∨ k = 6 ∨ k = 7 := by omega
  rcases this with h | h | h | h | h | h | h
  · subst h; simp (disch := omega) only [push_cast, zdf] <;> simp
  · subst h; simp (disch := omega) only [push_cast]; rw [eqh_13]; simp (disch := omega) only [push_cast, zdf]; rw [show decide (0 ≤ m ∧ m ≤ 0) = decide (m = 0) from decide_eq_decide.2 (by omega)] <;> simp
  · subst h; simp (disch := omega) only [push_cast]; rw [eqh_13]; simp (disch := omega) only [push_cast, zdf]; rw [show decide (0 ≤ m ∧ m ≤ 0) = decide (m = 0) from decide_eq_decide.2 (by omega)] <;> simp
  · subst h; simp (disch := omega) only [push_cast, zdf] <;> simp
  · subst h; simp (disch := omega) only [push_cast]; rw [eqh_13]; simp (disch := omega) only [push_cast, zdf] <;> simp
  · subst h; simp (disch := omega) only [push_cast, zdf] <;> simp
  · subst h; simp (disch := omega) only [push_cast]; rw [eqh_13]; simp (disch := omega) only [push_cast, zdf]; rw [show decide (0 ≤ m ∧ m ≤ 0) = decide (m = 0) from decide_eq_decide.2 (by omega)] <;> simp
theorem zq9 (w k m : Int) (s n : Bs) (t : Thing) (hk : 1 ≤ k ∧ k ≤ 7) (hn : n.size ≤ 4611686018427387904) : Lqh (some 5) [.i w, .i k, .s s, .s n, .i m, .s t.text, .l (encS t.refs)] = some [.b (namB k n && (numB k m && thgB k t w))] := by
  rw [eqh_5]; unfold namB
  rw [zs0, zi0 n hn, ztm w k m s n t hk]
  cases hu : uN k
  · by_cases h : n = E0
    · subst h; simp (disch := omega) only [push_cast] <;> simp
    · simp (disch := omega) only [push_cast] <;> simp [h]
  · cases nameB n
    · simp (disch := omega) only [push_cast] <;> simp
    · simp (disch := omega) only [push_cast] <;> simp
theorem zpd (e : Entry) (w : Int) (hn : e.name.size ≤ 4611686018427387904) : Lqh none (encE e ++ [.i w]) = some [.b (zh e w)] := by
  show Lqh none [.i e.kind, .s e.sum, .s e.name, .i e.number, .s e.thing.text, .l (encS e.thing.refs), .i w] = _
  rw [eqh_i]; unfold zh
  by_cases h1 : 1 ≤ e.kind
  · by_cases h7 : e.kind ≤ 7
    · simp (disch := omega) only [push_cast, zby, zss, zq9 w e.kind e.number e.sum e.name e.thing ⟨h1, h7⟩ hn]
      rw [decide_eq_true (show 1 ≤ e.kind ∧ e.kind ≤ 7 from ⟨h1, h7⟩), Bool.true_and]
      unfold sumB
      cases zj w
      · rfl
      · cases hu : uS e.kind
        · simp (disch := omega) only [push_cast]
          by_cases h : e.sum = E0
          · rw [cpos h]; simp [h]
          · rw [cneg h]; simp [h]
        · simp (disch := omega) only [push_cast]
          by_cases h : (e.sum.size : Int) = w
          · rw [cpos h]; simp [h]
          · rw [cneg h]; simp [h]
    · simp (disch := omega) only [push_cast]; rw [decide_eq_false fun h => h7 h.2]; rfl
  · simp (disch := omega) only [push_cast]; rw [decide_eq_false fun h => h1 h.1]; rfl
theorem zqg (w k m : Int) (s n : Bs) (t : Thing) (b : Bool) (hb : b = decide (k = 1)) : Lqn (some 8) [.i w, .b b, .i k, .s s, .s n, .i m, .s t.text, .l (encS t.refs)] = some [.b (thgB k t w)] := by
  subst hb
  rw [eqn_8]; unfold thgB
  by_cases h : k = 1
  · simp (disch := omega) only [push_cast, zcs, if_pos h]
  · simp (disch := omega) only [push_cast, if_neg h]
    by_cases h4 : t.text = E0
    · rw [cpos h4]; simp [h4]
    · rw [cneg h4]; simp [h4]
theorem zns (w k m : Int) (s n : Bs) (t : Thing) (a b : Bool) (ha : a = uN k) (hb : b = decide (k = 1)) (hn : n.size ≤ 4611686018427387904) :
    Lqn (some 6) [.i w, .b a, .b b, .i k, .s s, .s n, .i m, .s t.text, .l (encS t.refs)] = some [.b (namB k n && thgB k t w)] := by
  subst ha
  rw [eqn_6, zi1 n hn, zqg w k m s n t b hb]; unfold namB
  cases hu : uN k
  · simp (disch := omega) only [push_cast]
    by_cases h : n = E0
    · rw [cpos h]; simp [h]
    · rw [cneg h]; simp [h]
  · cases nameB n
    · simp (disch := omega) only [push_cast] <;> simp
    · simp (disch := omega) only [push_cast] <;> simp
theorem zmj (m u : Int) : Lqcj none [.i m, .i u] = some [.b (if u = 1 then decide (1 ≤ m ∧ m ≤ 100000) else if u = 2 then decide (1 ≤ m ∧ m ≤ 1000000000) else decide (m = 0))] := by
  rw [eqcj_i]
  by_cases h1 : u = 1
  · subst h1; simp (disch := omega) only [push_cast]
    by_cases h : 1 ≤ m
    · simp (disch := omega) only [push_cast] <;> simp [h]
    · simp (disch := omega) only [push_cast] <;> simp [h]
  · by_cases h2 : u = 2
    · subst h2; simp (disch := omega) only [push_cast]
      by_cases h : 1 ≤ m
      · simp (disch := omega) only [push_cast] <;> simp [h]
      · simp (disch := omega) only [push_cast] <;> simp [h]
    · simp (disch := omega) only [push_cast] <;> simp [h1, h2]
def nU (k : Int) : Int := if k = 1 ∨ k = 4 ∨ k = 6 then 1 else if k = 5 then 2 else 0
theorem zhq (k : Int) (hk : 1 ≤ k ∧ k ≤ 7) : Lqci none [.i k] = some [.b (uS k), .b (uN k), .i (nU k), .b (decide (k = 1))] := by
  rw [eqci_i]
  have : k = 1 ∨ k = 2 ∨ k = 3 ∨ k = 4 ∨ k = 5 ∨ k = 6 ∨ k = 7 := by omega
  rcases this with h | h | h | h | h | h | h <;> rw [h] <;> rfl
theorem zqd (k m : Int) (hk : 1 ≤ k ∧ k ≤ 7) : Lqcj none [.i m, .i (nU k)] = some [.b (numB k m)] := by
  rw [zmj]
  have : k = 1 ∨ k = 2 ∨ k = 3 ∨ k = 4 ∨ k = 5 ∨ k = 6 ∨ k = 7 := by omega
  rcases this with h | h | h | h | h | h | h <;> rw [h] <;> rfl
theorem zey (e : Entry) (w : Int) (hn : e.name.size ≤ 4611686018427387904) : Lqn none (encE e ++ [.i w]) = some [.b (zh e w)] := by
  show Lqn none [.i e.kind, .s e.sum, .s e.name, .i e.number, .s e.thing.text, .l (encS e.thing.refs), .i w] = _
  rw [eqn_i, zt]; unfold zh
  cases zj w
  · simp (disch := omega) only [push_cast] <;> simp
  by_cases h1 : 1 ≤ e.kind
  · by_cases h7 : e.kind ≤ 7
    · rw [decide_eq_true (show 1 ≤ e.kind ∧ e.kind ≤ 7 from ⟨h1, h7⟩), Bool.true_and, Bool.true_and]
      simp (disch := omega) only [push_cast, zhq e.kind ⟨h1, h7⟩, zqd e.kind e.number ⟨h1, h7⟩, zns w e.kind e.number e.sum e.name e.thing _ _ rfl rfl hn]
      unfold sumB
      cases hus : uS e.kind
      · by_cases h : e.sum = E0
        · cases numB e.kind e.number <;> simp (disch := omega) only [push_cast] <;> simp [h]
        · simp (disch := omega) only [push_cast] <;> simp [h]
      · by_cases h : (e.sum.size : Int) = w
        · cases numB e.kind e.number <;> simp (disch := omega) only [push_cast] <;> simp [h]
        · simp (disch := omega) only [push_cast] <;> simp [h]
    · simp (disch := omega) only [push_cast]; rw [decide_eq_false fun h => h7 h.2]; rfl
  · simp (disch := omega) only [push_cast]; rw [decide_eq_false fun h => h1 h.1]; rfl
end KV
end
section
namespace KV
open Go Go.Eng
open Classical
theorem EntryOk.kd {e : Entry} {w : Int} (h : zh e w = true) : 1 ≤ e.kind ∧ e.kind ≤ 7 := by
  unfold zh at h; simp only [Bool.and_eq_true, decide_eq_true_eq] at h; exact h.1
theorem EntryOk.wd {e : Entry} {w : Int} (h : zh e w = true) : zj w = true := by
  unfold zh at h; simp only [Bool.and_eq_true, decide_eq_true_eq] at h; exact h.2.1
theorem EntryOk.nm {e : Entry} {w : Int} (h : zh e w = true) : e.name.size ≤ 40 := by
  unfold zh namB at h; simp only [Bool.and_eq_true, decide_eq_true_eq] at h
  have := h.2.2.2.1
  split at this
  · exact (zjb.1 this).hi
  · have := of_decide_eq_true this; rw [this]; decide
theorem EntryOk.num {e : Entry} {w : Int} (h : zh e w = true) : 0 ≤ e.number ∧ e.number ≤ 1000000000 := by
  unfold zh numB at h; simp only [Bool.and_eq_true, decide_eq_true_eq] at h
  have := h.2.2.2.2.1
  split at this
  · have := of_decide_eq_true this; omega
  · split at this
    · have := of_decide_eq_true this; omega
    · have := of_decide_eq_true this; omega
theorem EntryOk.sum {e : Entry} {w : Int} (h : zh e w = true) : e.sum.size ≤ 8 := by
  have hw := zw.1 (EntryOk.wd h)
  unfold zh sumB at h; simp only [Bool.and_eq_true, decide_eq_true_eq] at h
  have := h.2.2.1
  split at this
  · have := of_decide_eq_true this; omega
  · have := of_decide_eq_true this; rw [this]; decide
theorem EntryOk.thing {e : Entry} {w : Int} (h : zh e w = true) (hk : e.kind = 1) : ThingOk e.thing w := by
  unfold zh thgB at h; simp only [Bool.and_eq_true, decide_eq_true_eq, if_pos hk] at h
  exact zcl.1 h.2.2.2.2.2
theorem EntryOk.nothing {e : Entry} {w : Int} (h : zh e w = true) (hk : e.kind ≠ 1) : e.thing = ⟨E0, []⟩ := by
  unfold zh thgB at h; simp only [Bool.and_eq_true, decide_eq_true_eq, if_neg hk] at h
  have h1 := h.2.2.2.2.2
  have a : e.thing.text = E0 := h1.1
  have b : e.thing.refs = [] := List.eq_nil_of_length_eq_zero h1.2
  have : e.thing = ⟨e.thing.text, e.thing.refs⟩ := rfl
  rw [this, a, b]
def hd6 (k m : Int) (n : Nat) : Bs := bytesOf [[.i k], [.i (m / 16777216)], [.i (m / 65536 % 256)], [.i (m / 256 % 256)], [.i (m % 256)], [.i (n : Int)]]
theorem zeb (k m : Int) (n : Nat) : (hd6 k m n).size = 6 := by rw [hd6, zcb]; rfl
def formE (e : Entry) : Bs := hd6 e.kind e.number e.name.size ++ e.name ++ e.sum ++ (if e.kind = 1 then formM e.thing else E0)
theorem zd9 (s : Bs) : s ++ E0 = s := by
  apply Go.WideShapes.bytes_inj; simp [ByteArray.data_append]
theorem zdy (a b c : Bs) : a ++ b ++ c = a ++ (b ++ c) := by
  apply Go.WideShapes.bytes_inj; simp [ByteArray.data_append]
theorem zi7 {e : Entry} {w : Int} (h : zh e w = true) : (formE e).size ≤ 2295 ∧ 6 ≤ (formE e).size := by
  unfold formE
  rw [zy, zy, zy, zeb]
  have h1 := EntryOk.nm h; have h2 := EntryOk.sum h
  split
  · rename_i hk
    have h3 := zbe (EntryOk.thing h hk)
    rw [zbh]; omega
  · have : E0.size = 0 := rfl
    omega
theorem zp0 {m : Int} (h : 0 ≤ m ∧ m ≤ 1000000000) : IntKind.u8.wrap (IntKind.i64.wrap (m.tdiv 16777216)) = m / 16777216 ∧ IntKind.u8.wrap ((IntKind.i64.wrap (m.tdiv 65536)).tmod 256) = m / 65536 % 256 ∧ IntKind.u8.wrap ((IntKind.i64.wrap (m.tdiv 256)).tmod 256) = m / 256 % 256 ∧ IntKind.u8.wrap (m.tmod 256) = m % 256 := by
  rw [Int.tdiv_eq_ediv_of_nonneg h.1, Int.tdiv_eq_ediv_of_nonneg h.1, Int.tdiv_eq_ediv_of_nonneg h.1, Int.tmod_eq_emod_of_nonneg h.1, w64 (by omega), w64 (by omega), w64 (by omega), Int.tmod_eq_emod_of_nonneg (by omega), Int.tmod_eq_emod_of_nonneg (by omega)]
  exact ⟨w8 (by omega), w8 (by omega), w8 (by omega), w8 (by omega)⟩
theorem zf3 (e : Entry) (w : Int) (hn : e.name.size ≤ 4611686018427387904) : Lqbi none (encE e ++ [.i w]) = some [.s (if zh e w = true then formE e else E0)] := by
  show Lqbi none [.i e.kind, .s e.sum, .s e.name, .i e.number, .s e.thing.text, .l (encS e.thing.refs), .i w] = _
  rw [eqbi_i]
  rw [show Lqn none [.i e.kind, .s e.sum, .s e.name, .i e.number, .s e.thing.text, .l (encS e.thing.refs), .i w] = _ from zey e w hn]
  cases he : zh e w
  · simp (disch := omega) only [push_cast] <;> rfl
  have hk := EntryOk.kd he; have hnm := EntryOk.nm he; have hsm := EntryOk.sum he; have hnum := EntryOk.num he
  obtain ⟨b1, b2, b3, b4⟩ := zp0 hnum
  rw [b1, b2, b3, b4, w8 (n := (e.name.size : Int)) (by omega), w8 (n := e.kind) (by omega)]
  generalize hr : ([[C.i e.kind], [.i (e.number / 16777216)], [.i (e.number / 65536 % 256)], [.i (e.number / 256 % 256)], [.i (e.number % 256)], [.i (e.name.size : Int)]] : Rw) = r
  have h6 : bytesOf r = hd6 e.kind e.number e.name.size := by rw [← hr]; rfl
  have hl : r.length = 6 := by rw [← hr]; rfl
  simp (disch := omega) only [push_cast, mostE, List.length_append, ze0, hl]
  unfold formE
  by_cases h1 : e.kind = 1
  · have h3 := zbe (EntryOk.thing he h1)
    have hs := zbh e.thing
    simp (disch := omega) only [push_cast, zcq, formT, if_pos (zcl.2 (EntryOk.thing he h1)), ze0, if_pos h1]
    rw [zbu, zbu, zbu, zc3, zc3, zc3, h6]
  · simp (disch := omega) only [push_cast, if_neg h1]; rw [zd9, zbu, zbu, zc3, zc3, h6]
theorem zb0 (s : Bs) {a b c : Nat} (h1 : a ≤ b) (h2 : b ≤ c) : s.extract a b ++ s.extract b c = s.extract a c := by
  apply Go.WideShapes.bytes_inj
  simp only [ByteArray.data_append, ByteArray.data_extract, Array.toList_append, Array.toList_extract, List.extract_eq_take_drop]
  apply List.ext_getElem?
  intro i
  rw [List.getElem?_append]
  simp only [List.length_take, List.length_drop, Array.length_toList, List.getElem?_take, List.getElem?_drop]
  have hs : ∀ j, s.data.size ≤ j → s.data.toList[j]? = none := fun j hj => List.getElem?_eq_none (by simpa using hj)
  by_cases h : i < min (b - a) (s.data.size - a)
  · rw [if_pos h, if_pos (by omega), if_pos (by omega)]
  · rw [if_neg h]
    by_cases h3 : i < c - a
    · by_cases h4 : b - a ≤ s.data.size - a
      · rw [if_pos h3, if_pos (by omega)]; congr 1; omega
      · rw [if_pos h3, hs (a + i) (by omega)]
        split
        · exact hs _ (by omega)
        · rfl
    · by_cases h4 : b - a ≤ s.data.size - a
      · rw [if_neg h3, if_neg (by omega)]
      · rw [if_neg h3]
        split
        · exact hs _ (by omega)
        · rfl
theorem zda (s : Bs) : s.extract 0 s.size = s := by
  apply Go.WideShapes.bytes_inj
  simp only [ByteArray.data_extract, Array.toList_extract, List.extract_eq_take_drop]
  rw [List.drop_zero, Nat.sub_zero, List.take_of_length_le]
  show s.data.toList.length ≤ s.data.size
  rw [Array.length_toList]; exact Nat.le_refl _
theorem zc7 (s : Bs) (i : Nat) (h : i < s.size) : s.extract i (i + 1) = bytesOf [[.i (byteAt s i)]] := by
  apply Go.WideShapes.bytes_inj
  have h' : i < s.data.toList.length := by simpa using h
  simp only [ByteArray.data_extract, Array.toList_extract, List.extract_eq_take_drop]
  rw [List.drop_eq_getElem_cons h', show i + 1 - i = 1 by omega]
  simp only [List.take_succ_cons, List.take_zero]
  show _ = [UInt8.ofNat (byteAt s i).toNat]
  have : s.data.getD i 0 = s.data.toList[i] := by simp [Array.getD]; rw [dif_pos h]
  rw [byteAt, this, Int.toNat_natCast, UInt8.ofNat_toNat]
theorem zlj {s : Bs} {w : Int} {t : Thing} (h : readT s w = some t) : formM t = s ∧ ThingOk t w := by
  unfold readT at h
  split at h
  · rename_i hc
    split at h
    · rename_i ht
      cases h
      refine ⟨?_, zcl.1 ht⟩
      have hb := zbg s 0
      obtain ⟨k, hk⟩ : ∃ k : Nat, byteAt s 0 = (k : Int) := ⟨(byteAt s 0).toNat, by omega⟩
      have hkn : (byteAt s 0).toNat = k := by rw [hk]; rfl
      obtain ⟨hw, h0, h1⟩ := hc
      rw [hkn] at h1
      unfold formM parts
      simp only [List.length_map, List.length_range, hkn]
      have hcat : ∀ i, i ≤ k → cat (hd k) ((List.range i).map (chunk s w.toNat)) = s.extract 0 (1 + i * w.toNat) := by
        intro i
        induction i with
        | zero =>
          intro _
          rw [Nat.zero_mul, zc7 s 0 (by omega)]
          show hd k = _
          unfold hd
          rw [hk, w8 (by omega)]
        | succ i ih =>
          intro hi
          have hm : (i + 1) * w.toNat = i * w.toNat + w.toNat := Nat.succ_mul _ _
          have hm2 : (i + 1) * w.toNat ≤ k * w.toNat := Nat.mul_le_mul_right _ hi
          unfold cat at ih ⊢
          rw [zho, List.foldl_append, ih (by omega)]
          show _ ++ chunk s w.toNat i = _
          unfold chunk
          rw [zb0 s (by omega) (by omega), hm]; congr 1; omega
      rw [hcat k (Nat.le_refl _), zb0 s (by omega) h1, zda]
    · cases h
  · cases h
theorem zh1 (a b : Bs) (i j : Nat) (h : j ≤ a.size) : (a ++ b).extract i j = a.extract i j := by
  apply Go.WideShapes.bytes_inj
  simp only [ByteArray.data_append, ByteArray.data_extract, Array.toList_append, Array.toList_extract, List.extract_eq_take_drop]
  apply List.ext_getElem?
  intro n
  simp only [List.getElem?_take, List.getElem?_drop]
  have h' : j ≤ a.data.toList.length := by simpa using h
  split
  · rw [List.getElem?_append_left (by omega)]
  · rfl
theorem zd1 (a b : Bs) (i j : Nat) : (a ++ b).extract (a.size + i) (a.size + j) = b.extract i j := by
  apply Go.WideShapes.bytes_inj
  simp only [ByteArray.data_append, ByteArray.data_extract, Array.toList_append, Array.toList_extract, List.extract_eq_take_drop]
  have h' : a.data.toList.length = a.size := by simp
  rw [List.drop_append, h', List.drop_of_length_le (by omega)]
  simp only [List.nil_append]
  congr 1
  · omega
  · congr 1; omega
theorem zjt (a b : Bs) (i : Nat) (h : i < a.size) : byteAt (a ++ b) i = byteAt a i := by
  unfold byteAt
  have h1 : i < a.data.size := h
  simp [Array.getD, ByteArray.data_append, Array.getElem_append]
  rw [dif_pos (by omega), dif_pos h, dif_pos h]
theorem zjd (xs : Rw) (i : Nat) (n : Int) (h : xs[i]? = some [.i n]) (hn : 0 ≤ n ∧ n ≤ 255) : byteAt (bytesOf xs) i = n := by
  have hi : i < xs.length := by
    rcases Nat.lt_or_ge i xs.length with h1 | h1
    · exact h1
    · rw [List.getElem?_eq_none h1] at h; cases h
  have hx : xs[i] = [C.i n] := by rw [List.getElem?_eq_getElem hi] at h; exact Option.some.inj h
  unfold byteAt bytesOf
  simp only [Array.getD, List.size_toArray, List.length_map, hi, dite_true]
  simp only [Array.getInternal_eq_getElem, List.getElem_toArray, List.getElem_map, hx]
  simp only [List.getD_cons_zero, C.int]
  rw [UInt8.toNat_ofNat']; omega
theorem zgz (a : Bs) (l : List Bs) : cat a l = a ++ cat E0 l := by
  induction l generalizing a with
  | nil => exact (zd9 a).symm
  | cons x l ih =>
    show cat (a ++ x) l = a ++ cat (E0 ++ x) l
    rw [ih (a ++ x), ih (E0 ++ x), zdy]
    congr 1
theorem zk6 (s : Bs) : E0 ++ s = s := by apply Go.WideShapes.bytes_inj; simp [ByteArray.data_append]
theorem zly (w : Nat) : ∀ (l : List Bs) (x : Bs), (∀ r ∈ l, r.size = w) → ∀ i, i < l.length → (cat E0 l ++ x).extract (i * w) (i * w + w) = nth .empty l i
  | [], _, _, i, h => by simp at h
  | r :: l, x, hl, i, h => by
    have hr : r.size = w := hl r (by simp)
    have e : cat E0 (r :: l) = r ++ cat E0 l := by show cat (E0 ++ r) l = _; rw [zgz, zk6]
    rw [e, zdy]
    cases i with
    | zero => rw [Nat.zero_mul, Nat.zero_add, zh1 _ _ _ _ (by omega), ← hr, zda]; rfl
    | succ i =>
      have h1 := zly w l x (fun r hr => hl r (by simp [hr])) i (by simpa using h)
      have e3 : (i + 1) * w + w = r.size + (i * w + w) := by rw [Nat.succ_mul]; omega
      have e2 : (i + 1) * w = r.size + i * w := by rw [Nat.succ_mul]; omega
      rw [e3, e2, zd1, zdc, h1]
theorem zhg {t : Thing} {w : Int} (h : ThingOk t w) : readT (formM t) w = some t := by
  have hw := h.wd
  obtain ⟨n, rfl⟩ : ∃ n : Nat, w = (n : Int) := ⟨w.toNat, by omega⟩
  have hsz : ∀ r ∈ t.refs, r.size = n := fun r hr => by have := h.size r hr; omega
  have hrf := h.refs
  have hs := zbh t
  have hk : byteAt (formM t) 0 = (t.refs.length : Int) := by
    unfold formM
    rw [zgz, zdy, zjt _ _ _ (by rw [zcp]; omega)]
    unfold hd
    exact zjd _ _ _ (by rw [w8 (by omega)]; rfl) (by omega)
  have hszs : ∀ l : List Bs, (∀ r ∈ l, r.size = n) → szs l = l.length * n := by
    intro l
    induction l with
    | nil => intro _; simp [szs]
    | cons a l ih => intro hl; rw [zek, List.length_cons, Nat.succ_mul, ih fun r hr => hl r (by simp [hr]), hl a (by simp)]; omega
  have hz := hszs _ hsz
  have hp : parts (formM t) n = t := by
    unfold parts
    rw [hk, Int.toNat_natCast]
    obtain ⟨x, l⟩ := t
    simp only at hs hz hsz ⊢
    have hcs : (cat (hd l.length) l).size = 1 + l.length * n := by rw [zdi, zcp, hz]
    congr 1
    · unfold formM; simp only
      have := zd1 (cat (hd l.length) l) x 0 x.size
      rw [zda, hcs, Nat.add_zero] at this
      rw [zy, hcs]; exact this
    · apply List.ext_getElem
      · simp
      · intro i h1 h2
        simp only [List.getElem_map, List.getElem_range]
        rw [← zk .empty l i h2, ← zly n l x hsz i h2]
        unfold chunk formM; simp only
        rw [zgz, zdy]
        have := zd1 (hd l.length) (cat E0 l ++ x) (i * n) (i * n + n)
        rw [zcp] at this
        rw [← this]; congr 1; omega
  rw [zj1 (n := n) (zw.2 hw) (by omega) hk (by omega), hp, if_pos (zcl.2 h)]
def num4 (s : Bs) : Int := byteAt s 1 * 16777216 + byteAt s 2 * 65536 + byteAt s 3 * 256 + byteAt s 4
def nmEnd (s : Bs) : Nat := 6 + (byteAt s 5).toNat
noncomputable def readE (s : Bs) (w : Int) : Option Entry :=
  if zj w = true ∧ 6 ≤ s.size ∧ nmEnd s ≤ s.size then
    (if byteAt s 0 = 1 then (match readT (s.extract (nmEnd s) s.size) w with
      | none => none
      | some t => if zh ⟨1, E0, s.extract 6 (nmEnd s), num4 s, t⟩ w = true then some ⟨1, E0, s.extract 6 (nmEnd s), num4 s, t⟩ else none)
    else if zh ⟨byteAt s 0, s.extract (nmEnd s) s.size, s.extract 6 (nmEnd s), num4 s, ⟨E0, []⟩⟩ w = true then some ⟨byteAt s 0, s.extract (nmEnd s) s.size, s.extract 6 (nmEnd s), num4 s, ⟨E0, []⟩⟩ else none)
  else none
theorem zo7 (s : Bs) (h : 6 ≤ s.size) : hd6 (byteAt s 0) (num4 s) (byteAt s 5).toNat = s.extract 0 6 := by
  have b0 := zbg s 0; have b1 := zbg s 1; have b2 := zbg s 2; have b3 := zbg s 3; have b4 := zbg s 4; have b5 := zbg s 5
  unfold hd6 num4
  have e : ∀ a b c d e f : Int, bytesOf [[.i a], [.i b], [.i c], [.i d], [.i e], [.i f]] = bytesOf [[.i a]] ++ bytesOf [[.i b]] ++ bytesOf [[.i c]] ++ bytesOf [[.i d]] ++ bytesOf [[.i e]] ++ bytesOf [[.i f]] := fun a b c d e f => by
    rw [← zbu, ← zbu, ← zbu, ← zbu, ← zbu]; rfl
  have n1 : (byteAt s 1 * 16777216 + byteAt s 2 * 65536 + byteAt s 3 * 256 + byteAt s 4) / 16777216 = byteAt s 1 := by omega
  have n2 : (byteAt s 1 * 16777216 + byteAt s 2 * 65536 + byteAt s 3 * 256 + byteAt s 4) / 65536 % 256 = byteAt s 2 := by omega
  have n3 : (byteAt s 1 * 16777216 + byteAt s 2 * 65536 + byteAt s 3 * 256 + byteAt s 4) / 256 % 256 = byteAt s 3 := by omega
  have n4 : (byteAt s 1 * 16777216 + byteAt s 2 * 65536 + byteAt s 3 * 256 + byteAt s 4) % 256 = byteAt s 4 := by omega
  have n5 : (((byteAt s 5).toNat : Nat) : Int) = byteAt s 5 := by omega
  rw [n1, n2, n3, n4, n5, e, ← zc7 s 0 (by omega), ← zc7 s 1 (by omega), ← zc7 s 2 (by omega), ← zc7 s 3 (by omega), ← zc7 s 4 (by omega), ← zc7 s 5 (by omega)]
  rw [zb0 s (by omega) (by omega), zb0 s (by omega) (by omega), zb0 s (by omega) (by omega), zb0 s (by omega) (by omega), zb0 s (by omega) (by omega)]
theorem zfd (s : Bs) (x : Thing) (h6 : 6 ≤ s.size) (h : nmEnd s ≤ s.size) (a : Bs) (hx : (if byteAt s 0 = 1 then formM x else E0) = (if byteAt s 0 = 1 then s.extract (nmEnd s) s.size else E0)) (ha : a = if byteAt s 0 = 1 then E0 else s.extract (nmEnd s) s.size) :
    formE ⟨byteAt s 0, a, s.extract 6 (nmEnd s), num4 s, x⟩ = s := by
  unfold formE
  simp only
  have hn : (s.extract 6 (nmEnd s)).size = (byteAt s 5).toNat := by rw [size_extract]; unfold nmEnd at h ⊢; omega
  rw [hn, zo7 s h6, zb0 s (by omega) (by unfold nmEnd; omega), hx, ha]
  split
  · rw [zd9, zb0 s (by omega) h, zda]
  · rw [zd9, zb0 s (by omega) h, zda]
theorem zik {s : Bs} {w : Int} {e : Entry} (h : readE s w = some e) : formE e = s ∧ zh e w = true := by
  unfold readE at h
  split at h
  · rename_i hc
    obtain ⟨hw, h6, hl⟩ := hc
    split at h
    · rename_i h1
      cases ht : readT (s.extract (nmEnd s) s.size) w with
      | none => rw [ht] at h; cases h
      | some t =>
        rw [ht] at h
        simp only at h
        split at h
        · rename_i he
          cases h
          refine ⟨?_, he⟩
          have := zfd s t h6 hl E0 (by rw [if_pos h1, if_pos h1, (zlj ht).1]) (by rw [if_pos h1])
          rw [h1] at this; exact this
        · cases h
    · rename_i h1
      split at h
      · rename_i he
        cases h
        exact ⟨zfd s ⟨E0, []⟩ h6 hl _ (by rw [if_neg h1, if_neg h1]) (by rw [if_neg h1]), he⟩
      · cases h
  · cases h
theorem zqu {k m : Int} {n : Nat} (x : Bs) (hk : 0 ≤ k ∧ k ≤ 255) (hm : 0 ≤ m ∧ m < 4294967296) (hn : n ≤ 255) :
    byteAt (hd6 k m n ++ x) 0 = k ∧ num4 (hd6 k m n ++ x) = m ∧ byteAt (hd6 k m n ++ x) 5 = n := by
  have hs := zeb k m n
  have b : ∀ i v, i < 6 → ([[C.i k], [.i (m / 16777216)], [.i (m / 65536 % 256)], [.i (m / 256 % 256)], [.i (m % 256)], [.i (n : Int)]] : Rw)[i]? = some [.i v] → (0 ≤ v ∧ v ≤ 255) → byteAt (hd6 k m n ++ x) i = v := fun i v hi h1 h2 => by
    rw [zjt _ _ _ (by omega)]; exact zjd _ _ _ h1 h2
  refine ⟨b 0 k (by omega) rfl hk, ?_, b 5 n (by omega) rfl (by omega)⟩
  unfold num4
  rw [b 1 (m / 16777216) (by omega) rfl (by omega), b 2 (m / 65536 % 256) (by omega) rfl (by omega), b 3 (m / 256 % 256) (by omega) rfl (by omega), b 4 (m % 256) (by omega) rfl (by omega)]
  omega
theorem zgx {e : Entry} {w : Int} (h : zh e w = true) : readE (formE e) w = some e := by
  have hk := EntryOk.kd h; have hnm := EntryOk.nm h; have hsm := EntryOk.sum h; have hnum := EntryOk.num h
  have hform : formE e = hd6 e.kind e.number e.name.size ++ (e.name ++ (e.sum ++ (if e.kind = 1 then formM e.thing else E0))) := by unfold formE; rw [zdy, zdy]
  obtain ⟨c0, c1, c2⟩ := zqu (k := e.kind) (m := e.number) (n := e.name.size) (e.name ++ (e.sum ++ (if e.kind = 1 then formM e.thing else E0))) (by omega) (by omega) (by omega)
  rw [← hform] at c0 c1 c2
  have hs : (formE e).size = 6 + (e.name.size + (e.sum.size + (if e.kind = 1 then formM e.thing else E0).size)) := by rw [hform, zy, zy, zy, zeb]
  have hend : nmEnd (formE e) = 6 + e.name.size := by unfold nmEnd; rw [c2]; rfl
  have x1 : (formE e).extract 6 (6 + e.name.size) = e.name := by
    have := zd1 (hd6 e.kind e.number e.name.size) (e.name ++ (e.sum ++ (if e.kind = 1 then formM e.thing else E0))) 0 e.name.size
    rw [← hform, zeb] at this
    rw [show (6 : Nat) = 6 + 0 from rfl, show 6 + 0 + e.name.size = 6 + e.name.size by omega, this, zh1 _ _ _ _ (Nat.le_refl _), zda]
  have x2 : (formE e).extract (6 + e.name.size) (formE e).size = e.sum ++ (if e.kind = 1 then formM e.thing else E0) := by
    have h1 := zd1 (hd6 e.kind e.number e.name.size) (e.name ++ (e.sum ++ (if e.kind = 1 then formM e.thing else E0))) (e.name.size + 0) (e.name.size + (e.sum ++ (if e.kind = 1 then formM e.thing else E0)).size)
    have h2 := zd1 e.name (e.sum ++ (if e.kind = 1 then formM e.thing else E0)) 0 (e.sum ++ (if e.kind = 1 then formM e.thing else E0)).size
    rw [zda] at h2
    rw [h2, ← hform, zeb] at h1
    rw [hs, ← h1, zy]; congr 1
  unfold readE
  rw [if_pos ⟨EntryOk.wd h, by omega, by rw [hend]; omega⟩, hend, x1, x2, c0, c1]
  obtain ⟨k, sm, nm, m, t⟩ := e
  simp only at *
  by_cases h1 : k = 1
  · have hsum : sm = E0 := by
      unfold zh sumB uS at h; simp only [Bool.and_eq_true, decide_eq_true_eq] at h
      have := h.2.2.1
      rw [if_neg (by omega)] at this
      exact of_decide_eq_true this
    rw [if_pos h1, if_pos h1, hsum, zk6, zhg (EntryOk.thing h h1)]
    subst h1; subst hsum
    simp only
    rw [if_pos h]
  · have ht : t = ⟨E0, []⟩ := EntryOk.nothing h h1
    subst ht
    rw [if_neg h1, if_neg h1, zd9, if_pos h]
end KV
end
section
namespace KV
open Go Go.Eng
open Classical
def encOE : Option Entry → Lv
  | none => [.i 0, .s E0, .s E0, .i 0, .s E0, .b false, .l []]
  | some e => [.i e.kind, .s e.sum, .s e.name, .i e.number, .s e.thing.text, .b true, .l (encS e.thing.refs)]
theorem zoh {s : Bs} {w : Int} (h : zj w = false) : readE s w = none := by unfold readE; rw [if_neg fun h1 => by rw [h] at h1; cases h1.1]
theorem zqx {s : Bs} {w : Int} (h : ¬ 6 ≤ s.size) : readE s w = none := by unfold readE; rw [if_neg fun h1 => h h1.2.1]
theorem ztf {s : Bs} {w : Int} (h : ¬ nmEnd s ≤ s.size) : readE s w = none := by unfold readE; rw [if_neg fun h1 => h h1.2.2]
theorem zhd (s : Bs) (w k : Int) (a nm : Bs) (m : Int) (t : Thing) (z1 z2 : Int) (y1 y2 y3 : Bs) (y4 : Rw) (hn : nm.size ≤ 4611686018427387904) :
    Lqcc (some 9) [.s s, .i w, .i z1, .s y1, .s y2, .i z2, .s y3, .i k, .s a, .s nm, .i m, .s t.text, .l (encS t.refs), .l y4] = some (if zh ⟨k, a, nm, m, t⟩ w = true ∧ formE ⟨k, a, nm, m, t⟩ = s then encOE (some ⟨k, a, nm, m, t⟩) else encOE none) := by
  rw [eqcc_9]
  have h1 := zey ⟨k, a, nm, m, t⟩ w hn
  have h2 := zf3 ⟨k, a, nm, m, t⟩ w hn
  simp (disch := omega) only [push_cast, show Lqn none [.i k, .s a, .s nm, .i m, .s t.text, .l (encS t.refs), .i w] = _ from h1, show Lqbi none [.i k, .s a, .s nm, .i m, .s t.text, .l (encS t.refs), .i w] = _ from h2]
  cases he : zh ⟨k, a, nm, m, t⟩ w
  · simp (disch := omega) only [push_cast]
    rw [if_neg fun h => by cases h.1]; rfl
  · by_cases hf : formE ⟨k, a, nm, m, t⟩ = s
    · simp (disch := omega) only [push_cast]; rw [if_pos ⟨trivial, hf⟩]; rfl
    · simp (disch := omega) only [push_cast]; rw [if_neg fun h => hf h.2]; rfl
theorem zpg (s : Bs) (w : Int) (hs : s.size ≤ 1099511627776) : Lqcc none [.s s, .i w] = some (encOE (readE s w)) := by
  rw [eqcc_i, zt]
  cases hw : zj w
  · simp (disch := omega) only [push_cast, zoh hw] <;> rfl
  by_cases h6 : 6 ≤ s.size
  · have b5 := zbg s 5; have b0 := zbg s 0; have b1 := zbg s 1; have b2 := zbg s 2; have b3 := zbg s 3; have b4 := zbg s 4
    by_cases hn : nmEnd s ≤ s.size
    · have hn' : 6 + byteAt s 5 ≤ s.size := by unfold nmEnd at hn; omega
      have hne : (6 + byteAt s 5).toNat = nmEnd s := by unfold nmEnd; omega
      have hsz : (s.extract 6 (nmEnd s)).size ≤ 4611686018427387904 := by rw [size_extract]; omega
      have hnum : byteAt s 1 * 16777216 + byteAt s 2 * 65536 + byteAt s 3 * 256 + byteAt s 4 = num4 s := rfl
      have hnn : (6 : Int) ≤ (nmEnd s : Int) := by unfold nmEnd; omega
      unfold readE
      rw [if_pos ⟨hw, h6, hn⟩]
      by_cases h1 : byteAt s 0 = 1
      · simp (disch := omega) only [push_cast, hne, hnum, if_pos h1]
        rw [ztj _ _ (by rw [size_extract]; omega)]
        cases ht : readT (s.extract (nmEnd s) s.size) w with
        | none =>
          simp (disch := omega) only [push_cast, encOT]
          have := zhd s w (byteAt s 0) E0 (s.extract 6 (nmEnd s)) (num4 s) ⟨E0, []⟩ 0 0 E0 E0 E0 [] hsz
          rw [show Lqcc (some 9) [.s s, .i w, .i 0, .s E0, .s E0, .i 0, .s E0, .i (byteAt s 0), .s E0, .s (s.extract 6 (nmEnd s)), .i (num4 s), .s E0, .l [], .l []] = _ from this]
          rw [if_neg]
          rintro ⟨he, hf⟩
          have h2 := zgx he
          rw [hf] at h2
          unfold readE at h2
          rw [if_pos ⟨hw, h6, hn⟩, if_pos h1, ht] at h2
          cases h2
        | some t =>
          simp (disch := omega) only [push_cast, encOT]
          rw [zhd _ _ _ _ _ _ t _ _ _ _ _ _ hsz, h1]
          by_cases he : zh ⟨1, E0, s.extract 6 (nmEnd s), num4 s, t⟩ w = true
          · have hf := zfd s t h6 hn E0 (by rw [if_pos h1, if_pos h1, (zlj ht).1]) (by rw [if_pos h1])
            rw [h1] at hf
            rw [if_pos ⟨he, hf⟩, if_pos he]
          · rw [if_neg fun h => he h.1, if_neg he]
      · simp (disch := omega) only [push_cast, hne, hnum, if_neg h1]
        have := zhd s w (byteAt s 0) (s.extract (nmEnd s) s.size) (s.extract 6 (nmEnd s)) (num4 s) ⟨E0, []⟩ 0 0 E0 E0 E0 [] hsz
        rw [show Lqcc (some 9) [.s s, .i w, .i 0, .s E0, .s E0, .i 0, .s E0, .i (byteAt s 0), .s (s.extract (nmEnd s) s.size), .s (s.extract 6 (nmEnd s)), .i (num4 s), .s E0, .l [], .l []] = _ from this]
        by_cases he : zh ⟨byteAt s 0, s.extract (nmEnd s) s.size, s.extract 6 (nmEnd s), num4 s, ⟨E0, []⟩⟩ w = true
        · have hf := zfd s ⟨E0, []⟩ h6 hn (s.extract (nmEnd s) s.size) (by rw [if_neg h1, if_neg h1]) (by rw [if_neg h1])
          rw [if_pos ⟨he, hf⟩, if_pos he]
        · rw [if_neg fun h => he h.1, if_neg he]
    · have hn' : ¬ 6 + byteAt s 5 ≤ s.size := by unfold nmEnd at hn; omega
      simp (disch := omega) only [push_cast, ztf hn] <;> rfl
  · simp (disch := omega) only [push_cast, zqx h6] <;> rfl
end KV
end
section
namespace KV
open Go Go.Eng
open Classical
structure Kept where
  sum : Bs
  born : Int
  thing : Thing
structure Pin where
  name : Bs
  sum : Bs
structure Lease where
  number : Int
  sum : Bs
  till : Int
structure State where
  width : Int
  now : Int
  given : Int
  births : Int
  things : List Kept
  pins : List Pin
  leases : List Lease
def K0 : Kept := ⟨.empty, 0, ⟨.empty, []⟩⟩
def P0 : Pin := ⟨.empty, .empty⟩
def L0 : Lease := ⟨0, .empty, 0⟩
def cK (k : Kept) : List C := [.s k.sum, .i k.born, .s k.thing.text, .l (encS k.thing.refs)]
def cP (p : Pin) : List C := [.s p.name, .s p.sum]
def cL (l : Lease) : List C := [.i l.number, .s l.sum, .i l.till]
def encK (l : List Kept) : Rw := l.map cK
def encP (l : List Pin) : Rw := l.map cP
def encL (l : List Lease) : Rw := l.map cL
def encSt (s : State) : Lv := [.i s.width, .i s.now, .i s.given, .i s.births, .l (encK s.things), .l (encP s.pins), .l (encL s.leases)]
@[push_cast] theorem zc1 (l : List Kept) : (encK l).length = l.length := by simp [encK]
@[push_cast] theorem zbw (l : List Pin) : (encP l).length = l.length := by simp [encP]
@[push_cast] theorem zb8 (l : List Lease) : (encL l).length = l.length := by simp [encL]
theorem zh7 {α : Type} (d : α) (l : List α) (i : Nat) (h : l.length ≤ i) : nth d l i = d := by
  rw [nth, List.getD_eq_getElem?_getD, List.getElem?_eq_none h]; rfl
theorem zbf {α β : Type} (f : α → List C) (d : α) (l : List α) (i o : Nat) (g : C → β) (h : g (.i 0) = g ((f d).getD o (.i 0))) : g (rd (l.map f) i o) = g ((f (nth d l i)).getD o (.i 0)) := by
  rcases Nat.lt_or_ge i l.length with h1 | h1
  · rw [zkj f d _ _ _ h1]
  · rw [zgk _ _ _ _ h1, zh7 d l i h1, h]
@[push_cast] theorem zt0 (l : List Kept) (i : Nat) : (rd (encK l) i 0).str = (nth K0 l i).sum := zbf cK K0 l i 0 C.str rfl
@[push_cast] theorem zts (l : List Kept) (i : Nat) : (rd (encK l) i 1).int = (nth K0 l i).born := zbf cK K0 l i 1 C.int rfl
@[push_cast] theorem zt4 (l : List Kept) (i : Nat) : (rd (encK l) i 2).str = (nth K0 l i).thing.text := zbf cK K0 l i 2 C.str rfl
@[push_cast] theorem zty (l : List Kept) (i : Nat) : (rd (encK l) i 3).list = encS (nth K0 l i).thing.refs := zbf cK K0 l i 3 C.list rfl
@[push_cast] theorem zjw (l : List Pin) (i : Nat) : (rd (encP l) i 0).str = (nth P0 l i).name := zbf cP P0 l i 0 C.str rfl
@[push_cast] theorem zj7 (l : List Pin) (i : Nat) : (rd (encP l) i 1).str = (nth P0 l i).sum := zbf cP P0 l i 1 C.str rfl
@[push_cast] theorem zhw (l : List Lease) (i : Nat) : (rd (encL l) i 0).int = (nth L0 l i).number := zbf cL L0 l i 0 C.int rfl
@[push_cast] theorem zln (l : List Lease) (i : Nat) : (rd (encL l) i 1).str = (nth L0 l i).sum := zbf cL L0 l i 1 C.str rfl
@[push_cast] theorem zim (l : List Lease) (i : Nat) : (rd (encL l) i 2).int = (nth L0 l i).till := zbf cL L0 l i 2 C.int rfl
theorem z8 (l m : List Kept) : encK l ++ encK m = encK (l ++ m) := by simp [encK]
theorem zb2 (l m : List Pin) : encP l ++ encP m = encP (l ++ m) := by simp [encP]
theorem zc9 (l m : List Lease) : encL l ++ encL m = encL (l ++ m) := by simp [encL]
theorem zcy (a : Bs) (b : Int) (c : Bs) (r : List Bs) : ([[.s a, .i b, .s c, .l (encS r)]] : Rw) = encK [⟨a, b, ⟨c, r⟩⟩] := rfl
theorem zen (a b : Bs) : ([[.s a, .s b]] : Rw) = encP [⟨a, b⟩] := rfl
theorem zb9 (l : List Kept) (a b : Nat) : Eng.sub (encK l) a b = encK ((l.drop a).take (b - a)) := zfm _ _ _ _
theorem ze4 (l : List Pin) (a b : Nat) : Eng.sub (encP l) a b = encP ((l.drop a).take (b - a)) := zfm _ _ _ _
theorem zmc (l : List Lease) (a b : Nat) : Eng.sub (encL l) a b = encL ((l.drop a).take (b - a)) := zfm _ _ _ _
theorem wrP (l : List Pin) (i : Nat) (x : Bs) (h : i < l.length) : wrs (encP l) i 1 [.s x] = encP (l.set i ⟨(nth P0 l i).name, x⟩) := by
  unfold wrs wrs wr encP
  rw [List.map_set]
  congr 1
  have : (l.map cP).getD i [] = cP (nth P0 l i) := by rw [zk P0 l i h, List.getD_eq_getElem?_getD]; simp [h]
  rw [this]; rfl
theorem zg1 {f : Nat → Nat → Option Lv} {q : Nat → Bool} {n r : Nat} (hr : r ≤ n) (h1 : ∀ j, j < r → q j = true) (h2 : ∀ j, r ≤ j → j < n → q j = false)
    (step : ∀ lo hi, lo < hi → hi ≤ n → f lo hi = cond (q ((lo + hi) / 2)) (f ((lo + hi) / 2 + 1) hi) (f lo ((lo + hi) / 2))) (last : ∀ lo, lo ≤ n → f lo lo = some [.i (lo : Int)]) : f 0 n = some [.i (r : Int)] := by
  have : ∀ m lo hi, hi - lo = m → lo ≤ r → r ≤ hi → hi ≤ n → f lo hi = some [.i (r : Int)] := by
    intro m
    induction m using Nat.strongRecOn with
    | ind m ih =>
      intro lo hi hm hlo hhi hn
      rcases Nat.lt_or_ge lo hi with hlt | hge
      · rw [step lo hi hlt hn]
        rcases Nat.lt_or_ge ((lo + hi) / 2) r with h | h
        · rw [h1 _ h]; exact ih _ (by omega) _ _ rfl (by omega) hhi hn
        · rw [h2 _ h (by omega)]; exact ih _ (by omega) _ _ rfl hlo h (by omega)
      · have e1 : lo = r := by omega
        have e2 : hi = r := by omega
        subst e1; subst e2; exact last _ hn
  exact this n 0 n (by omega) (by omega) hr (Nat.le_refl _)
theorem zl8 {α : Type} {f : Nat → Option Lv} {l : List α} {d : α} {p : α → Bool} {ret : Nat → Option Lv} {e : Option Lv} (step : ∀ i, i < l.length → f i = cond (p (nth d l i)) (ret i) (f (i + 1))) (last : f l.length = e) :
    f 0 = match l.findIdx? p with | some i => ret i | none => e := by
  have : ∀ m i, l.length - i = m → i ≤ l.length → f i = match (l.drop i).findIdx? p with | some j => ret (i + j) | none => e := by
    intro m
    induction m with
    | zero =>
      intro i hm hi
      have : i = l.length := by omega
      subst this; rw [last, List.drop_length]; rfl
    | succ m ih =>
      intro i hm hi
      rw [step i (by omega), zd6 d (show i < l.length by omega), List.findIdx?_cons]
      cases p (nth d l i)
      · rw [cond_false, ih (i + 1) (by omega) (by omega)]
        cases (l.drop (i + 1)).findIdx? p with
        | none => rfl
        | some j => simp only [Option.map_some]; rw [show i + 1 + j = i + (j + 1) by omega]; rfl
      · rfl
  have h := this l.length 0 (by omega) (by omega)
  rw [List.drop_zero] at h
  rw [h]
  cases l.findIdx? p with
  | none => rfl
  | some j => simp
def lb {α : Type} (q : α → Bool) (l : List α) : Nat := (l.takeWhile q).length
theorem lb_le {α : Type} (q : α → Bool) (l : List α) : lb q l ≤ l.length := by
  unfold lb
  induction l with
  | nil => simp
  | cons a l ih => rw [List.takeWhile_cons]; split <;> simp <;> omega
theorem lb_lt {α : Type} (q : α → Bool) (d : α) : ∀ (l : List α) j, j < lb q l → q (nth d l j) = true
  | [], j, h => by simp [lb] at h
  | a :: l, j, h => by
    unfold lb at h
    rw [List.takeWhile_cons] at h
    split at h
    · rename_i hq
      cases j with
      | zero => exact hq
      | succ j => rw [zdc]; exact lb_lt q d l j (by simpa [lb] using h)
    · simp at h
theorem lb_at {α : Type} (q : α → Bool) (d : α) : ∀ (l : List α), lb q l < l.length → q (nth d l (lb q l)) = false
  | [], h => by simp at h
  | a :: l, h => by
    unfold lb at h ⊢
    rw [List.takeWhile_cons] at h ⊢
    split
    · rename_i hq
      rw [if_pos hq] at h
      simp only [List.length_cons, zdc] at h ⊢
      exact lb_at q d l (by unfold lb; omega)
    · rename_i hq; simp only [List.length_nil, zhh]; simpa using hq
end KV
end
section
namespace KV
open Go Go.Eng
open Classical
theorem zfl {α : Type} {R : α → α → Prop} (d : α) {l : List α} (h : l.Pairwise R) {i j : Nat} (hij : i < j) (hj : j < l.length) : R (nth d l i) (nth d l j) := by
  rw [zk d l i (by omega), zk d l j hj]
  exact List.pairwise_iff_getElem.1 h i j (by omega) hj hij
theorem lb_hi {α : Type} {R : α → α → Prop} {q : α → Bool} (d : α) {l : List α} (h : l.Pairwise R) (mono : ∀ a b, R a b → q b = true → q a = true) : ∀ j, lb q l ≤ j → j < l.length → q (nth d l j) = false := by
  intro j h1 h2
  cases hq : q (nth d l j)
  · rfl
  · rcases Nat.eq_or_lt_of_le h1 with e | h3
    · rw [← e] at hq; rw [lb_at q d l (by omega)] at hq; exact hq.symm
    · have := mono _ _ (zfl d h h3 h2) hq
      rw [lb_at q d l (by omega)] at this; cases this
theorem zcj {α : Type} {R : α → α → Prop} {q : α → Bool} {p : α → Prop} (d : α) {l : List α} (h : l.Pairwise R) (hp : ∀ a, p a → q a = false) (hR : ∀ a b, R a b → p b → q a = true) {j : Nat} (hj : j < l.length) (hk : p (nth d l j)) : j = lb q l := by
  have h1 : lb q l ≤ j := by
    rcases Nat.lt_or_ge j (lb q l) with h3 | h3
    · have := lb_lt q d l j h3; rw [hp _ hk] at this; cases this
    · exact h3
  rcases Nat.eq_or_lt_of_le h1 with e | h3
  · exact e.symm
  · have := hR _ _ (zfl d h h3 hj) hk
    rw [lb_at q d l (by omega)] at this; cases this
theorem zc2 {α : Type} {R : α → α → Prop} {q : α → Bool} {p : α → Prop} (d : α) {l : List α} (h : l.Pairwise R) (hp : ∀ a, p a → q a = false) (hR : ∀ a b, R a b → p b → q a = true) :
    (∃ a ∈ l, p a) ↔ lb q l < l.length ∧ p (nth d l (lb q l)) := by
  constructor
  · rintro ⟨a, ha, hpa⟩
    obtain ⟨j, hj, rfl⟩ := zbb d ha
    have := zcj d h hp hR hj hpa
    rw [← this]; exact ⟨hj, hpa⟩
  · rintro ⟨h1, h2⟩; exact ⟨_, zi h1, h2⟩
theorem zs2 {α : Type} {R : α → α → Prop} {q : α → Bool} {p : α → Prop} [DecidablePred p] (d : α) {l : List α} (h : l.Pairwise R) (hp : ∀ a, p a → q a = false) (hR : ∀ a b, R a b → p b → q a = true) :
    l.findIdx? (fun a => decide (p a)) = if ∃ a ∈ l, p a then some (lb q l) else none := by
  split
  · rename_i he
    obtain ⟨h1, h2⟩ := (zc2 d h hp hR).1 he
    rw [List.findIdx?_eq_some_iff_getElem]
    refine ⟨h1, ?_, fun j hj => ?_⟩
    · rw [← zk d l _ h1]; exact decide_eq_true h2
    · rw [← zk d l j (by omega)]
      simp only [decide_eq_true_eq]
      intro hpj
      have := zcj d h hp hR (show j < l.length by omega) hpj
      omega
  · rename_i he
    rw [List.findIdx?_eq_none_iff]
    intro a ha
    exact decide_eq_false fun hpa => he ⟨a, ha, hpa⟩
theorem zgp {α : Type} {R : α → α → Prop} {q : α → Bool} {p : α → Prop} [DecidablePred p] (d : α) {l : List α} (h : l.Pairwise R) (hp : ∀ a, p a → q a = false) (hR : ∀ a b, R a b → p b → q a = true) (he : ∃ a ∈ l, p a) :
    l.filter (fun a => !decide (p a)) = l.take (lb q l) ++ l.drop (lb q l + 1) := by
  obtain ⟨h1, h2⟩ := (zc2 d h hp hR).1 he
  conv => lhs; rw [← List.take_append_drop (lb q l) l, List.filter_append, zd6 d h1, List.filter_cons]
  rw [if_neg (by simp [h2])]
  congr 1
  · apply List.filter_eq_self.2
    intro a ha
    obtain ⟨j, hj, rfl⟩ := List.mem_iff_getElem.1 ha
    simp only [List.getElem_take, Bool.not_eq_true', decide_eq_false_iff_not]
    rw [List.length_take] at hj
    rw [← zk d l j (by omega)]
    intro hpj; have := zcj d h hp hR (show j < l.length by omega) hpj; omega
  · apply List.filter_eq_self.2
    intro a ha
    obtain ⟨j, hj, rfl⟩ := List.mem_iff_getElem.1 ha
    simp only [List.getElem_drop, Bool.not_eq_true', decide_eq_false_iff_not]
    rw [List.length_drop] at hj
    rw [← zk d l _ (by omega)]
    intro hpj; have := zcj d h hp hR (show lb q l + 1 + j < l.length by omega) hpj; omega
def SrtK (l : List Kept) : Prop := l.Pairwise fun a b => slt a.sum b.sum = true
def SrtP (l : List Pin) : Prop := l.Pairwise fun a b => slt a.name b.name = true
def SrtL (l : List Lease) : Prop := l.Pairwise fun a b => a.number < b.number
def qK (x : Bs) (k : Kept) : Bool := slt k.sum x
def qP (x : Bs) (k : Pin) : Bool := slt k.name x
def qL (x : Int) (k : Lease) : Bool := decide (k.number < x)
def hasT (l : List Kept) (x : Bs) : Prop := ∃ k ∈ l, k.sum = x
def hasP (l : List Pin) (x : Bs) : Prop := ∃ k ∈ l, k.name = x
def hasL (l : List Lease) (x : Int) : Prop := ∃ k ∈ l, k.number = x
theorem kp (x : Bs) (a : Kept) (h : a.sum = x) : qK x a = false := by unfold qK; rw [h, zdg]
theorem kR (x : Bs) (a b : Kept) (h : slt a.sum b.sum = true) (hb : b.sum = x) : qK x a = true := by unfold qK; rw [← hb]; exact h
theorem pp (x : Bs) (a : Pin) (h : a.name = x) : qP x a = false := by unfold qP; rw [h, zdg]
theorem pR (x : Bs) (a b : Pin) (h : slt a.name b.name = true) (hb : b.name = x) : qP x a = true := by unfold qP; rw [← hb]; exact h
theorem lp (x : Int) (a : Lease) (h : a.number = x) : qL x a = false := by unfold qL; simp; omega
theorem lR (x : Int) (a b : Lease) (h : a.number < b.number) (hb : b.number = x) : qL x a = true := by unfold qL; simp; omega
theorem zbs {l : List Kept} (h : SrtK l) (x : Bs) : hasT l x ↔ lb (qK x) l < l.length ∧ (nth K0 l (lb (qK x) l)).sum = x := zc2 K0 h (kp x) (kR x)
theorem zcz {l : List Pin} (h : SrtP l) (x : Bs) : hasP l x ↔ lb (qP x) l < l.length ∧ (nth P0 l (lb (qP x) l)).name = x := zc2 P0 h (pp x) (pR x)
theorem zmb {l : List Lease} (h : SrtL l) (x : Int) : hasL l x ↔ lb (qL x) l < l.length ∧ (nth L0 l (lb (qL x) l)).number = x := zc2 L0 h (lp x) (lR x)
structure VS (s : State) : Prop where
  wd : 1 ≤ s.width ∧ s.width ≤ 8
  now : 0 ≤ s.now ∧ s.now ≤ 1000000000
  given : 0 ≤ s.given ∧ s.given ≤ 1000000000
  births : 0 ≤ s.births ∧ s.births ≤ 1000000000
  nT : s.things.length ≤ 600
  nP : s.pins.length ≤ 100
  nL : s.leases.length ≤ 200
  srtT : SrtK s.things
  okT : ∀ k ∈ s.things, ThingOk k.thing s.width ∧ k.sum = sumM (formM k.thing) s.width ∧ 1 ≤ k.born ∧ k.born ≤ s.births
  ndT : (s.things.map (·.born)).Nodup
  refs : ∀ k ∈ s.things, ∀ r ∈ k.thing.refs, ∃ j ∈ s.things, j.sum = r ∧ j.born < k.born
  srtP : SrtP s.pins
  okP : ∀ p ∈ s.pins, NameOk p.name ∧ hasT s.things p.sum
  srtL : SrtL s.leases
  okL : ∀ l ∈ s.leases, 1 ≤ l.number ∧ l.number ≤ s.given ∧ hasT s.things l.sum ∧ s.now < l.till ∧ l.till ≤ s.now + 100000
structure Out where
  code : Int
  st : State
  sum : Bs
  lease : Int
  a : Bs
  b : Bs
def fail (s : State) (c : Int) : Out := ⟨c, s, E0, 0, E0, E0⟩
def done (s : State) : Out := ⟨0, s, E0, 0, E0, E0⟩
def lent (s : State) (x : Bs) (hold : Int) : State := { s with given := s.given + 1, leases := s.leases ++ [⟨s.given + 1, x, s.now + hold⟩] }
def insK (k : Kept) (l : List Kept) : List Kept := l.take (lb (qK k.sum) l) ++ k :: l.drop (lb (qK k.sum) l)
noncomputable def delK (x : Bs) (l : List Kept) : List Kept := l.filter fun k => !decide (k.sum = x)
noncomputable def putP (n x : Bs) (l : List Pin) : List Pin := if hasP l n then l.set (lb (qP n) l) ⟨n, x⟩ else l.take (lb (qP n) l) ++ ⟨n, x⟩ :: l.drop (lb (qP n) l)
noncomputable def delP (n : Bs) (l : List Pin) : List Pin := l.filter fun k => !decide (k.name = n)
noncomputable def delL (n : Int) (l : List Lease) : List Lease := l.filter fun k => !decide (k.number = n)
def held (s : State) (x : Bs) : Prop := (∃ p ∈ s.pins, p.sum = x) ∨ ∃ l ∈ s.leases, l.sum = x
def isRef (l : List Kept) (x : Bs) : Prop := ∃ k ∈ l, x ∈ k.thing.refs
def room (s : State) : Prop := s.leases.length < 200 ∧ s.given < 1000000000
noncomputable def putS (s : State) (e : Entry) : Out :=
  if ∃ r ∈ e.thing.refs, ¬ hasT s.things r then fail s 2
  else if hasT s.things (sumM (formM e.thing) s.width) then
    (if formM (nth K0 s.things (lb (qK (sumM (formM e.thing) s.width)) s.things)).thing = formM e.thing then
      (if room s then { done (lent s (sumM (formM e.thing) s.width) e.number) with sum := sumM (formM e.thing) s.width, lease := s.given + 1 } else fail s 4)
    else { fail s 3 with a := formM (nth K0 s.things (lb (qK (sumM (formM e.thing) s.width)) s.things)).thing, b := formM e.thing })
  else if room s ∧ s.things.length < 600 ∧ s.births < 1000000000 then
    { done (lent { s with births := s.births + 1, things := insK ⟨sumM (formM e.thing) s.width, s.births + 1, e.thing⟩ s.things } (sumM (formM e.thing) s.width) e.number) with sum := sumM (formM e.thing) s.width, lease := s.given + 1 }
  else fail s 4
noncomputable def chg (s : State) (e : Entry) : Out :=
  if e.kind = 1 then putS s e
  else if e.kind = 2 then
    (if hasT s.things e.sum then (if hasP s.pins e.name ∨ s.pins.length < 100 then done { s with pins := putP e.name e.sum s.pins } else fail s 4) else fail s 2)
  else if e.kind = 3 then (if hasP s.pins e.name then done { s with pins := delP e.name s.pins } else fail s 5)
  else if e.kind = 4 then
    (if hasT s.things e.sum then (if room s then { done (lent s e.sum e.number) with lease := s.given + 1 } else fail s 4) else fail s 2)
  else if e.kind = 5 then (if hasL s.leases e.number then done { s with leases := delL e.number s.leases } else fail s 5)
  else if e.kind = 6 then (if s.now + e.number ≤ 1000000000 then done { s with now := s.now + e.number, leases := s.leases.filter fun l => decide (s.now + e.number < l.till) } else fail s 4)
  else (if hasT s.things e.sum then (if held s e.sum ∨ isRef s.things e.sum then fail s 6 else done { s with things := delK e.sum s.things }) else fail s 2)
end KV
end
section
namespace KV
open Go Go.Eng
open Classical
theorem zg3 {lo hi : Nat} (h : lo + hi ≤ 4294967296) : IntKind.i64.wrap ((IntKind.u64.wrap (IntKind.i64.wrap ((lo : Int) + (hi : Int)))).fdiv (2 ^ 1)) = (((lo + hi) / 2 : Nat) : Int) := by
  rw [w64 (n := (lo : Int) + (hi : Int)) (by omega), zgo, Int.fdiv_eq_ediv_of_nonneg _ (by decide), w64 (by omega)]
  omega
theorem zox (w now g b : Int) (T : List Kept) (P L : Rw) (x : Bs) (h : SrtK T) (hn : T.length ≤ 1000000) :
    Lqbx none [.i (T.length : Int), .i w, .i now, .i g, .i b, .l (encK T), .l P, .l L, .s x] = some [.i (lb (qK x) T : Int)] := by
  rw [eqbx_i]
  refine zg1 (f := fun lo hi => Lqbx (some 2) [.i (lo : Int), .i (hi : Int), .s x, .i w, .i now, .i g, .i b, .l (encK T), .l P, .l L]) (q := fun j => qK x (nth K0 T j)) (lb_le _ _) (fun j hj => lb_lt _ K0 _ _ hj) (fun j h1 h2 => lb_hi K0 h (fun a c hac hc => zbj hac hc) j h1 h2) (fun lo hi hl hh => ?_) (fun lo hl => ?_)
  · show Lqbx _ _ = _
    rw [eqbx_2, zg3 (by omega), eqda_i]
    have : (lo + hi) / 2 < hi := by omega
    generalize (lo + hi) / 2 = m at this
    simp (disch := omega) only [push_cast]
    unfold qK
    cases slt (nth K0 T m).sum x <;> rfl
  · show Lqbx _ _ = _
    rw [eqbx_2]; simp (disch := omega) only [push_cast]
theorem zpr (w now g b : Int) (T L : Rw) (P : List Pin) (x : Bs) (h : SrtP P) (hn : P.length ≤ 1000000) :
    Lqby none [.i (P.length : Int), .i w, .i now, .i g, .i b, .l T, .l (encP P), .l L, .s x] = some [.i (lb (qP x) P : Int)] := by
  rw [eqby_i]
  refine zg1 (f := fun lo hi => Lqby (some 2) [.i (lo : Int), .i (hi : Int), .s x, .i w, .i now, .i g, .i b, .l T, .l (encP P), .l L]) (q := fun j => qP x (nth P0 P j)) (lb_le _ _) (fun j hj => lb_lt _ P0 _ _ hj) (fun j h1 h2 => lb_hi P0 h (fun a c hac hc => zbj hac hc) j h1 h2) (fun lo hi hl hh => ?_) (fun lo hl => ?_)
  · show Lqby _ _ = _
    rw [eqby_2, zg3 (by omega), eqdb_i]
    have : (lo + hi) / 2 < hi := by omega
    generalize (lo + hi) / 2 = m at this
    simp (disch := omega) only [push_cast]
    unfold qP
    cases slt (nth P0 P m).name x <;> rfl
  · show Lqby _ _ = _
    rw [eqby_2]; simp (disch := omega) only [push_cast]
theorem zn2 (w now g b : Int) (T P : Rw) (L : List Lease) (x : Int) (h : SrtL L) (hn : L.length ≤ 1000000) :
    Lqbz none [.i (L.length : Int), .i w, .i now, .i g, .i b, .l T, .l P, .l (encL L), .i x] = some [.i (lb (qL x) L : Int)] := by
  rw [eqbz_i]
  refine zg1 (f := fun lo hi => Lqbz (some 2) [.i (lo : Int), .i (hi : Int), .i x, .i w, .i now, .i g, .i b, .l T, .l P, .l (encL L)]) (q := fun j => qL x (nth L0 L j)) (lb_le _ _) (fun j hj => lb_lt _ L0 _ _ hj) (fun j h1 h2 => lb_hi L0 h (fun a c hac hc => by unfold qL at hc ⊢; simp at hc ⊢; omega) j h1 h2) (fun lo hi hl hh => ?_) (fun lo hl => ?_)
  · show Lqbz _ _ = _
    rw [eqbz_2, zg3 (by omega), eqdc_i]
    have : (lo + hi) / 2 < hi := by omega
    generalize (lo + hi) / 2 = m at this
    simp (disch := omega) only [push_cast]
    unfold qL
    by_cases hq : (nth L0 L m).number < x
    · rw [show decide (x ≤ (nth L0 L m).number) = false by simp; omega, show decide ((nth L0 L m).number < x) = true by simp; omega]; rfl
    · rw [show decide (x ≤ (nth L0 L m).number) = true by simp; omega, show decide ((nth L0 L m).number < x) = false by simp; omega]; rfl
  · show Lqbz _ _ = _
    rw [eqbz_2]; simp (disch := omega) only [push_cast]
theorem zbo (w now g b : Int) (T : List Kept) (P L : Rw) (x : Bs) (h : SrtK T) (hn : T.length ≤ 1000000) :
    Lq7 none [.s x, .i w, .i now, .i g, .i b, .l (encK T), .l P, .l L] = some [.i (lb (qK x) T : Int), .b (decide (hasT T x))] := by
  have hl := lb_le (qK x) T
  have hi := zbs h x
  rw [eq7_i, zc1, zox w now g b T P L x h hn]
  by_cases h1 : lb (qK x) T < T.length
  · simp (disch := omega) only [push_cast]
    by_cases h2 : (nth K0 T (lb (qK x) T)).sum = x
    · rw [decide_eq_true h2, decide_eq_true (hi.2 ⟨h1, h2⟩)]
    · rw [decide_eq_false h2, decide_eq_false fun h3 => h2 (hi.1 h3).2]
  · simp (disch := omega) only [push_cast]
    rw [decide_eq_false fun h3 => h1 (hi.1 h3).1]
theorem zj3 (w now g b : Int) (T L : Rw) (P : List Pin) (x : Bs) (h : SrtP P) (hn : P.length ≤ 1000000) :
    Lqc0 none [.s x, .i w, .i now, .i g, .i b, .l T, .l (encP P), .l L] = some [.i (lb (qP x) P : Int), .b (decide (hasP P x))] := by
  have hl := lb_le (qP x) P
  have hi := zcz h x
  rw [eqc0_i, zbw, zpr w now g b T L P x h hn]
  by_cases h1 : lb (qP x) P < P.length
  · simp (disch := omega) only [push_cast]
    by_cases h2 : (nth P0 P (lb (qP x) P)).name = x
    · rw [decide_eq_true h2, decide_eq_true (hi.2 ⟨h1, h2⟩)]
    · rw [decide_eq_false h2, decide_eq_false fun h3 => h2 (hi.1 h3).2]
  · simp (disch := omega) only [push_cast]
    rw [decide_eq_false fun h3 => h1 (hi.1 h3).1]
theorem zsr (w now g b : Int) (T P : Rw) (L : List Lease) (x : Int) (h : SrtL L) (hn : L.length ≤ 1000000) :
    Lqc2 none [.i x, .i w, .i now, .i g, .i b, .l T, .l P, .l (encL L)] = some [.i (lb (qL x) L : Int), .b (decide (hasL L x))] := by
  have hl := lb_le (qL x) L
  have hi := zmb h x
  rw [eqc2_i, zb8, zn2 w now g b T P L x h hn]
  by_cases h1 : lb (qL x) L < L.length
  · simp (disch := omega) only [push_cast]
    by_cases h2 : (nth L0 L (lb (qL x) L)).number = x
    · rw [decide_eq_true h2, decide_eq_true (hi.2 ⟨h1, h2⟩)]
    · rw [decide_eq_false h2, decide_eq_false fun h3 => h2 (hi.1 h3).2]
  · simp (disch := omega) only [push_cast]
    rw [decide_eq_false fun h3 => h1 (hi.1 h3).1]
theorem zbx {α : Type} {f : Nat → Option Lv} {l : List α} (d : α) {p : α → Prop} [DecidablePred p] {T E : Option Lv} (step : ∀ i, i < l.length → f i = cond (decide (p (nth d l i))) T (f (i + 1))) (last : f l.length = E) : f 0 = if (∃ a ∈ l, p a) then T else E := by
  have := zl8 (f := f) (l := l) (d := d) (p := fun a => decide (p a)) (ret := fun _ => T) (e := E) step last
  rw [this]
  by_cases h : ∃ a ∈ l, p a
  · rw [if_pos h]
    cases hf : l.findIdx? (fun a => decide (p a)) with
    | none =>
      rw [List.findIdx?_eq_none_iff] at hf
      obtain ⟨a, ha, hp⟩ := h
      have := hf a ha; simp [hp] at this
    | some i => rfl
  · rw [if_neg h]
    cases hf : l.findIdx? (fun a => decide (p a)) with
    | none => rfl
    | some i =>
      obtain ⟨h1, h2, _⟩ := List.findIdx?_eq_some_iff_getElem.1 hf
      exact absurd ⟨_, List.getElem_mem h1, of_decide_eq_true h2⟩ h
theorem zmx (s : State) (x : Bs) (h1 : s.pins.length ≤ 1000000) (h2 : s.leases.length ≤ 1000000) : Lq5 none (.s x :: encSt s) = some [.b (decide (held s x))] := by
  unfold encSt
  rw [eq5_i]
  have a1 := zbx (f := fun i : Nat => Lq5 (some 8) [.s x, .l (encL s.leases), .i (s.leases.length : Int), .i (i : Int)]) L0 (l := s.leases) (p := fun l => l.sum = x) (T := some [.b true]) (E := some [.b false]) (fun i hi => by
    show Lq5 _ _ = cond _ _ (Lq5 _ _)
    rw [eq5_8]; simp (disch := omega) only [push_cast]) (by show Lq5 _ _ = _; rw [eq5_8]; simp (disch := omega) only [push_cast])
  have a2 := zbx (f := fun i : Nat => Lq5 (some 2) [.s x, .l (encP s.pins), .i (s.pins.length : Int), .i (i : Int), .i s.width, .i s.now, .i s.given, .i s.births, .l (encK s.things), .l (encP s.pins), .l (encL s.leases)]) P0 (l := s.pins) (p := fun l => l.sum = x) (T := some [.b true]) (E := Lq5 (some 8) [.s x, .l (encL s.leases), .i (s.leases.length : Int), .i 0]) (fun i hi => by
    show Lq5 _ _ = cond _ _ (Lq5 _ _)
    rw [eq5_2]; simp (disch := omega) only [push_cast]) (by show Lq5 _ _ = _; rw [eq5_2]; simp (disch := omega) only [push_cast])
  rw [zbw]
  refine a2.trans ?_
  by_cases h : ∃ p ∈ s.pins, p.sum = x
  · rw [if_pos h, decide_eq_true (p := held s x) (Or.inl h)]
  · rw [if_neg h]
    refine a1.trans ?_
    by_cases h3 : ∃ l ∈ s.leases, l.sum = x
    · rw [if_pos h3, decide_eq_true (p := held s x) (Or.inr h3)]
    · rw [if_neg h3, decide_eq_false (p := held s x) (by rintro (h4 | h4); exact h h4; exact h3 h4)]
theorem zq4 (a b c d : Int) (T : List Kept) (P L : Rw) (x : Bs) (h1 : T.length ≤ 1000000) (h2 : ∀ k ∈ T, k.thing.refs.length ≤ 1000000) : Lq6 none [.s x, .i a, .i b, .i c, .i d, .l (encK T), .l P, .l L] = some [.b (decide (isRef T x))] := by
  rw [eq6_i]
  have a2 := zbx (f := fun i : Nat => Lq6 (some 2) [.s x, .l (encK T), .i (T.length : Int), .i (i : Int)]) K0 (l := T) (p := fun k => x ∈ k.thing.refs) (T := some [.b true]) (E := some [.b false]) (fun i hi => by
    show Lq6 _ _ = cond _ _ (Lq6 _ _)
    have hr := h2 _ (zi (d := K0) hi)
    rw [eq6_2]; simp (disch := omega) only [push_cast]
    have a1 := zbx (f := fun j : Nat => Lq6 (some 5) [.s x, .l (encK T), .i (T.length : Int), .i (i : Int), .l (encS (nth K0 T i).thing.refs), .i ((nth K0 T i).thing.refs.length : Int), .i (j : Int)]) .empty (l := (nth K0 T i).thing.refs) (p := fun r => r = x) (T := some [.b true]) (E := Lq6 (some 2) [.s x, .l (encK T), .i (T.length : Int), .i ((i : Int) + 1)]) (fun j hj => by
      show Lq6 _ _ = cond _ _ (Lq6 _ _)
      rw [eq6_5]; simp (disch := omega) only [push_cast]) (by show Lq6 _ _ = _; rw [eq6_5]; simp (disch := omega) only [push_cast])
    refine a1.trans ?_
    by_cases h : ∃ r ∈ (nth K0 T i).thing.refs, r = x
    · rw [if_pos h, decide_eq_true (p := x ∈ (nth K0 T i).thing.refs) (by obtain ⟨r, hr, rfl⟩ := h; exact hr), cond_true]
    · rw [if_neg h, decide_eq_false (p := x ∈ (nth K0 T i).thing.refs) (fun h3 => h ⟨x, h3, rfl⟩), cond_false]) (by show Lq6 _ _ = _; rw [eq6_2]; simp (disch := omega) only [push_cast])
  rw [zc1]
  refine a2.trans ?_
  by_cases h : ∃ k ∈ T, x ∈ k.thing.refs
  · rw [if_pos h, decide_eq_true (p := isRef T x) h]
  · rw [if_neg h, decide_eq_false (p := isRef T x) h]
end KV
end
section
namespace KV
open Go Go.Eng
open Classical
def z6 (o : Out) : Lv := [.i o.code, .i 0, .i 0, .i 0, .i 0, .l [], .l [], .l [], .s o.sum, .i o.lease, .s o.a, .s o.b] ++ encSt o.st
theorem zbn (c : Int) : Lqbm none [.i c] = some [.i c, .i 0, .i 0, .i 0, .i 0, .l [], .l [], .l [], .s E0, .i 0, .s E0, .s E0] := by rw [eqbm_i]
theorem zee (a b c d e f g h i : Int) (j : Bs) (k : Int) (l m : Bs) (T P L x y z : Rw) : Lqa (some 78) [.i a, .i b, .i c, .i d, .i e, .i f, .i g, .i h, .i i, .s j, .i k, .s l, .s m, .l T, .l P, .l L, .l x, .l y, .l z] =
    some [.i 0, .i 0, .i 0, .i 0, .i 0, .l [], .l [], .l [], .s E0, .i 0, .s E0, .s E0, .i a, .i b, .i c, .i d, .l T, .l P, .l L] := by
  rw [eqa_78, zbn]; simp (disch := omega) only [push_cast]
theorem zir (a b c d e f g h i : Int) (j : Bs) (k : Int) (l m : Bs) (T P L x y z : Rw) : Lqa (some 76) [.i a, .i b, .i c, .i d, .i e, .i f, .i g, .i h, .i i, .s j, .i k, .s l, .s m, .l T, .l P, .l L, .l x, .l y, .l z] =
    some [.i 6, .i 0, .i 0, .i 0, .i 0, .l [], .l [], .l [], .s E0, .i 0, .s E0, .s E0, .i a, .i b, .i c, .i d, .l T, .l P, .l L] := by
  rw [eqa_76, zbn]; simp (disch := omega) only [push_cast]
theorem zfi (a b c d e f g h i : Int) (j : Bs) (k : Int) (l m : Bs) (T P L x y z : Rw) : Lqa (some 21) [.i a, .i b, .i c, .i d, .i e, .i f, .i g, .i h, .i i, .s j, .i k, .s l, .s m, .l T, .l P, .l L, .l x, .l y, .l z] =
    some [.i 4, .i 0, .i 0, .i 0, .i 0, .l [], .l [], .l [], .s E0, .i 0, .s E0, .s E0, .i a, .i b, .i c, .i d, .l T, .l P, .l L] := by
  rw [eqa_21, zbn]; simp (disch := omega) only [push_cast]
theorem zlb (x : Bs) (w now gv b k : Int) (s n : Bs) (m : Int) (t : Bs) (r T P : Rw) (L : List Lease) (hl : L.length ≤ 1000000) (hg : 0 ≤ gv ∧ gv ≤ 1000000000) (hn : 0 ≤ now ∧ now ≤ 1000000000) (hm : 0 ≤ m ∧ m ≤ 1000000000) :
    Lqcz none [.s x, .i w, .i now, .i gv, .i b, .i k, .s s, .s n, .i m, .s t, .l r, .l T, .l P, .l (encL L)] =
      some [.i 0, .i 0, .i 0, .i 0, .i 0, .l [], .l [], .l [], .s E0, .i (gv + 1), .s E0, .s E0, .i w, .i now, .i (gv + 1), .i b, .i k, .s s, .s n, .i m, .s t, .l r, .l T, .l P, .l (encL (L ++ [⟨gv + 1, x, now + m⟩]))] := by
  rw [eqcz_i, ← zc9, mostE]; simp (disch := omega) only [push_cast] <;> rfl
theorem zef {α : Type} (l : List α) (i : Nat) : (l.drop 0).take (i - 0) = l.take i := by simp
theorem zer {α : Type} (l : List α) (i : Nat) : (l.drop i).take (l.length - i) = l.drop i := List.take_of_length_le (by simp)
def args4 (s : State) (e : Entry) : Lv := [.i s.width, .i s.now, .i s.given, .i s.births, .i e.kind, .s e.sum, .s e.name, .i e.number, .s e.thing.text, .l (encS e.thing.refs), .i 0, .i 0, .i 0, .i 0, .i 0, .s E0, .i 0, .s E0, .s E0, .l (encK s.things), .l (encP s.pins), .l (encL s.leases), .l [], .l [], .l []]
section
variable {s : State} {e : Entry} (V : VS s)
include V
theorem ztn (hk : e.kind = 2) (r : Bool) : Lqa (some 4) (.b r :: args4 s e) = some (z6 (chg s e)) := by
  unfold args4 chg
  have h1 := V.nT; have h2 := V.nP
  rw [eqa_4, if_neg (by omega), if_pos hk, hk]
  by_cases hT : hasT s.things e.sum
  · have hl := lb_le (qP e.name) s.pins
    rw [if_pos hT]
    simp (disch := omega) only [push_cast, zbo _ _ _ _ s.things _ _ e.sum V.srtT (by omega), decide_eq_true hT, zj3 _ _ _ _ _ _ s.pins e.name V.srtP (by omega)]
    by_cases hP : hasP s.pins e.name
    · have hi := (zcz V.srtP e.name).1 hP
      rw [if_pos (Or.inl hP), decide_eq_true hP]
      simp (disch := omega) only [push_cast, zbn]
      rw [wrP _ _ _ hi.1, hi.2]
      unfold z6 done encSt putP
      rw [if_pos hP]; rfl
    · rw [decide_eq_false hP]
      by_cases hc : s.pins.length = 100
      · rw [if_neg (by rintro (h | h); exact hP h; omega)]
        simp (disch := omega) only [push_cast, zbn]; rfl
      · rw [if_pos (Or.inr (by omega))]
        have hs1 : Eng.sub (encP s.pins) 0 (lb (qP e.name) s.pins) = encP (s.pins.take (lb (qP e.name) s.pins)) := by rw [ze4, zef]
        have hs2 : Eng.sub (encP s.pins) (lb (qP e.name) s.pins) s.pins.length = encP (s.pins.drop (lb (qP e.name) s.pins)) := by rw [ze4, zer]
        simp (disch := omega) only [push_cast, hs1, hs2, mostE, List.length_append, List.length_take, List.length_drop]
        rw [zee, zen, zb2, zb2]
        unfold z6 done encSt putP
        rw [if_neg hP, List.append_assoc]; rfl
  · rw [if_neg hT]
    simp (disch := omega) only [push_cast, zbo _ _ _ _ s.things _ _ e.sum V.srtT (by omega), decide_eq_false hT, zbn]; rfl
theorem znh (hk : e.kind = 3) (r : Bool) : Lqa (some 4) (.b r :: args4 s e) = some (z6 (chg s e)) := by
  unfold args4 chg
  have h1 := V.nT; have h2 := V.nP
  rw [eqa_4, if_neg (by omega), if_neg (by omega), if_pos hk, hk]
  have hl := lb_le (qP e.name) s.pins
  simp (disch := omega) only [push_cast, zj3 _ _ _ _ _ _ s.pins e.name V.srtP (by omega)]
  by_cases hP : hasP s.pins e.name
  · have hi := (zcz V.srtP e.name).1 hP
    rw [if_pos hP, decide_eq_true hP]
    have hs1 : Eng.sub (encP s.pins) 0 (lb (qP e.name) s.pins) = encP (s.pins.take (lb (qP e.name) s.pins)) := by rw [ze4, zef]
    have hs2 : Eng.sub (encP s.pins) (lb (qP e.name) s.pins + 1) s.pins.length = encP (s.pins.drop (lb (qP e.name) s.pins + 1)) := by rw [ze4, zer]
    simp (disch := omega) only [push_cast, hs1, hs2, mostE, List.length_append, List.length_take, List.length_drop]
    rw [zee, zb2]
    unfold z6 done encSt delP
    rw [zgp P0 V.srtP (pp e.name) (pR e.name) hP]; rfl
  · rw [if_neg hP, decide_eq_false hP]
    simp (disch := omega) only [push_cast, zbn]; rfl
theorem zmm (hk : e.kind = 4) (hm : 0 ≤ e.number ∧ e.number ≤ 1000000000) : Lqa (some 4) (.b (decide (room s)) :: args4 s e) = some (z6 (chg s e)) := by
  unfold args4 chg
  have h1 := V.nT; have h2 := V.nL
  rw [eqa_4, if_neg (by omega), if_neg (by omega), if_neg (by omega), if_pos hk, hk]
  by_cases hT : hasT s.things e.sum
  · rw [if_pos hT]
    simp (disch := omega) only [push_cast, zbo _ _ _ _ s.things _ _ e.sum V.srtT (by omega), decide_eq_true hT]
    by_cases hr : room s
    · rw [if_pos hr, decide_eq_true hr]
      simp (disch := omega) only [push_cast, zlb e.sum s.width s.now s.given s.births 4 e.sum e.name e.number e.thing.text (encS e.thing.refs) (encK s.things) (encP s.pins) s.leases (by omega) V.given V.now hm]; rfl
    · rw [if_neg hr, decide_eq_false hr]
      simp (disch := omega) only [push_cast, zbn]; rfl
  · rw [if_neg hT]
    simp (disch := omega) only [push_cast, zbo _ _ _ _ s.things _ _ e.sum V.srtT (by omega), decide_eq_false hT, zbn]; rfl
theorem zqf (hk : e.kind = 5) (r : Bool) : Lqa (some 4) (.b r :: args4 s e) = some (z6 (chg s e)) := by
  unfold args4 chg
  have h1 := V.nT; have h2 := V.nL
  rw [eqa_4, if_neg (by omega), if_neg (by omega), if_neg (by omega), if_neg (by omega), if_pos hk, hk]
  have hl := lb_le (qL e.number) s.leases
  simp (disch := omega) only [push_cast, zsr _ _ _ _ _ _ s.leases e.number V.srtL (by omega)]
  by_cases hP : hasL s.leases e.number
  · have hi := (zmb V.srtL e.number).1 hP
    rw [if_pos hP, decide_eq_true hP]
    have hs1 : Eng.sub (encL s.leases) 0 (lb (qL e.number) s.leases) = encL (s.leases.take (lb (qL e.number) s.leases)) := by rw [zmc, zef]
    have hs2 : Eng.sub (encL s.leases) (lb (qL e.number) s.leases + 1) s.leases.length = encL (s.leases.drop (lb (qL e.number) s.leases + 1)) := by rw [zmc, zer]
    simp (disch := omega) only [push_cast, hs1, hs2, mostE, List.length_append, List.length_take, List.length_drop]
    rw [zee, zc9]
    unfold z6 done encSt delL
    rw [zgp L0 V.srtL (lp e.number) (lR e.number) hP]; rfl
  · rw [if_neg hP, decide_eq_false hP]
    simp (disch := omega) only [push_cast, zbn]; rfl
theorem zse (hk : e.kind = 6) (hm : 0 ≤ e.number ∧ e.number ≤ 1000000000) (r : Bool) : Lqa (some 4) (.b r :: args4 s e) = some (z6 (chg s e)) := by
  unfold args4 chg
  have h2 := V.nL; have h3 := V.now
  rw [eqa_4, if_neg (by omega), if_neg (by omega), if_neg (by omega), if_neg (by omega), if_neg (by omega), if_pos hk, hk]
  by_cases hn : s.now + e.number ≤ 1000000000
  · rw [if_pos hn]
    simp (disch := omega) only [push_cast]
    have := zbc (f := fun (i : Nat) (a : List Lease) => Lqa (some 65) [.i (s.leases.length : Int), .i (i : Int), .i s.width, .i (s.now + e.number), .i s.given, .i s.births, .i 0, .i 0, .i 0, .i 0, .i 0, .s E0, .i 0, .s E0, .s E0, .l (encL a), .l (encL s.leases), .l (encK s.things), .l (encP s.pins), .l [], .l [], .l []]) (n := s.leases.length)
      (T := some (z6 (done { s with now := s.now + e.number, leases := s.leases.filter fun l => decide (s.now + e.number < l.till) })))
      (I := fun i a => a = (s.leases.take i).filter fun l => decide (s.now + e.number < l.till)) (fun i a hi hI => by
        have hle : a.length ≤ i := by rw [hI]; exact Nat.le_trans (List.length_filter_le _ _) (by simp; omega)
        by_cases ht : s.now + e.number < (nth L0 s.leases i).till
        · refine ⟨a ++ [nth L0 s.leases i], ?_, ?_⟩
          · show Lqa _ _ = Lqa _ _
            rw [eqa_65, mostE, ← zc9]; simp (disch := omega) only [push_cast] <;> rfl
          · show a ++ [nth L0 s.leases i] = _
            rw [zba L0 hi, List.filter_append, ← hI]; simp [ht]
        · refine ⟨a, ?_, ?_⟩
          · show Lqa _ _ = Lqa _ _
            rw [eqa_65]; simp (disch := omega) only [push_cast]
          · show a = _
            rw [zba L0 hi, List.filter_append, ← hI]; simp [ht]) (fun a hI => by
        show Lqa _ _ = _
        rw [eqa_65]; simp (disch := omega) only [push_cast, zee]
        rw [hI, List.take_length]; rfl) 0 [] (Nat.zero_le _) rfl
    exact this
  · rw [if_neg hn]
    simp (disch := omega) only [push_cast, zbn]; rfl
theorem ztc (hk : e.kind = 7) (r : Bool) : Lqa (some 4) (.b r :: args4 s e) = some (z6 (chg s e)) := by
  unfold args4 chg
  have h1 := V.nT; have h2 := V.nP; have h3 := V.nL
  rw [eqa_4, if_neg (by omega), if_neg (by omega), if_neg (by omega), if_neg (by omega), if_neg (by omega), if_neg (by omega), hk]
  have hl := lb_le (qK e.sum) s.things
  by_cases hT : hasT s.things e.sum
  · have hi := (zbs V.srtT e.sum).1 hT
    have hh := zmx s e.sum (by omega) (by omega)
    have hr := zq4 s.width s.now s.given s.births s.things (encP s.pins) (encL s.leases) e.sum (by omega) (fun k hk => by have := (V.okT k hk).1.refs; omega)
    rw [if_pos hT]
    unfold encSt at hh
    simp (disch := omega) only [push_cast, zbo _ _ _ _ s.things _ _ e.sum V.srtT (by omega), decide_eq_true hT, hh]
    by_cases c1 : held s e.sum
    · rw [if_pos (Or.inl c1), decide_eq_true c1]
      simp (disch := omega) only [push_cast, zir]; rfl
    · rw [decide_eq_false c1]
      by_cases c2 : isRef s.things e.sum
      · rw [if_pos (Or.inr c2)]
        simp (disch := omega) only [push_cast, hr, decide_eq_true c2, zir]; rfl
      · rw [if_neg (by rintro (h | h); exact c1 h; exact c2 h)]
        have hs1 : Eng.sub (encK s.things) 0 (lb (qK e.sum) s.things) = encK (s.things.take (lb (qK e.sum) s.things)) := by rw [zb9, zef]
        have hs2 : Eng.sub (encK s.things) (lb (qK e.sum) s.things + 1) s.things.length = encK (s.things.drop (lb (qK e.sum) s.things + 1)) := by rw [zb9, zer]
        simp (disch := omega) only [push_cast, hr, decide_eq_false c2, hs1, hs2, mostE, List.length_append, List.length_take, List.length_drop]
        rw [zee, z8]
        unfold z6 done encSt delK
        rw [zgp K0 V.srtT (kp e.sum) (kR e.sum) hT]; rfl
  · rw [if_neg hT]
    simp (disch := omega) only [push_cast, zbo _ _ _ _ s.things _ _ e.sum V.srtT (by omega), decide_eq_false hT, zbn]; rfl
end
end KV
end
section
namespace KV
open Go Go.Eng
open Classical
section
variable {s : State} {e : Entry} (V : VS s)
include V
theorem zlp (x : Bs) (b : Int) (T : Rw) (hm : 0 ≤ e.number ∧ e.number ≤ 1000000000) :
    Lqa (some 27) [.s x, .i s.width, .i s.now, .i s.given, .i b, .i 0, .i 0, .i 0, .i 0, .i 0, .s E0, .i 0, .s E0, .s E0, .i e.kind, .s e.sum, .s e.name, .i e.number, .s e.thing.text, .l (encS e.thing.refs), .l T, .l (encP s.pins), .l (encL s.leases), .l [], .l [], .l []] =
      some [.i 0, .i 0, .i 0, .i 0, .i 0, .l [], .l [], .l [], .s x, .i (s.given + 1), .s E0, .s E0, .i s.width, .i s.now, .i (s.given + 1), .i b, .l T, .l (encP s.pins), .l (encL (s.leases ++ [⟨s.given + 1, x, s.now + e.number⟩]))] := by
  have h2 := V.nL
  rw [eqa_27]
  simp (disch := omega) only [push_cast, zlb x s.width s.now s.given b e.kind e.sum e.name e.number e.thing.text (encS e.thing.refs) T (encP s.pins) s.leases (by omega) V.given V.now hm]
theorem zs5 (h : ThingOk e.thing s.width) (hm : 0 ≤ e.number ∧ e.number ≤ 1000000000) (hr : ∀ r ∈ e.thing.refs, hasT s.things r) :
    Lqa (some 7) [.b (decide (room s)), .l (encS e.thing.refs), .i (e.thing.refs.length : Int), .i (e.thing.refs.length : Int), .i s.width, .i s.now, .i s.given, .i s.births, .i e.kind, .s e.sum, .s e.name, .i e.number, .s e.thing.text, .l (encS e.thing.refs), .i 0, .i 0, .i 0, .i 0, .i 0, .s E0, .i 0, .s E0, .s E0, .l (encK s.things), .l (encP s.pins), .l (encL s.leases), .l [], .l [], .l []] = some (z6 (putS s e)) := by
  have h1 := V.nT; have h2 := V.nL; have h3 := V.births
  have hw : zj s.width = true := zw.2 V.wd
  have hz := zbe h
  have hfs := zbh e.thing
  unfold putS
  rw [eqa_7, if_neg (by rintro ⟨r, h4, h5⟩; exact h5 (hr r h4))]
  have hl := lb_le (qK (sumM (formM e.thing) s.width)) s.things
  generalize hx : sumM (formM e.thing) s.width = x at hl
  simp (disch := omega) only [push_cast, zbv h, zbl (formM e.thing) s.width (by omega), hx, zbo _ _ _ _ s.things _ _ x V.srtT (by omega)]
  by_cases hT : hasT s.things x
  · have hi := (zbs V.srtT x).1 hT
    have hk := (V.okT _ (zi (d := K0) hi.1)).1
    rw [if_pos hT, decide_eq_true hT]
    simp (disch := omega) only [push_cast, zbv hk]
    by_cases hf : formM (nth K0 s.things (lb (qK x) s.things)).thing = formM e.thing
    · rw [if_pos hf, decide_eq_true hf]
      by_cases hro : room s
      · rw [if_pos hro, decide_eq_true hro]
        simp (disch := omega) only [push_cast]
        rw [eqa_22]
        simp (disch := omega) only [push_cast, zlp V x s.births (encK s.things) hm]; rfl
      · rw [if_neg hro, decide_eq_false hro]
        simp (disch := omega) only [push_cast, zfi]; rfl
    · rw [if_neg hf, decide_eq_false hf]
      simp (disch := omega) only [push_cast] <;> rfl
  · rw [if_neg hT, decide_eq_false hT]
    by_cases hro : room s
    · rw [decide_eq_true hro]
      by_cases c1 : s.things.length = 600
      · rw [if_neg (by omega)]
        simp (disch := omega) only [push_cast, zfi]; rfl
      · by_cases c2 : s.births = 1000000000
        · rw [if_neg (by omega)]
          simp (disch := omega) only [push_cast, zfi]; rfl
        · rw [if_pos ⟨hro, by omega, by omega⟩]
          simp (disch := omega) only [push_cast]
          have hs1 : Eng.sub (encK s.things) 0 (lb (qK x) s.things) = encK (s.things.take (lb (qK x) s.things)) := by rw [zb9, zef]
          have hs2 : Eng.sub (encK s.things) (lb (qK x) s.things) s.things.length = encK (s.things.drop (lb (qK x) s.things)) := by rw [zb9, zer]
          rw [eqa_22]
          simp (disch := omega) only [push_cast, hs1, hs2, mostE, List.length_append, List.length_take, List.length_drop, zf0 (encS e.thing.refs) (by rw [zbk]; omega)]
          rw [zcy, z8, z8, List.append_assoc]
          rw [zlp V x (s.births + 1) _ hm]; rfl
    · rw [decide_eq_false hro, if_neg (by rintro ⟨h4, _⟩; exact hro h4)]
      simp (disch := omega) only [push_cast, zfi]; rfl
theorem zp4 (hk : e.kind = 1) (h : ThingOk e.thing s.width) (hm : 0 ≤ e.number ∧ e.number ≤ 1000000000) : Lqa (some 4) (.b (decide (room s)) :: args4 s e) = some (z6 (chg s e)) := by
  have h1 := V.nT; have h4 := h.refs
  unfold args4 chg
  rw [eqa_4, if_pos hk]
  simp (disch := omega) only [push_cast]
  have := zbx (f := fun i : Nat => Lqa (some 7) [.b (decide (room s)), .l (encS e.thing.refs), .i (e.thing.refs.length : Int), .i (i : Int), .i s.width, .i s.now, .i s.given, .i s.births, .i e.kind, .s e.sum, .s e.name, .i e.number, .s e.thing.text, .l (encS e.thing.refs), .i 0, .i 0, .i 0, .i 0, .i 0, .s E0, .i 0, .s E0, .s E0, .l (encK s.things), .l (encP s.pins), .l (encL s.leases), .l [], .l [], .l []])
    .empty (l := e.thing.refs) (p := fun r => ¬ hasT s.things r) (T := some (z6 (fail s 2))) (E := Lqa (some 7) [.b (decide (room s)), .l (encS e.thing.refs), .i (e.thing.refs.length : Int), .i (e.thing.refs.length : Int), .i s.width, .i s.now, .i s.given, .i s.births, .i e.kind, .s e.sum, .s e.name, .i e.number, .s e.thing.text, .l (encS e.thing.refs), .i 0, .i 0, .i 0, .i 0, .i 0, .s E0, .i 0, .s E0, .s E0, .l (encK s.things), .l (encP s.pins), .l (encL s.leases), .l [], .l [], .l []]) (fun i hi => by
      show Lqa _ _ = cond _ _ (Lqa _ _)
      rw [eqa_7]
      simp (disch := omega) only [push_cast, zbo _ _ _ _ s.things _ _ (nth .empty e.thing.refs i) V.srtT (by omega), zbn]
      by_cases hT : hasT s.things (nth .empty e.thing.refs i)
      · rw [decide_eq_true hT, decide_eq_false (not_not_intro hT)]; rfl
      · rw [decide_eq_false hT, decide_eq_true hT]; rfl) rfl
  refine this.trans ?_
  by_cases hr : ∃ r ∈ e.thing.refs, ¬ hasT s.things r
  · rw [if_pos hr]; unfold putS; rw [if_pos hr]
  · rw [if_neg hr, zs5 V h hm fun r hr2 => Classical.byContradiction fun h5 => hr ⟨r, hr2, h5⟩]
theorem zqr (he : zh e s.width = true) : Lqa none (encE e ++ encSt s) = some (z6 (chg s e)) := by
  have h2 := V.nL; have hg := V.given
  have hnum := EntryOk.num he; have hk := EntryOk.kd he
  show Lqa none [.i e.kind, .s e.sum, .s e.name, .i e.number, .s e.thing.text, .l (encS e.thing.refs), .i s.width, .i s.now, .i s.given, .i s.births, .l (encK s.things), .l (encP s.pins), .l (encL s.leases)] = _
  have : Lqa none [.i e.kind, .s e.sum, .s e.name, .i e.number, .s e.thing.text, .l (encS e.thing.refs), .i s.width, .i s.now, .i s.given, .i s.births, .l (encK s.things), .l (encP s.pins), .l (encL s.leases)] = Lqa (some 4) (.b (decide (room s)) :: args4 s e) := by
    rw [eqa_i]
    by_cases hl : s.leases.length < 200
    · have : decide (room s) = decide (s.given < 1000000000) := decide_eq_decide.2 ⟨fun h => h.2, fun h => ⟨hl, h⟩⟩
      simp (disch := omega) only [push_cast, this]; rfl
    · rw [decide_eq_false fun h : room s => hl h.1]; simp (disch := omega) only [push_cast]; rfl
  rw [this]
  have hc : e.kind = 1 ∨ e.kind = 2 ∨ e.kind = 3 ∨ e.kind = 4 ∨ e.kind = 5 ∨ e.kind = 6 ∨ e.kind = 7 := by omega
  rcases hc with h | h | h | h | h | h | h
  · exact zp4 V h (EntryOk.thing he h) hnum
  · exact ztn V h _
  · exact znh V h _
  · exact zmm V h hnum
  · exact zqf V h _
  · exact zse V h hnum _
  · exact ztc V h _
end
end KV
end
section
namespace KV
open Go Go.Eng
open Classical
noncomputable def findT (T : List Kept) (x : Bs) : Int := if hasT T x then (lb (qK x) T : Int) else -1
theorem zcn (w now g b : Int) (T : List Kept) (P L : Rw) (x : Bs) (h : SrtK T) (hn : T.length ≤ 1000000) : Lqe none [.i w, .i now, .i g, .i b, .l (encK T), .l P, .l L, .s x] = some [.i (findT T x)] := by
  rw [eqe_i]
  have := zl8 (f := fun i : Nat => Lqe (some 2) [.s x, .i (i : Int), .i w, .i now, .i g, .i b, .l (encK T), .l P, .l L]) (l := T) (d := K0) (p := fun k => decide (k.sum = x)) (ret := fun i => some [.i (i : Int)]) (e := some [.i (-1)]) (fun i hi => by
    show Lqe _ _ = cond _ _ (Lqe _ _)
    rw [eqe_2]; simp (disch := omega) only [push_cast]) (by show Lqe _ _ = _; rw [eqe_2]; simp (disch := omega) only [push_cast])
  refine this.trans ?_
  rw [zs2 K0 h (kp x) (kR x)]
  unfold findT
  by_cases hT : hasT T x
  · rw [if_pos hT, if_pos (show ∃ a ∈ T, a.sum = x from hT)]
  · rw [if_neg hT, if_neg (show ¬ ∃ a ∈ T, a.sum = x from hT)]
theorem zbi {T : List Kept} {x : Bs} : findT T x < 0 ↔ ¬ hasT T x := by
  unfold findT; split
  · rename_i h; simp [h]
  · rename_i h; simp [h]
def zo (o : Out) : Lv := if o.code = 0 then [.i 0, .i o.st.width, .i o.st.now, .i o.st.given, .i o.st.births, .l (encK o.st.things), .l (encP o.st.pins), .s o.sum, .i o.lease, .s o.a, .s o.b, .l (encL o.st.leases)]
  else [.i o.code, .i 0, .i 0, .i 0, .i 0, .l [], .l [], .s o.sum, .i o.lease, .s o.a, .s o.b, .l []]
theorem zr (l : List Bs) (x : Bs) (h : l.length ≤ 4611686018427387904) : Lqp none [.l (encS l), .s x] = some [.b (decide (x ∈ l))] := by
  rw [eqp_i]
  have := zbx (f := fun i : Nat => Lqp (some 2) [.l (encS l), .s x, .i (i : Int)]) .empty (l := l) (p := fun r => r = x) (T := some [.b true]) (E := some [.b false]) (fun i hi => by
    show Lqp _ _ = cond _ _ (Lqp _ _)
    rw [eqp_2]; simp (disch := omega) only [push_cast]) (by show Lqp _ _ = _; rw [eqp_2]; simp (disch := omega) only [push_cast])
  refine this.trans ?_
  by_cases h : ∃ r ∈ l, r = x
  · rw [if_pos h, decide_eq_true (p := x ∈ l) (by obtain ⟨r, hr, rfl⟩ := h; exact hr)]
  · rw [if_neg h, decide_eq_false (p := x ∈ l) (fun h3 => h ⟨x, h3, rfl⟩)]
theorem ziq (s : State) (x : Bs) (h1 : s.pins.length ≤ 1000000) (h2 : s.leases.length ≤ 1000000) : Lqs none (encSt s ++ [.s x]) = some [.b (decide (held s x))] := by
  show Lqs none [.i s.width, .i s.now, .i s.given, .i s.births, .l (encK s.things), .l (encP s.pins), .l (encL s.leases), .s x] = _
  rw [eqs_i]
  have a1 := zbx (f := fun i : Nat => Lqs (some 7) [.s x, .i (i : Int), .i s.width, .i s.now, .i s.given, .i s.births, .l (encK s.things), .l (encP s.pins), .l (encL s.leases)]) L0 (l := s.leases) (p := fun l => l.sum = x) (T := some [.b true]) (E := some [.b false]) (fun i hi => by
    show Lqs _ _ = cond _ _ (Lqs _ _)
    rw [eqs_7]; simp (disch := omega) only [push_cast]) (by show Lqs _ _ = _; rw [eqs_7]; simp (disch := omega) only [push_cast])
  have a2 := zbx (f := fun i : Nat => Lqs (some 2) [.s x, .i (i : Int), .i s.width, .i s.now, .i s.given, .i s.births, .l (encK s.things), .l (encP s.pins), .l (encL s.leases)]) P0 (l := s.pins) (p := fun l => l.sum = x) (T := some [.b true]) (E := Lqs (some 7) [.s x, .i 0, .i s.width, .i s.now, .i s.given, .i s.births, .l (encK s.things), .l (encP s.pins), .l (encL s.leases)]) (fun i hi => by
    show Lqs _ _ = cond _ _ (Lqs _ _)
    rw [eqs_2]; simp (disch := omega) only [push_cast]) (by show Lqs _ _ = _; rw [eqs_2]; simp (disch := omega) only [push_cast])
  refine a2.trans ?_
  by_cases h : ∃ p ∈ s.pins, p.sum = x
  · rw [if_pos h, decide_eq_true (p := held s x) (Or.inl h)]
  · rw [if_neg h]
    refine a1.trans ?_
    by_cases h3 : ∃ l ∈ s.leases, l.sum = x
    · rw [if_pos h3, decide_eq_true (p := held s x) (Or.inr h3)]
    · rw [if_neg h3, decide_eq_false (p := held s x) (by rintro (h4 | h4); exact h h4; exact h3 h4)]
theorem zfv (w now gv b : Int) (T P : Rw) (x : Bs) (m : Int) (L : List Lease) (hl : L.length ≤ 1000000) (hg : 0 ≤ gv ∧ gv ≤ 1000000000) (hn : 0 ≤ now ∧ now ≤ 1000000000) (hm : 0 ≤ m ∧ m ≤ 1000000000) :
    Lqcg none [.i w, .i now, .i gv, .i b, .l T, .l P, .s x, .i m, .l (encL L)] = some (if L.length < 200 ∧ gv < 1000000000 then [.i 0, .i w, .i now, .i (gv + 1), .i b, .l T, .l P, .s E0, .i (gv + 1), .s E0, .s E0, .l (encL (L ++ [⟨gv + 1, x, now + m⟩]))] else [.i 4, .i 0, .i 0, .i 0, .i 0, .l [], .l [], .s E0, .i 0, .s E0, .s E0, .l []]) := by
  rw [eqcg_i, ← zc9, mostE]
  by_cases h1 : L.length < 200
  · by_cases h2 : gv < 1000000000
    · rw [if_pos ⟨h1, h2⟩]; simp (disch := omega) only [push_cast] <;> rfl
    · rw [if_neg fun h => h2 h.2]; simp (disch := omega) only [push_cast]
  · rw [if_neg fun h => h1 h.1]; simp (disch := omega) only [push_cast]
theorem zce (w now g b : Int) (T : List Kept) (P L : Rw) (hT : T.length ≤ 1000000) (hr : ∀ k ∈ T, k.thing.refs.length ≤ 1000000) (hP : P.length ≤ 1000000) (hL : L.length ≤ 1000000) :
    Lqo none [.i w, .i now, .i g, .i b, .l (encK T), .l P, .l L] = some [.i w, .i now, .i g, .i b, .l (encK T), .l P, .l L] := by
  rw [eqo_i]
  have := zbc (f := fun (i : Nat) (a : List Kept) => Lqo (some 4) [.i (i : Int), .i w, .i now, .i g, .i b, .l (encK T), .l P, .l L, .i 0, .i 0, .i 0, .i 0, .i w, .i now, .i g, .i b, .l P, .l L, .l [], .l [], .l [], .l (encK a)]) (n := T.length) (T := some [.i w, .i now, .i g, .i b, .l (encK T), .l P, .l L])
    (I := fun i a => a = T.take i) (fun i a hi hI => ⟨a ++ [nth K0 T i], by
      show Lqo _ _ = Lqo _ _
      have hk := hr _ (zi (d := K0) hi)
      have hl : a.length ≤ i := by rw [hI]; simp; omega
      rw [eqo_4, mostE, ← z8]
      simp (disch := omega) only [push_cast, zfp _ (encS (nth K0 T i).thing.refs) (by rw [zbk]; omega)] <;> rfl, by show a ++ [nth K0 T i] = _; rw [zba K0 hi, hI]⟩) (fun a hI => by
      show Lqo _ _ = _
      rw [eqo_4, mostE]
      simp (disch := omega) only [push_cast, List.nil_append]
      rw [hI, List.take_length]) 0 [] (Nat.zero_le _) rfl
  exact this
section
variable {s : State} {e : Entry} (V : VS s)
include V
theorem zcg : ∀ k ∈ s.things, k.thing.refs.length ≤ 1000000 := fun k hk => by have := (V.okT k hk).1.refs; omega
theorem zti (x : Bs) (bn : Int) (t : Thing) (hx : ¬ hasT s.things x) (hb : 0 ≤ bn ∧ bn ≤ 1000000000) (hm : 0 ≤ e.number ∧ e.number ≤ 1000000000) :
    Lqq (some 20) [.s x, .b false, .i 0, .i s.width, .i s.now, .i s.given, .i bn, .l (encK s.things), .l (encP s.pins), .i e.kind, .s e.sum, .s e.name, .i e.number, .s e.thing.text, .l (encS e.thing.refs), .i 0, .i 0, .i 0, .i 0, .i 0, .s E0, .i 0, .s E0, .s E0, .l [], .s x, .i bn, .s t.text, .l (encS t.refs), .l (encL s.leases), .l [], .l [], .l []] =
      some (if room s then [.i 0, .i s.width, .i s.now, .i (s.given + 1), .i bn, .l (encK (insK ⟨x, bn, t⟩ s.things)), .l (encP s.pins), .s x, .i (s.given + 1), .s E0, .s E0, .l (encL (s.leases ++ [⟨s.given + 1, x, s.now + e.number⟩]))] else [.i 4, .i 0, .i 0, .i 0, .i 0, .l [], .l [], .s E0, .i 0, .s E0, .s E0, .l []]) := by
  have h1 := V.nT; have h2 := V.nL
  have hl := lb_le (qK x) s.things
  have := zbc (f := fun (i : Nat) (a : Bool × List Kept) => Lqq (some 20) [.s x, .b a.1, .i (i : Int), .i s.width, .i s.now, .i s.given, .i bn, .l (encK s.things), .l (encP s.pins), .i e.kind, .s e.sum, .s e.name, .i e.number, .s e.thing.text, .l (encS e.thing.refs), .i 0, .i 0, .i 0, .i 0, .i 0, .s E0, .i 0, .s E0, .s E0, .l (encK a.2), .s x, .i bn, .s t.text, .l (encS t.refs), .l (encL s.leases), .l [], .l [], .l []]) (n := s.things.length)
    (T := some (if room s then [.i 0, .i s.width, .i s.now, .i (s.given + 1), .i bn, .l (encK (insK ⟨x, bn, t⟩ s.things)), .l (encP s.pins), .s x, .i (s.given + 1), .s E0, .s E0, .l (encL (s.leases ++ [⟨s.given + 1, x, s.now + e.number⟩]))] else [.i 4, .i 0, .i 0, .i 0, .i 0, .l [], .l [], .s E0, .i 0, .s E0, .s E0, .l []]))
    (I := fun i a => (i ≤ lb (qK x) s.things ∧ a = (false, s.things.take i)) ∨ (lb (qK x) s.things < i ∧ a = (true, s.things.take (lb (qK x) s.things) ++ ⟨x, bn, t⟩ :: (s.things.drop (lb (qK x) s.things)).take (i - lb (qK x) s.things)))) (fun i a hi hI => by
      rcases hI with ⟨hi2, rfl⟩ | ⟨hi2, rfl⟩
      · rcases Nat.eq_or_lt_of_le hi2 with he | hlt
        · refine ⟨(true, (s.things.take i ++ [⟨x, bn, t⟩]) ++ [nth K0 s.things i]), ?_, .inr ⟨by omega, ?_⟩⟩
          · show Lqq _ _ = Lqq _ _
            have c1 : slt (nth K0 s.things i).sum x = false := by rw [he]; exact lb_at (qK x) K0 s.things (by omega)
            have c2 : ¬ (nth K0 s.things i).sum = x := fun h => hx ⟨_, zi hi, h⟩
            rw [eqq_20, mostE, ← z8, ← z8]
            simp (disch := omega) only [push_cast, c1, Bool.false_or, decide_eq_false c2, List.length_append, List.length_take]
            rw [zcy, zcy]
          · rw [← he, Nat.add_sub_cancel_left, zd6 K0 hi]; simp
        · refine ⟨(false, s.things.take i ++ [nth K0 s.things i]), ?_, .inl ⟨hlt, by rw [zba K0 hi]⟩⟩
          show Lqq _ _ = Lqq _ _
          have c1 : slt (nth K0 s.things i).sum x = true := lb_lt (qK x) K0 s.things i hlt
          rw [eqq_20, mostE, ← z8]
          simp (disch := omega) only [push_cast, c1, Bool.true_or, List.length_append, List.length_take]
          rw [zcy]
      · refine ⟨(true, (s.things.take (lb (qK x) s.things) ++ ⟨x, bn, t⟩ :: (s.things.drop (lb (qK x) s.things)).take (i - lb (qK x) s.things)) ++ [nth K0 s.things i]), ?_, .inr ⟨by omega, ?_⟩⟩
        · show Lqq _ _ = Lqq _ _
          rw [eqq_20, mostE]
          conv => rhs; rw [← z8]
          simp (disch := omega) only [push_cast, List.length_append, List.length_take, List.length_drop]
          rw [zcy]
        · congr 1
          have hd : nth K0 s.things i = nth K0 (s.things.drop (lb (qK x) s.things)) (i - lb (qK x) s.things) := by
            rw [zk _ _ _ hi, zk _ _ _ (by simp; omega)]; simp; congr 1; omega
          rw [hd, show i + 1 - lb (qK x) s.things = (i - lb (qK x) s.things) + 1 by omega, zba K0 (by simp; omega)]
          simp) (fun a hI => by
      show Lqq _ _ = _
      rw [eqq_20]
      rcases hI with ⟨hi2, rfl⟩ | ⟨hi2, rfl⟩
      · have hlb : lb (qK x) s.things = s.things.length := by omega
        have hins : insK ⟨x, bn, t⟩ s.things = s.things ++ [⟨x, bn, t⟩] := by
          unfold insK; simp only; rw [hlb, List.take_length, List.drop_length]
        rw [List.take_length, zcy, z8, hins, mostE]
        simp (disch := omega) only [push_cast, zfv s.width s.now s.given bn _ (encP s.pins) x e.number s.leases (by omega) V.given V.now hm, List.length_append]
        by_cases hr : room s
        · rw [if_pos hr, if_pos (show s.leases.length < 200 ∧ s.given < 1000000000 from hr)]; simp (disch := omega) only [push_cast] <;> rfl
        · rw [if_neg hr, if_neg (show ¬ (s.leases.length < 200 ∧ s.given < 1000000000) from hr)]; simp (disch := omega) only [push_cast] <;> rfl
      · have hins : s.things.take (lb (qK x) s.things) ++ ⟨x, bn, t⟩ :: (s.things.drop (lb (qK x) s.things)).take (s.things.length - lb (qK x) s.things) = insK ⟨x, bn, t⟩ s.things := by
          unfold insK; simp only; rw [List.take_of_length_le (l := s.things.drop _) (by simp)]
        rw [hins]
        simp (disch := omega) only [push_cast, zfv s.width s.now s.given bn _ (encP s.pins) x e.number s.leases (by omega) V.given V.now hm]
        by_cases hr : room s
        · rw [if_pos hr, if_pos (show s.leases.length < 200 ∧ s.given < 1000000000 from hr)]; simp (disch := omega) only [push_cast] <;> rfl
        · rw [if_neg hr, if_neg (show ¬ (s.leases.length < 200 ∧ s.given < 1000000000) from hr)]; simp (disch := omega) only [push_cast] <;> rfl) 0 (false, []) (Nat.zero_le _) (.inl ⟨Nat.zero_le _, rfl⟩)
  exact this
theorem zdr (x : Bs) (P L : Rw) : Lqe none [.i s.width, .i s.now, .i s.given, .i s.births, .l (encK s.things), .l P, .l L, .s x] = some [.i (findT s.things x)] := by
  have h1 := V.nT
  exact zcn _ _ _ _ _ _ _ _ V.srtT (by omega)
def zb3 (s : State) (e : Entry) : Lv := [.i s.width, .i s.now, .i s.given, .i s.births, .l (encK s.things), .l (encP s.pins), .i e.kind, .s e.sum, .s e.name, .i e.number, .s e.thing.text, .l (encS e.thing.refs), .l (encL s.leases)]
theorem zsx (h : ThingOk e.thing s.width) (hm : 0 ≤ e.number ∧ e.number ≤ 1000000000) : Lqq none (zb3 s e) = some (zo (putS s e)) := by
  have h1 := V.nT; have h2 := V.nL; have h3 := V.births
  have hz := zbe h
  have hfs := zbh e.thing
  unfold zb3
  rw [eqq_i]
  simp (disch := omega) only [push_cast, zcq, formT, if_pos (zcl.2 h), zb4 (formM e.thing) s.width (by omega)]
  have hput := putS.eq_1 s e
  have hl := lb_le (qK (sumM (formM e.thing) s.width)) s.things
  generalize hx : sumM (formM e.thing) s.width = x at hl hput ⊢
  have := zbx (f := fun i : Nat => Lqq (some 4) [.s (formM e.thing), .s x, .i (i : Int), .i s.width, .i s.now, .i s.given, .i s.births, .l (encK s.things), .l (encP s.pins), .i e.kind, .s e.sum, .s e.name, .i e.number, .s e.thing.text, .l (encS e.thing.refs), .i 0, .i 0, .i 0, .i 0, .i 0, .s E0, .i 0, .s E0, .s E0, .l (encL s.leases), .l [], .l [], .l []])
    .empty (l := e.thing.refs) (p := fun r => ¬ hasT s.things r) (T := some (zo (fail s 2))) (E := Lqq (some 4) [.s (formM e.thing), .s x, .i (e.thing.refs.length : Int), .i s.width, .i s.now, .i s.given, .i s.births, .l (encK s.things), .l (encP s.pins), .i e.kind, .s e.sum, .s e.name, .i e.number, .s e.thing.text, .l (encS e.thing.refs), .i 0, .i 0, .i 0, .i 0, .i 0, .s E0, .i 0, .s E0, .s E0, .l (encL s.leases), .l [], .l [], .l []]) (fun i hi => by
      show Lqq _ _ = cond _ _ (Lqq _ _)
      rw [eqq_4]
      simp (disch := omega) only [push_cast, zdr V]
      by_cases hT : hasT s.things (nth .empty e.thing.refs i)
      · rw [decide_eq_false (show ¬ findT s.things (nth .empty e.thing.refs i) < 0 from fun h => zbi.1 h hT), decide_eq_false (not_not_intro hT)]; rfl
      · rw [decide_eq_true (zbi.2 hT), decide_eq_true hT]; rfl) rfl
  refine this.trans ?_
  by_cases hr : ∃ r ∈ e.thing.refs, ¬ hasT s.things r
  · rw [if_pos hr]; unfold putS; rw [if_pos hr]
  rw [if_neg hr, hput, if_neg hr, eqq_4]
  simp (disch := omega) only [push_cast, zdr V]
  unfold findT
  by_cases hT : hasT s.things x
  · have hi := (zbs V.srtT x).1 hT
    have hk := (V.okT _ (zi (d := K0) hi.1)).1
    rw [if_pos hT, if_pos hT]
    simp (disch := omega) only [push_cast, zcq, formT, if_pos (zcl.2 hk)]
    by_cases hf : formM (nth K0 s.things (lb (qK x) s.things)).thing = formM e.thing
    · rw [if_pos hf, decide_eq_true hf]
      simp (disch := omega) only [push_cast, zfv s.width s.now s.given s.births (encK s.things) (encP s.pins) x e.number s.leases (by omega) V.given V.now hm]
      by_cases hro : room s
      · rw [if_pos hro, if_pos (show s.leases.length < 200 ∧ s.given < 1000000000 from hro)]; simp (disch := omega) only [push_cast] <;> rfl
      · rw [if_neg hro, if_neg (show ¬ (s.leases.length < 200 ∧ s.given < 1000000000) from hro)]; simp (disch := omega) only [push_cast] <;> rfl
    · rw [if_neg hf, decide_eq_false hf]; simp (disch := omega) only [push_cast] <;> rfl
  · rw [if_neg hT, if_neg hT]
    by_cases c1 : s.things.length < 600
    · by_cases c2 : s.births < 1000000000
      · simp (disch := omega) only [push_cast, zfp _ (encS e.thing.refs) (by rw [zbk]; omega)]
        have := zti (e := e) V x (s.births + 1) e.thing hT (by omega) hm
        rw [this]
        by_cases hro : room s
        · rw [if_pos hro, if_pos ⟨hro, c1, c2⟩]; rfl
        · rw [if_neg hro, if_neg fun h => hro h.1]; rfl
      · simp (disch := omega) only [push_cast]
        rw [if_neg fun h => c2 h.2.2]; rfl
    · simp (disch := omega) only [push_cast]
      rw [if_neg fun h => c1 h.2.1]; rfl
end
end KV
end
section
namespace KV
open Go Go.Eng
open Classical
theorem zoy {α : Type} {R : α → α → Prop} {q : α → Bool} {p : α → Prop} [DecidablePred p] (d : α) {l : List α} (h : l.Pairwise R) (hp : ∀ a, p a → q a = false) (hR : ∀ a b, R a b → p b → q a = true) :
    (l.drop (lb q l)).filter (fun a => !decide (p a)) = if ∃ a ∈ l, p a then l.drop (lb q l + 1) else l.drop (lb q l) := by
  have tail : ∀ k, lb q l < k → (l.drop k).filter (fun a => !decide (p a)) = l.drop k := fun k hk => by
    apply List.filter_eq_self.2
    intro a ha
    obtain ⟨j, hj, rfl⟩ := List.mem_iff_getElem.1 ha
    simp only [List.getElem_drop, Bool.not_eq_true', decide_eq_false_iff_not]
    rw [List.length_drop] at hj
    rw [← zk d l _ (by omega)]
    intro hpj; have := zcj d h hp hR (show k + j < l.length by omega) hpj; omega
  split
  · rename_i he
    obtain ⟨h1, h2⟩ := (zc2 d h hp hR).1 he
    rw [zd6 d h1, List.filter_cons, if_neg (by simp [h2]), tail _ (by omega)]
  · rename_i he
    apply List.filter_eq_self.2
    intro a ha
    simp only [Bool.not_eq_true', decide_eq_false_iff_not]
    exact fun hpa => he ⟨a, List.mem_of_mem_drop ha, hpa⟩
theorem zid {l : List Pin} (h : SrtP l) (n x : Bs) : l.take (lb (qP n) l) ++ ⟨n, x⟩ :: (l.drop (lb (qP n) l)).filter (fun k => !decide (k.name = n)) = putP n x l := by
  rw [zoy P0 h (pp n) (pR n)]
  unfold putP
  by_cases hP : hasP l n
  · rw [if_pos (show ∃ a ∈ l, a.name = n from hP), if_pos hP, List.set_eq_take_append_cons_drop, if_pos ((zcz h n).1 hP).1]
  · rw [if_neg (show ¬ ∃ a ∈ l, a.name = n from hP), if_neg hP]
theorem zpo (l : List Pin) (n x : Bs) : (putP n x l).length = if hasP l n then l.length else l.length + 1 := by
  have := lb_le (qP n) l
  unfold putP; split
  · rw [List.length_set]
  · simp; omega
theorem zep {α : Type} (d : α) {l : List α} {p : α → Bool} {f : Nat → List α → Option Lv} {T : Option Lv} (step : ∀ i a, i < l.length → a.length ≤ i → f i a = f (i + 1) (if p (nth d l i) = true then a ++ [nth d l i] else a)) (last : f l.length (l.filter p) = T) : f 0 [] = T := by
  refine zbc (f := f) (n := l.length) (T := T) (I := fun i a => a = (l.take i).filter p) (fun i a hi hI => ?_) (fun a hI => ?_) 0 [] (Nat.zero_le _) rfl
  · refine ⟨_, step i a hi ?_, ?_⟩
    · rw [hI]; exact Nat.le_trans (List.length_filter_le _ _) (by simp; omega)
    · rw [zba d hi, List.filter_append, ← hI]
      by_cases h : p (nth d l i) = true
      · rw [if_pos h]; simp [h]
      · rw [if_neg h]; simp [h]
  · rw [hI, List.take_length]; exact last
theorem zlw {α : Type} {l : List α} {p : α → Prop} [DecidablePred p] : (l.filter fun a => !decide (p a)).length = l.length ↔ ¬ ∃ a ∈ l, p a := by
  rw [List.length_filter_eq_length_iff]
  simp
def zbd (o : Out) : Lv := if o.code = 0 then [.i 0, .i o.st.width, .i o.st.now, .i o.st.given, .i o.st.births, .l (encK o.st.things), .s o.sum, .i o.lease, .s o.a, .s o.b, .l (encP o.st.pins), .l (encL o.st.leases)]
  else [.i o.code, .i 0, .i 0, .i 0, .i 0, .l [], .s o.sum, .i o.lease, .s o.a, .s o.b, .l [], .l []]
theorem zlo {o : Out} (h : o.code = 0) : zo o = [.i 0, .i o.st.width, .i o.st.now, .i o.st.given, .i o.st.births, .l (encK o.st.things), .l (encP o.st.pins), .s o.sum, .i o.lease, .s o.a, .s o.b, .l (encL o.st.leases)] := by unfold zo; rw [if_pos h]
theorem zi5 {o : Out} (h : ¬ o.code = 0) : zo o = [.i o.code, .i 0, .i 0, .i 0, .i 0, .l [], .l [], .s o.sum, .i o.lease, .s o.a, .s o.b, .l []] := by unfold zo; rw [if_neg h]
section
variable {s : State} {e : Entry} (V : VS s)
include V
theorem znu (hk : e.kind = 2) : Lqz none (zb3 s e) = some (zbd (chg s e)) := by
  have h2 := V.nP
  have hl := lb_le (qP e.name) s.pins
  unfold zb3 chg
  rw [eqz_i, if_neg (by omega), if_pos hk]
  simp (disch := omega) only [push_cast, zdr V]
  by_cases hT : hasT s.things e.sum
  · rw [if_pos hT, decide_eq_false (show ¬ findT s.things e.sum < 0 from fun h => zbi.1 h hT)]
    simp (disch := omega) only [push_cast]
    have := zbc (f := fun (i : Nat) (a : Bool × List Pin) => Lqz (some 6) [.b a.1, .i (i : Int), .i s.width, .i s.now, .i s.given, .i s.births, .l (encK s.things), .l (encP s.pins), .i e.kind, .s e.sum, .s e.name, .i e.number, .s e.thing.text, .l (encS e.thing.refs), .i 0, .i 0, .i 0, .i 0, .i 0, .s E0, .i 0, .s E0, .s E0, .l (encP a.2), .l (encL s.leases), .l [], .l [], .l []]) (n := s.pins.length)
      (T := some (zbd (if hasP s.pins e.name ∨ s.pins.length < 100 then done { s with pins := putP e.name e.sum s.pins } else fail s 4)))
      (I := fun i a => (i ≤ lb (qP e.name) s.pins ∧ a = (false, s.pins.take i)) ∨ (lb (qP e.name) s.pins < i ∧ a = (true, s.pins.take (lb (qP e.name) s.pins) ++ ⟨e.name, e.sum⟩ :: ((s.pins.drop (lb (qP e.name) s.pins)).take (i - lb (qP e.name) s.pins)).filter (fun k => !decide (k.name = e.name))))) (fun i a hi hI => by
        have step11 : ∀ (b : Bool) (l : List Pin), l.length ≤ 1000 → Lqz (some 11) [.b b, .i (i : Int), .i s.width, .i s.now, .i s.given, .i s.births, .l (encK s.things), .l (encP s.pins), .i e.kind, .s e.sum, .s e.name, .i e.number, .s e.thing.text, .l (encS e.thing.refs), .i 0, .i 0, .i 0, .i 0, .i 0, .s E0, .i 0, .s E0, .s E0, .l (encP l), .l (encL s.leases), .l [], .l [], .l []] =
            Lqz (some 6) [.b b, .i ((i + 1 : Nat) : Int), .i s.width, .i s.now, .i s.given, .i s.births, .l (encK s.things), .l (encP s.pins), .i e.kind, .s e.sum, .s e.name, .i e.number, .s e.thing.text, .l (encS e.thing.refs), .i 0, .i 0, .i 0, .i 0, .i 0, .s E0, .i 0, .s E0, .s E0, .l (encP (if (nth P0 s.pins i).name = e.name then l else l ++ [nth P0 s.pins i])), .l (encL s.leases), .l [], .l [], .l []] := fun b l hll => by
          rw [eqz_11, mostE]
          by_cases hc : (nth P0 s.pins i).name = e.name
          · rw [if_pos hc]; simp (disch := omega) only [push_cast]
          · rw [if_neg hc, ← zb2]; simp (disch := omega) only [push_cast]; rfl
        rcases hI with ⟨hi2, rfl⟩ | ⟨hi2, rfl⟩
        · rcases Nat.eq_or_lt_of_le hi2 with he | hlt
          · refine ⟨_, ?_, .inr ⟨by omega, rfl⟩⟩
            show Lqz _ _ = Lqz _ _
            have c1 : slt (nth P0 s.pins i).name e.name = false := by rw [he]; exact lb_at (qP e.name) P0 s.pins (by omega)
            rw [eqz_6, mostE]
            simp (disch := omega) only [push_cast, c1, List.length_append, List.length_take]
            rw [zen, zb2, step11 true _ (by simp; omega)]
            rw [← he, Nat.add_sub_cancel_left, zd6 P0 hi]
            by_cases hc : (nth P0 s.pins i).name = e.name
            · simp [hc]
            · simp [hc]
          · refine ⟨(false, s.pins.take (i + 1)), ?_, .inl ⟨hlt, rfl⟩⟩
            show Lqz _ _ = Lqz _ _
            have c1 : slt (nth P0 s.pins i).name e.name = true := lb_lt (qP e.name) P0 s.pins i hlt
            have c2 : ¬ (nth P0 s.pins i).name = e.name := zom c1
            rw [eqz_6, mostE]
            simp (disch := omega) only [push_cast, c1]
            rw [step11 false _ (by simp; omega), if_neg c2, zba P0 hi]; simp (disch := omega) only [push_cast]
        · have hfl := List.length_filter_le (fun k : Pin => !decide (k.name = e.name)) ((s.pins.drop (lb (qP e.name) s.pins)).take (i - lb (qP e.name) s.pins))
          simp only [List.length_take, List.length_drop] at hfl
          refine ⟨_, ?_, .inr ⟨by omega, rfl⟩⟩
          show Lqz _ _ = Lqz _ _
          rw [eqz_6]
          simp (disch := omega) only [push_cast]
          rw [step11 true _ (by simp; omega)]
          have hd : nth P0 s.pins i = nth P0 (s.pins.drop (lb (qP e.name) s.pins)) (i - lb (qP e.name) s.pins) := by
            rw [zk _ _ _ hi, zk _ _ _ (by simp; omega)]; simp; congr 1; omega
          rw [show i + 1 - lb (qP e.name) s.pins = (i - lb (qP e.name) s.pins) + 1 by omega, zba P0 (by simp; omega), ← hd]
          by_cases hc : (nth P0 s.pins i).name = e.name
          · simp [hc, List.filter_append]
          · simp [hc, List.filter_append]) (fun a hI => by
        show Lqz _ _ = _
        have hpl := zpo s.pins e.name e.sum
        rw [eqz_6]
        rcases hI with ⟨hi2, rfl⟩ | ⟨hi2, rfl⟩
        · have hlb : lb (qP e.name) s.pins = s.pins.length := by omega
          have hnP : ¬ hasP s.pins e.name := fun h => by have := ((zcz V.srtP e.name).1 h).1; omega
          have hF : s.pins ++ [⟨e.name, e.sum⟩] = putP e.name e.sum s.pins := by
            rw [← zid V.srtP, hlb, List.take_length, List.drop_length]; rfl
          rw [List.take_length, zen, zb2, hF, mostE]
          rw [if_neg hnP] at hpl
          by_cases hc : s.pins.length < 100
          · rw [if_pos (Or.inr hc)]
            simp (disch := omega) only [push_cast, hpl, List.length_append] <;> rfl
          · rw [if_neg (by rintro (h | h); exact hnP h; exact hc h)]
            simp (disch := omega) only [push_cast, hpl, List.length_append] <;> rfl
        · rw [List.take_of_length_le (l := s.pins.drop _) (by simp), zid V.srtP]
          by_cases hP : hasP s.pins e.name
          · rw [if_pos hP] at hpl
            rw [if_pos (Or.inl hP)]
            simp (disch := omega) only [push_cast, hpl] <;> rfl
          · rw [if_neg hP] at hpl
            by_cases hc : s.pins.length < 100
            · rw [if_pos (Or.inr hc)]
              simp (disch := omega) only [push_cast, hpl] <;> rfl
            · rw [if_neg (by rintro (h | h); exact hP h; exact hc h)]
              simp (disch := omega) only [push_cast, hpl] <;> rfl) 0 (false, []) (Nat.zero_le _) (.inl ⟨Nat.zero_le _, rfl⟩)
    exact this
  · rw [if_neg hT, decide_eq_true (zbi.2 hT)]; simp (disch := omega) only [push_cast] <;> rfl
theorem zqs (hk : e.kind = 3) : Lqbr none [.i s.width, .i s.now, .i s.given, .i s.births, .l (encK s.things), .l (encP s.pins), .s e.name, .l (encL s.leases)] = some (zbd (chg s e)) := by
  have h2 := V.nP
  unfold chg
  rw [eqbr_i, if_neg (by omega), if_neg (by omega), if_pos hk]
  refine zep P0 (l := s.pins) (p := fun k => !decide (k.name = e.name)) (f := fun i a => Lqbr (some 3) [.s e.name, .i (i : Int), .i s.width, .i s.now, .i s.given, .i s.births, .l (encK s.things), .l (encP s.pins), .i 0, .i 0, .i 0, .i 0, .i 0, .s E0, .i 0, .s E0, .s E0, .l (encP a), .l (encL s.leases), .l [], .l [], .l []]) (fun i a hi ha => ?_) ?_
  · show Lqbr _ _ = Lqbr _ _
    rw [eqbr_3, mostE]
    by_cases hc : (nth P0 s.pins i).name = e.name
    · rw [if_neg (by simp [hc])]; simp (disch := omega) only [push_cast]
    · rw [if_pos (by simp [hc]), ← zb2]; simp (disch := omega) only [push_cast] <;> rfl
  · show Lqbr _ _ = _
    rw [eqbr_3]
    have hfl := zlw (l := s.pins) (p := fun k => k.name = e.name)
    by_cases hP : hasP s.pins e.name
    · rw [if_pos hP]
      have : ¬ (s.pins.filter fun a => !decide (a.name = e.name)).length = s.pins.length := fun h => hfl.1 h hP
      simp (disch := omega) only [push_cast] <;> rfl
    · rw [if_neg hP]
      have : (s.pins.filter fun a => !decide (a.name = e.name)).length = s.pins.length := hfl.2 hP
      simp (disch := omega) only [push_cast] <;> rfl
theorem zpl (hk : e.kind = 5) : Lqbs none [.i s.width, .i s.now, .i s.given, .i s.births, .l (encK s.things), .l (encP s.pins), .i e.number, .l (encL s.leases)] = some (zo (chg s e)) := by
  have h2 := V.nL
  unfold chg
  rw [eqbs_i, if_neg (by omega), if_neg (by omega), if_neg (by omega), if_neg (by omega), if_pos hk]
  refine zep L0 (l := s.leases) (p := fun k => !decide (k.number = e.number)) (f := fun i a => Lqbs (some 3) [.i e.number, .i (i : Int), .i s.width, .i s.now, .i s.given, .i s.births, .l (encK s.things), .l (encP s.pins), .i 0, .i 0, .i 0, .i 0, .i 0, .s E0, .i 0, .s E0, .s E0, .l (encL a), .l (encL s.leases), .l [], .l [], .l []]) (fun i a hi ha => ?_) ?_
  · show Lqbs _ _ = Lqbs _ _
    rw [eqbs_3, mostE]
    by_cases hc : (nth L0 s.leases i).number = e.number
    · rw [if_neg (by simp [hc])]; simp (disch := omega) only [push_cast]
    · rw [if_pos (by simp [hc]), ← zc9]; simp (disch := omega) only [push_cast] <;> rfl
  · show Lqbs _ _ = _
    rw [eqbs_3]
    have hfl := zlw (l := s.leases) (p := fun k => k.number = e.number)
    by_cases hP : hasL s.leases e.number
    · rw [if_pos hP]
      have : ¬ (s.leases.filter fun a => !decide (a.number = e.number)).length = s.leases.length := fun h => hfl.1 h hP
      simp (disch := omega) only [push_cast] <;> rfl
    · rw [if_neg hP]
      have : (s.leases.filter fun a => !decide (a.number = e.number)).length = s.leases.length := hfl.2 hP
      simp (disch := omega) only [push_cast] <;> rfl
theorem zo4 (hk : e.kind = 6) (hm : 0 ≤ e.number ∧ e.number ≤ 1000000000) : Lqbt none [.i s.width, .i s.now, .i s.given, .i s.births, .l (encK s.things), .l (encP s.pins), .i e.number, .l (encL s.leases)] = some (zo (chg s e)) := by
  have h2 := V.nL; have h3 := V.now
  unfold chg
  rw [eqbt_i, if_neg (by omega), if_neg (by omega), if_neg (by omega), if_neg (by omega), if_neg (by omega), if_pos hk]
  by_cases hn : s.now + e.number ≤ 1000000000
  · rw [if_pos hn]
    simp (disch := omega) only [push_cast]
    refine zep L0 (l := s.leases) (p := fun l => decide (s.now + e.number < l.till)) (f := fun i a => Lqbt (some 6) [.i (i : Int), .i s.width, .i (s.now + e.number), .i s.given, .i s.births, .l (encK s.things), .l (encP s.pins), .i 0, .i 0, .i 0, .i 0, .i 0, .s E0, .i 0, .s E0, .s E0, .l (encL a), .l (encL s.leases), .l [], .l [], .l []]) (fun i a hi ha => ?_) ?_
    · show Lqbt _ _ = Lqbt _ _
      rw [eqbt_6, mostE]
      by_cases hc : s.now + e.number < (nth L0 s.leases i).till
      · rw [if_pos (by simp [hc]), ← zc9]; simp (disch := omega) only [push_cast] <;> rfl
      · rw [if_neg (by simp [hc])]; simp (disch := omega) only [push_cast]
    · show Lqbt _ _ = _
      rw [eqbt_6]; simp (disch := omega) only [push_cast] <;> rfl
  · rw [if_neg hn]; simp (disch := omega) only [push_cast] <;> rfl
theorem zq6 (hr : ¬ isRef s.things e.sum) : Lq1 (some 7) [.s e.sum, .i 0, .i s.width, .i s.now, .i s.given, .i s.births, .l (encK s.things), .l (encP s.pins), .i 0, .i 0, .i 0, .i 0, .i 0, .s E0, .i 0, .s E0, .s E0, .l (encK []), .l (encL s.leases), .l [], .l [], .l []] =
    some [.i 0, .i s.width, .i s.now, .i s.given, .i s.births, .l (encP s.pins), .s E0, .i 0, .s E0, .s E0, .l (encK (delK e.sum s.things)), .l (encL s.leases)] := by
  have h1 := V.nT
  refine zep K0 (l := s.things) (p := fun k => !decide (k.sum = e.sum)) (f := fun i a => Lq1 (some 7) [.s e.sum, .i (i : Int), .i s.width, .i s.now, .i s.given, .i s.births, .l (encK s.things), .l (encP s.pins), .i 0, .i 0, .i 0, .i 0, .i 0, .s E0, .i 0, .s E0, .s E0, .l (encK a), .l (encL s.leases), .l [], .l [], .l []]) (fun i a hi ha => ?_) ?_
  · show Lq1 _ _ = Lq1 _ _
    have hm := zi (d := K0) hi
    have hrl := zcg V _ hm
    have hn : ¬ e.sum ∈ (nth K0 s.things i).thing.refs := fun h => hr ⟨_, hm, h⟩
    rw [eq1_7, mostE]
    by_cases hc : (nth K0 s.things i).sum = e.sum
    · rw [if_neg (by simp [hc])]; simp (disch := omega) only [push_cast, zr _ e.sum (show (nth K0 s.things i).thing.refs.length ≤ 4611686018427387904 by omega), decide_eq_false hn]
    · rw [if_pos (by simp [hc]), ← z8]; simp (disch := omega) only [push_cast, zr _ e.sum (show (nth K0 s.things i).thing.refs.length ≤ 4611686018427387904 by omega), decide_eq_false hn] <;> rfl
  · show Lq1 _ _ = _
    rw [eq1_7]; simp (disch := omega) only [push_cast] <;> rfl
theorem zpe (hr : isRef s.things e.sum) : ∀ (i : Nat) (a : List Kept), i ≤ s.things.length → (a.length ≤ i ∧ ∃ j, i ≤ j ∧ j < s.things.length ∧ e.sum ∈ (nth K0 s.things j).thing.refs) → Lq1 (some 7) [.s e.sum, .i (i : Int), .i s.width, .i s.now, .i s.given, .i s.births, .l (encK s.things), .l (encP s.pins), .i 0, .i 0, .i 0, .i 0, .i 0, .s E0, .i 0, .s E0, .s E0, .l (encK a), .l (encL s.leases), .l [], .l [], .l []] =
    some [.i 6, .i 0, .i 0, .i 0, .i 0, .l [], .s E0, .i 0, .s E0, .s E0, .l [], .l []] := by
  have h1 := V.nT
  intro i a hi hI
  refine zhf (f := fun i a => Lq1 (some 7) [.s e.sum, .i (i : Int), .i s.width, .i s.now, .i s.given, .i s.births, .l (encK s.things), .l (encP s.pins), .i 0, .i 0, .i 0, .i 0, .i 0, .s E0, .i 0, .s E0, .s E0, .l (encK a), .l (encL s.leases), .l [], .l [], .l []]) (n := s.things.length) (I := fun i a => a.length ≤ i ∧ ∃ j, i ≤ j ∧ j < s.things.length ∧ e.sum ∈ (nth K0 s.things j).thing.refs)
    (T := fun r => r = some [.i 6, .i 0, .i 0, .i 0, .i 0, .l [], .s E0, .i 0, .s E0, .s E0, .l [], .l []]) (fun i a hi hI => ?_) (fun a hI => ?_) i a hi hI
  · obtain ⟨ha, j, hj1, hj2, hj3⟩ := hI
    have hm := zi (d := K0) hi
    have hrl := zcg V _ hm
    by_cases hn : e.sum ∈ (nth K0 s.things i).thing.refs
    · right
      show Lq1 _ _ = _
      rw [eq1_7]
      simp (disch := omega) only [push_cast, zr _ e.sum (show (nth K0 s.things i).thing.refs.length ≤ 4611686018427387904 by omega), decide_eq_true hn]
    · left
      have hj : i + 1 ≤ j := by
        rcases Nat.eq_or_lt_of_le hj1 with h | h
        · rw [h] at hn; exact absurd hj3 hn
        · exact h
      by_cases hc : (nth K0 s.things i).sum = e.sum
      · refine ⟨a, ?_, by omega, j, hj, hj2, hj3⟩
        show Lq1 _ _ = Lq1 _ _
        rw [eq1_7]
        simp (disch := omega) only [push_cast, zr _ e.sum (show (nth K0 s.things i).thing.refs.length ≤ 4611686018427387904 by omega), decide_eq_false hn]
      · refine ⟨a ++ [nth K0 s.things i], ?_, by simp; omega, j, hj, hj2, hj3⟩
        show Lq1 _ _ = Lq1 _ _
        rw [eq1_7, mostE, ← z8]
        simp (disch := omega) only [push_cast, zr _ e.sum (show (nth K0 s.things i).thing.refs.length ≤ 4611686018427387904 by omega), decide_eq_false hn] <;> rfl
  · obtain ⟨_, j, h1, h2, _⟩ := hI; omega
theorem zte (hk : e.kind = 7) : (Lq1 none [.i s.width, .i s.now, .i s.given, .i s.births, .l (encK s.things), .l (encP s.pins), .s e.sum, .l (encL s.leases)]).bind (fun y9 => some [.i ((g y9 0).int), .i ((g y9 1).int), .i ((g y9 2).int), .i ((g y9 3).int), .i ((g y9 4).int), .l ((g y9 10).list), .l ((g y9 5).list), .s ((g y9 6).str), .i ((g y9 7).int), .s ((g y9 8).str), .s ((g y9 9).str), .l ((g y9 11).list)]) = some (zo (chg s e)) := by
  have h2 := V.nP; have h3 := V.nL
  have hh := ziq s e.sum (by omega) (by omega)
  unfold encSt at hh
  unfold chg
  rw [eq1_i, if_neg (by omega), if_neg (by omega), if_neg (by omega), if_neg (by omega), if_neg (by omega), if_neg (by omega)]
  simp (disch := omega) only [push_cast, zdr V, show Lqs none [.i s.width, .i s.now, .i s.given, .i s.births, .l (encK s.things), .l (encP s.pins), .l (encL s.leases), .s e.sum] = _ from hh]
  by_cases hT : hasT s.things e.sum
  · rw [if_pos hT, decide_eq_false (show ¬ findT s.things e.sum < 0 from fun h => zbi.1 h hT)]
    by_cases c1 : held s e.sum
    · rw [if_pos (Or.inl c1), decide_eq_true c1]; simp (disch := omega) only [push_cast] <;> rfl
    · rw [decide_eq_false c1]
      by_cases c2 : isRef s.things e.sum
      · rw [if_pos (Or.inr c2)]
        have := zpe V c2 0 [] (Nat.zero_le _) ⟨Nat.le_refl _, by
          obtain ⟨k, hk1, hk2⟩ := c2
          obtain ⟨j, hj, rfl⟩ := zbb K0 hk1
          exact ⟨j, Nat.zero_le _, hj, hk2⟩⟩
        simp (disch := omega) only [push_cast]
        rw [show Lq1 (some 7) [.s e.sum, .i 0, .i s.width, .i s.now, .i s.given, .i s.births, .l (encK s.things), .l (encP s.pins), .i 0, .i 0, .i 0, .i 0, .i 0, .s E0, .i 0, .s E0, .s E0, .l [], .l (encL s.leases), .l [], .l [], .l []] = _ from this]
        rfl
      · rw [if_neg (by rintro (h | h); exact c1 h; exact c2 h)]
        have := zq6 V c2
        simp (disch := omega) only [push_cast]
        rw [show Lq1 (some 7) [.s e.sum, .i 0, .i s.width, .i s.now, .i s.given, .i s.births, .l (encK s.things), .l (encP s.pins), .i 0, .i 0, .i 0, .i 0, .i 0, .s E0, .i 0, .s E0, .s E0, .l [], .l (encL s.leases), .l [], .l [], .l []] = _ from this]
        rfl
  · rw [if_neg hT, decide_eq_true (zbi.2 hT)]; simp (disch := omega) only [push_cast] <;> rfl
theorem zg8 (o : Out) : [Lf.i ((g (zo o) 0).int), .i ((g (zo o) 1).int), .i ((g (zo o) 2).int), .i ((g (zo o) 3).int), .i ((g (zo o) 4).int), .l ((g (zo o) 5).list), .l ((g (zo o) 6).list), .s ((g (zo o) 7).str), .i ((g (zo o) 8).int), .s ((g (zo o) 9).str), .s ((g (zo o) 10).str), .l ((g (zo o) 11).list)] = zo o := by
  unfold zo; split <;> rfl
theorem zl7 (o : Out) : [Lf.i ((g (zbd o) 0).int), .i ((g (zbd o) 1).int), .i ((g (zbd o) 2).int), .i ((g (zbd o) 3).int), .i ((g (zbd o) 4).int), .l ((g (zbd o) 5).list), .l ((g (zbd o) 10).list), .s ((g (zbd o) 6).str), .i ((g (zbd o) 7).int), .s ((g (zbd o) 8).str), .s ((g (zbd o) 9).str), .l ((g (zbd o) 11).list)] = zo o := by
  unfold zo zbd; split <;> rfl
theorem zgl (he : zh e s.width = true) : Lqb8 none (zb3 s e) = some (zo (chg s e)) := by
  have h1 := V.nT; have h2 := V.nL; have h4 := V.nP
  have hnum := EntryOk.num he; have hk := EntryOk.kd he
  have hc : e.kind = 1 ∨ e.kind = 2 ∨ e.kind = 3 ∨ e.kind = 4 ∨ e.kind = 5 ∨ e.kind = 6 ∨ e.kind = 7 := by omega
  unfold zb3
  rw [eqb8_i]
  rcases hc with h | h | h | h | h | h | h
  · have := zsx V (EntryOk.thing he h) hnum
    unfold zb3 at this
    have hp : chg s e = putS s e := by unfold chg; rw [if_pos h]
    simp (disch := omega) only [push_cast]
    rw [this, Option.bind_some, zg8 V, hp]
  · have := znu V h
    unfold zb3 at this
    simp (disch := omega) only [push_cast]
    rw [this, Option.bind_some, zl7 V]
  · have := zqs V h
    simp (disch := omega) only [push_cast]
    rw [this, Option.bind_some, zl7 V]
  · simp (disch := omega) only [push_cast, zdr V]
    unfold chg
    rw [if_neg (by omega), if_neg (by omega), if_neg (by omega), if_pos h]
    by_cases hT : hasT s.things e.sum
    · rw [if_pos hT, decide_eq_false (show ¬ findT s.things e.sum < 0 from fun h => zbi.1 h hT)]
      simp (disch := omega) only [push_cast, zce s.width s.now s.given s.births s.things (encP s.pins) (encL s.leases) (by omega) (zcg V) (by rw [zbw]; omega) (by rw [zb8]; omega), zfv s.width s.now s.given s.births (encK s.things) (encP s.pins) e.sum e.number s.leases (by omega) V.given V.now hnum]
      by_cases hro : room s
      · rw [if_pos hro, if_pos (show s.leases.length < 200 ∧ s.given < 1000000000 from hro)]; simp (disch := omega) only [push_cast] <;> rfl
      · rw [if_neg hro, if_neg (show ¬ (s.leases.length < 200 ∧ s.given < 1000000000) from hro)]; simp (disch := omega) only [push_cast] <;> rfl
    · rw [if_neg hT, decide_eq_true (zbi.2 hT)]; simp (disch := omega) only [push_cast] <;> rfl
  · have := zpl V h
    simp (disch := omega) only [push_cast]
    rw [this, Option.bind_some, zg8 V]
  · have := zo4 V h hnum
    simp (disch := omega) only [push_cast]
    rw [this, Option.bind_some, zg8 V]
  · have := zte V h
    simp (disch := omega) only [push_cast]
    exact this
end
end KV
end
section
namespace KV
open Go Go.Eng
open Classical
theorem EntryOk.hold {e : Entry} {w : Int} (h : zh e w = true) (hk : e.kind = 1 ∨ e.kind = 4 ∨ e.kind = 6) : 1 ≤ e.number ∧ e.number ≤ 100000 := by
  unfold zh numB at h; simp only [Bool.and_eq_true, decide_eq_true_eq] at h
  have := h.2.2.2.2.1
  rw [if_pos hk] at this
  exact of_decide_eq_true this
theorem EntryOk.name {e : Entry} {w : Int} (h : zh e w = true) (hk : e.kind = 2) : NameOk e.name := by
  unfold zh namB at h; simp only [Bool.and_eq_true, decide_eq_true_eq] at h
  have := h.2.2.2.1
  rw [if_pos (by unfold uN; simp [hk])] at this
  exact zjb.1 this
theorem zdd {k a : Kept} {l : List Kept} : a ∈ insK k l ↔ a = k ∨ a ∈ l := by
  unfold insK
  rw [List.mem_append, List.mem_cons]
  conv => rhs; rw [← List.take_append_drop (lb (qK k.sum) l) l, List.mem_append]
  constructor
  · rintro (h | h | h)
    · exact .inr (.inl h)
    · exact .inl h
    · exact .inr (.inr h)
  · rintro (h | h | h)
    · exact .inr (.inl h)
    · exact .inl h
    · exact .inr (.inr h)
theorem zjx {α : Type} {l : List α} {i : Nat} {a : α} (d : α) (h : a ∈ l.take i) : ∃ j, j < i ∧ j < l.length ∧ nth d l j = a := by
  obtain ⟨j, hj, rfl⟩ := List.mem_iff_getElem.1 h
  rw [List.length_take] at hj
  exact ⟨j, by omega, by omega, by rw [zk d l j (by omega), List.getElem_take]⟩
theorem zm8 {α : Type} {l : List α} {i : Nat} {a : α} (d : α) (h : a ∈ l.drop i) : ∃ j, i ≤ j ∧ j < l.length ∧ nth d l j = a := by
  obtain ⟨j, hj, rfl⟩ := List.mem_iff_getElem.1 h
  rw [List.length_drop] at hj
  exact ⟨i + j, by omega, by omega, by rw [zk d l _ (by omega), List.getElem_drop]⟩
theorem zlv {α : Type} {R : α → α → Prop} {q : α → Bool} (d k : α) {l : List α} (h : l.Pairwise R) (mono : ∀ a b, R a b → q b = true → q a = true) (h1 : ∀ a, a ∈ l → q a = true → R a k) (h2 : ∀ a, a ∈ l → q a = false → R k a) (tr : ∀ a b c, R a b → R b c → R a c) : (l.take (lb q l) ++ k :: l.drop (lb q l)).Pairwise R := by
  have hd : ∀ a ∈ l.drop (lb q l), R k a := fun a ha => by
    obtain ⟨j, hj1, hj2, rfl⟩ := zm8 d ha
    exact h2 _ (zi hj2) (lb_hi d h mono j hj1 hj2)
  have ht : ∀ a ∈ l.take (lb q l), R a k := fun a ha => by
    obtain ⟨j, hj1, hj2, rfl⟩ := zjx d ha
    exact h1 _ (zi hj2) (lb_lt q d l j hj1)
  rw [List.pairwise_append, List.pairwise_cons]
  refine ⟨h.sublist (List.take_sublist _ _), ⟨hd, h.sublist (List.drop_sublist _ _)⟩, fun a ha b hb => ?_⟩
  rcases List.mem_cons.1 hb with rfl | hb
  · exact ht a ha
  · exact tr _ _ _ (ht a ha) (hd b hb)
theorem zsv {k : Kept} {l : List Kept} (h : SrtK l) (hk : ¬ hasT l k.sum) : SrtK (insK k l) :=
  zlv (R := fun (a b : Kept) => slt a.sum b.sum = true) (q := qK k.sum) K0 k h (fun a b hab hb => zbj hab hb) (fun a _ ha => ha) (fun a hm ha => by
    rcases zf8.1 (show slt a.sum k.sum = false from ha) with h1 | h1
    · exact absurd ⟨a, hm, h1⟩ hk
    · exact h1) (fun a b c h1 h2 => zbj h1 h2)
theorem zqe (k : Kept) (l : List Kept) : (insK k l).length = l.length + 1 := by
  have := lb_le (qK k.sum) l
  unfold insK; simp; omega
theorem zhz {k : Kept} {l : List Kept} {x : Bs} (h : hasT l x) : hasT (insK k l) x := by
  obtain ⟨j, h1, h2⟩ := h; exact ⟨j, zdd.2 (.inr h1), h2⟩
theorem zpk {l : List Pin} (h : SrtP l) (n x : Bs) : SrtP (putP n x l) := by
  unfold putP
  split
  · rename_i hP
    have hi := (zcz h n).1 hP
    unfold SrtP at h ⊢
    rw [List.pairwise_iff_getElem] at h ⊢
    intro i j hi' hj' hij
    rw [List.length_set] at hi' hj'
    have key : ∀ i (hi' : i < l.length), ((l.set (lb (qP n) l) ⟨n, x⟩)[i]'(by rw [List.length_set]; exact hi')).name = l[i].name := fun i hi' => by
      rw [List.getElem_set]
      split
      · rename_i he
        subst he
        rw [← zk P0 l _ hi']; exact hi.2.symm
      · rfl
    rw [key i hi', key j hj']
    exact h i j hi' hj' hij
  · rename_i hP
    exact zlv (R := fun (a b : Pin) => slt a.name b.name = true) (q := qP n) P0 ⟨n, x⟩ h (fun a b hab hb => zbj hab hb) (fun a _ ha => ha) (fun a hm ha => by
      rcases zf8.1 (show slt a.name n = false from ha) with h1 | h1
      · exact absurd ⟨a, hm, h1⟩ hP
      · exact h1) (fun a b c h1 h2 => zbj h1 h2)
theorem zp2 {l : List Pin} {n x : Bs} {a : Pin} (h : a ∈ putP n x l) : a = ⟨n, x⟩ ∨ a ∈ l := by
  unfold putP at h
  split at h
  · rcases List.mem_or_eq_of_mem_set h with h | h
    · exact .inr h
    · exact .inl h
  · rw [List.mem_append, List.mem_cons] at h
    rcases h with h | h | h
    · exact .inr (List.mem_of_mem_take h)
    · exact .inl h
    · exact .inr (List.mem_of_mem_drop h)
theorem zrl (l : List Pin) (n x : Bs) : (putP n x l).length ≤ l.length + 1 ∧ (hasP l n → (putP n x l).length = l.length) := by
  have := lb_le (qP n) l
  unfold putP; split
  · simp
  · rename_i h; exact ⟨by simp; omega, fun h1 => absurd h1 h⟩
theorem zg2 {s : State} (V : VS s) {x : Bs} {m : Int} (hr : room s) (hx : hasT s.things x) (hm : 1 ≤ m ∧ m ≤ 100000) : VS (lent s x m) := by
  have hg := V.given
  obtain ⟨r1, r2⟩ := hr
  refine ⟨V.wd, V.now, ?_, V.births, V.nT, V.nP, ?_, V.srtT, V.okT, V.ndT, V.refs, V.srtP, V.okP, ?_, ?_⟩
  · show 0 ≤ s.given + 1 ∧ s.given + 1 ≤ 1000000000; omega
  · show (s.leases ++ [_]).length ≤ 200; simp; omega
  · show (s.leases ++ [_]).Pairwise _
    rw [List.pairwise_append]
    refine ⟨V.srtL, List.pairwise_singleton _ _, fun a ha b hb => ?_⟩
    rw [List.mem_singleton] at hb
    subst hb
    have := (V.okL a ha).2.1
    show a.number < s.given + 1; omega
  · intro l hl
    show 1 ≤ l.number ∧ l.number ≤ s.given + 1 ∧ hasT s.things l.sum ∧ s.now < l.till ∧ l.till ≤ s.now + 100000
    rcases List.mem_append.1 hl with h | h
    · obtain ⟨a, b, c, d⟩ := V.okL l h; exact ⟨a, by omega, c, d⟩
    · rw [List.mem_singleton] at h
      subst h
      refine ⟨?_, ?_, hx, ?_, ?_⟩ <;> simp only <;> omega
theorem zd8 {s : Bs} {w : Int} (hw : 1 ≤ w ∧ w ≤ 8) : ((sumM s w).size : Int) = w := zfb (zw.2 hw)
theorem zrj {s : State} (V : VS s) {t : Thing} (ht : ThingOk t s.width) (hx : ¬ hasT s.things (sumM (formM t) s.width)) (hr : ∀ r ∈ t.refs, hasT s.things r) (h1 : s.things.length < 600) (h2 : s.births < 1000000000) :
    VS { s with births := s.births + 1, things := insK ⟨sumM (formM t) s.width, s.births + 1, t⟩ s.things } := by
  have hb := V.births
  refine ⟨V.wd, V.now, V.given, ?_, ?_, V.nP, V.nL, zsv V.srtT hx, ?_, ?_, ?_, V.srtP, ?_, V.srtL, ?_⟩
  · show 0 ≤ s.births + 1 ∧ s.births + 1 ≤ 1000000000; omega
  · show (insK _ _).length ≤ 600; rw [zqe]; omega
  · intro k hk
    show ThingOk k.thing s.width ∧ k.sum = sumM (formM k.thing) s.width ∧ 1 ≤ k.born ∧ k.born ≤ s.births + 1
    rcases zdd.1 hk with rfl | hk
    · exact ⟨ht, rfl, by simp only; omega, by simp only; omega⟩
    · obtain ⟨a, b, c, d⟩ := V.okT k hk; exact ⟨a, b, c, by omega⟩
  · show ((insK _ _).map (·.born)).Nodup
    unfold insK
    rw [List.map_append, List.map_cons]
    have hp : (List.map (·.born) (s.things.take (lb (qK (sumM (formM t) s.width)) s.things)) ++ (s.births + 1) :: List.map (·.born) (s.things.drop (lb (qK (sumM (formM t) s.width)) s.things))).Perm ((s.births + 1) :: s.things.map (·.born)) := by
      refine List.perm_middle.trans ?_
      rw [← List.map_append, List.take_append_drop]
    rw [hp.nodup_iff, List.nodup_cons]
    refine ⟨fun hm => ?_, V.ndT⟩
    obtain ⟨k, hk, he⟩ := List.mem_map.1 hm
    have := (V.okT k hk).2.2.2; omega
  · intro k hk r hkr
    rcases zdd.1 hk with rfl | hk
    · obtain ⟨j, h3, h4⟩ := hr r hkr
      refine ⟨j, zdd.2 (.inr h3), h4, ?_⟩
      have := (V.okT j h3).2.2.2
      simp only; omega
    · obtain ⟨j, h3, h4, h5⟩ := V.refs k hk r hkr
      exact ⟨j, zdd.2 (.inr h3), h4, h5⟩
  · intro p hp; exact ⟨(V.okP p hp).1, zhz (V.okP p hp).2⟩
  · intro l hl; obtain ⟨a, b, c, d⟩ := V.okL l hl; exact ⟨a, b, zhz c, d⟩
theorem zc6 {x : Bs} {l : List Kept} {a : Kept} : a ∈ delK x l ↔ a ∈ l ∧ a.sum ≠ x := by unfold delK; simp
theorem znt {s : State} (V : VS s) {x : Bs} (hh : ¬ held s x) (hr : ¬ isRef s.things x) : VS { s with things := delK x s.things } := by
  have hs : (delK x s.things).Sublist s.things := List.filter_sublist
  have keep : ∀ y, y ≠ x → hasT s.things y → hasT (delK x s.things) y := fun y hy ⟨j, h1, h2⟩ => ⟨j, zc6.2 ⟨h1, by rw [h2]; exact hy⟩, h2⟩
  refine ⟨V.wd, V.now, V.given, V.births, Nat.le_trans hs.length_le V.nT, V.nP, V.nL, V.srtT.sublist hs, fun k hk => V.okT k (zc6.1 hk).1, (V.ndT.sublist (hs.map _)), ?_, V.srtP, ?_, V.srtL, ?_⟩
  · intro k hk r hkr
    obtain ⟨j, h3, h4, h5⟩ := V.refs k (zc6.1 hk).1 r hkr
    refine ⟨j, zc6.2 ⟨h3, ?_⟩, h4, h5⟩
    rw [h4]; rintro rfl; exact hr ⟨k, (zc6.1 hk).1, hkr⟩
  · intro p hp; exact ⟨(V.okP p hp).1, keep _ (fun h => hh (.inl ⟨p, hp, h⟩)) (V.okP p hp).2⟩
  · intro l hl; obtain ⟨a, b, c, d⟩ := V.okL l hl; exact ⟨a, b, keep _ (fun h => hh (.inr ⟨l, hl, h⟩)) c, d⟩
theorem zcm {s : State} (V : VS s) {e : Entry} (he : zh e s.width = true) (hc : (chg s e).code = 0) : VS (chg s e).st := by
  have hk := EntryOk.kd he
  unfold chg at hc ⊢
  split at hc
  · rename_i h1
    rw [if_pos h1]
    have hh := EntryOk.hold he (.inl h1)
    have ht := EntryOk.thing he h1
    unfold putS at hc ⊢
    split at hc
    · cases hc
    · rename_i hr
      rw [if_neg hr]
      have hr' : ∀ r ∈ e.thing.refs, hasT s.things r := fun r hr2 => Classical.byContradiction fun h5 => hr ⟨r, hr2, h5⟩
      split at hc
      · rename_i hT
        rw [if_pos hT]
        split at hc
        · rename_i hf
          rw [if_pos hf]
          split at hc
          · rename_i hro; rw [if_pos hro]; exact zg2 V hro hT hh
          · cases hc
        · cases hc
      · rename_i hT
        rw [if_neg hT]
        split at hc
        · rename_i hro
          rw [if_pos hro]
          exact zg2 (zrj V ht hT hr' hro.2.1 hro.2.2) hro.1 ⟨_, zdd.2 (.inl rfl), rfl⟩ hh
        · cases hc
  · rename_i h1
    rw [if_neg h1]
    split at hc
    · rename_i h2
      rw [if_pos h2]
      split at hc
      · rename_i hT
        rw [if_pos hT]
        split at hc
        · rename_i hP
          rw [if_pos hP]
          have hpl := zrl s.pins e.name e.sum
          have hn := V.nP
          refine ⟨V.wd, V.now, V.given, V.births, V.nT, ?_, V.nL, V.srtT, V.okT, V.ndT, V.refs, zpk V.srtP _ _, ?_, V.srtL, V.okL⟩
          · show (putP e.name e.sum s.pins).length ≤ 100
            rcases hP with hP | hP
            · rw [hpl.2 hP]; exact hn
            · omega
          · intro p hp
            rcases zp2 hp with rfl | hp
            · exact ⟨EntryOk.name he h2, hT⟩
            · exact V.okP p hp
        · cases hc
      · cases hc
    · rename_i h2
      rw [if_neg h2]
      split at hc
      · rename_i h3
        rw [if_pos h3]
        split at hc
        · rename_i hP
          rw [if_pos hP]
          have hs : (delP e.name s.pins).Sublist s.pins := List.filter_sublist
          exact ⟨V.wd, V.now, V.given, V.births, V.nT, Nat.le_trans hs.length_le V.nP, V.nL, V.srtT, V.okT, V.ndT, V.refs, V.srtP.sublist hs, fun p hp => V.okP p (hs.subset hp), V.srtL, V.okL⟩
        · cases hc
      · rename_i h3
        rw [if_neg h3]
        split at hc
        · rename_i h4
          rw [if_pos h4]
          split at hc
          · rename_i hT
            rw [if_pos hT]
            split at hc
            · rename_i hro; rw [if_pos hro]; exact zg2 V hro hT (EntryOk.hold he (.inr (.inl h4)))
            · cases hc
          · cases hc
        · rename_i h4
          rw [if_neg h4]
          split at hc
          · rename_i h5
            rw [if_pos h5]
            split at hc
            · rename_i hP
              rw [if_pos hP]
              have hs : (delL e.number s.leases).Sublist s.leases := List.filter_sublist
              exact ⟨V.wd, V.now, V.given, V.births, V.nT, V.nP, Nat.le_trans hs.length_le V.nL, V.srtT, V.okT, V.ndT, V.refs, V.srtP, V.okP, V.srtL.sublist hs, fun l hl => V.okL l (hs.subset hl)⟩
            · cases hc
          · rename_i h5
            rw [if_neg h5]
            split at hc
            · rename_i h6
              rw [if_pos h6]
              split at hc
              · rename_i hn
                rw [if_pos hn]
                have hh := EntryOk.hold he (.inr (.inr h6))
                have hnow := V.now
                have hs : (s.leases.filter fun l => decide (s.now + e.number < l.till)).Sublist s.leases := List.filter_sublist
                refine ⟨V.wd, ?_, V.given, V.births, V.nT, V.nP, Nat.le_trans hs.length_le V.nL, V.srtT, V.okT, V.ndT, V.refs, V.srtP, V.okP, V.srtL.sublist hs, fun l hl => ?_⟩
                · show 0 ≤ s.now + e.number ∧ s.now + e.number ≤ 1000000000; omega
                · obtain ⟨a, b, c, d, f⟩ := V.okL l (hs.subset hl)
                  have hl2 := (List.mem_filter.1 hl).2
                  simp only [decide_eq_true_eq] at hl2
                  exact ⟨a, b, c, hl2, by show l.till ≤ s.now + e.number + 100000; omega⟩
              · cases hc
            · rename_i h6
              rw [if_neg h6]
              split at hc
              · rename_i hT
                rw [if_pos hT]
                split at hc
                · cases hc
                · rename_i hn
                  rw [if_neg hn]
                  exact znt V (fun h => hn (.inl h)) (fun h => hn (.inr h))
              · cases hc
theorem zf1 (s : State) (e : Entry) : (chg s e).st.width = s.width := by
  unfold chg putS fail done lent
  repeat' split
  all_goals rfl
theorem zei {w : Int} (hw : 1 ≤ w ∧ w ≤ 8) : VS ⟨w, 0, 0, 0, [], [], []⟩ := by
  refine ⟨hw, by simp, by simp, by simp, by simp, by simp, by simp, List.Pairwise.nil, (fun k hk => by cases hk), List.nodup_nil, (fun k hk => by cases hk), List.Pairwise.nil, (fun k hk => by cases hk), List.Pairwise.nil, (fun k hk => by cases hk)⟩
end KV
end
section
namespace KV
open Go Go.Eng
open Classical
def empty (w : Int) : State := ⟨w, 0, 0, 0, [], [], []⟩
noncomputable def runL (w : Int) : State → List Bs → Nat → State ⊕ Nat
  | s, [], _ => .inl s
  | s, x :: l, i => match readE x w with
    | none => .inr (i + 1)
    | some e => if (chg s e).code = 0 then runL w (chg s e).st l (i + 1) else .inr (i + 1)
theorem zeg {w : Int} : ∀ (l : List Bs) (s : State) (i : Nat) (s' : State), VS s → s.width = w → runL w s l i = .inl s' → VS s' ∧ s'.width = w
  | [], s, i, s', V, hw, h => by simp only [runL] at h; cases h; exact ⟨V, hw⟩
  | x :: l, s, i, s', V, hw, h => by
    simp only [runL] at h
    split at h
    · cases h
    · rename_i e he
      split at h
      · rename_i hc
        have hE := (zik he).2
        rw [← hw] at hE
        exact zeg l _ _ _ (zcm V hE hc) ((zf1 s e).trans hw) h
      · cases h
theorem zfq {w : Int} : ∀ (l m : List Bs) (s : State) (i : Nat), runL w s (l ++ m) i = match runL w s l i with | .inl s' => runL w s' m (i + l.length) | .inr n => .inr n
  | [], m, s, i => by simp [runL]
  | x :: l, m, s, i => by
    simp only [List.cons_append, runL]
    cases readE x w with
    | none => rfl
    | some e =>
      simp only
      split
      · rw [zfq l m]; simp only [List.length_cons]; rw [show i + 1 + l.length = i + (l.length + 1) by omega]
      · rfl
def Small (l : List Bs) : Prop := l.length ≤ 1099511627776 ∧ ∀ x ∈ l, x.size ≤ 1099511627776
def zdt : State ⊕ Nat → Lv
  | .inl s => [.i 0, .i s.width, .i s.now, .i s.given, .i s.births, .s E0, .i 0, .s E0, .s E0, .l (encK s.things), .l (encP s.pins), .l (encL s.leases)]
  | .inr n => [.i 7, .i 0, .i 0, .i 0, .i 0, .s E0, .i (n : Int), .s E0, .s E0, .l [], .l [], .l []]
def rep1 : Lv := [.i 1, .i 0, .i 0, .i 0, .i 0, .s E0, .i 0, .s E0, .s E0, .l [], .l [], .l []]
theorem zs4 (w : Int) (l : List Bs) (hl : Small l) : ∀ (m i : Nat) (s : State), l.length - i = m → i ≤ l.length → VS s → s.width = w →
    Lqbu (some 5) [.i w, .l (encS l), .i (i : Int), .i 0, .i 0, .i 0, .i 0, .i 0, .s E0, .i 0, .s E0, .s E0, .i s.width, .i s.now, .i s.given, .i s.births, .l (encK s.things), .l (encP s.pins), .l [], .l [], .l [], .l (encL s.leases)] = some (zdt (runL w s (l.drop i) i)) := by
  intro m
  induction m with
  | zero =>
    intro i s hm hi V hw
    have h1 := V.nT; have h2 := V.nP; have h3 := V.nL
    have : i = l.length := by omega
    subst this
    rw [eqbu_5, List.drop_length]
    simp (disch := omega) only [push_cast, zce s.width s.now s.given s.births s.things (encP s.pins) (encL s.leases) (by omega) (zcg V) (by rw [zbw]; omega) (by rw [zb8]; omega)]
    rfl
  | succ m ih =>
    intro i s hm hi V hw
    have hlt : i < l.length := by omega
    have hlen := hl.1
    rw [eqbu_5, zd6 .empty hlt]
    simp only [runL]
    simp (disch := omega) only [push_cast, zpg (nth .empty l i) w (hl.2 _ (zi hlt))]
    cases he : readE (nth .empty l i) w with
    | none => simp (disch := omega) only [push_cast, encOE] <;> rfl
    | some e =>
      have hE := (zik he).2
      rw [← hw] at hE
      have := zgl V hE
      unfold zb3 at this
      by_cases hc : (chg s e).code = 0
      · rw [zlo hc] at this
        simp (disch := omega) only [push_cast, encOE, this]
        rw [if_pos hc]
        exact ih (i + 1) (chg s e).st (by omega) (by omega) (zcm V hE hc) ((zf1 s e).trans hw)
      · rw [zi5 hc] at this
        simp (disch := omega) only [push_cast, encOE, this]
        rw [if_neg hc]; rfl
theorem zl1 (w : Int) (l : List Bs) (hl : Small l) : Lqbu none [.i w, .l (encS l)] = some (if zj w = true ∧ l.length ≤ 4000 then zdt (runL w (empty w) l 0) else rep1) := by
  rw [eqbu_i, zt]
  cases hw : zj w
  · simp (disch := omega) only [push_cast, false_and] <;> rfl
  · by_cases hn : l.length ≤ 4000
    · simp (disch := omega) only [push_cast]
      rw [if_pos ⟨trivial, hn⟩]
      exact zs4 w l hl l.length 0 (empty w) (by omega) (Nat.zero_le _) (zei (zw.1 hw)) rfl
    · simp (disch := omega) only [push_cast]
      rw [if_neg fun h => hn h.2]; rfl
structure LogOk (a b : List Bs) : Prop where
  sa : ∀ x ∈ a, x.size ≤ 5000
  sb : ∀ x ∈ b, x.size ≤ 5000
  n : a.length + b.length ≤ 4000
theorem zk7 (l : List Bs) : (∀ j, 0 ≤ j → j < l.length → (nth .empty l j).size ≤ 5000) ↔ ∀ x ∈ l, x.size ≤ 5000 := by
  constructor
  · intro h x hx
    obtain ⟨i, hi, rfl⟩ := zbb .empty hx
    exact h i (Nat.zero_le _) hi
  · intro h j _ hj; exact h _ (zi hj)
theorem zrq (a b : List Bs) : (if (∀ j, 0 ≤ j → j < a.length → (nth .empty a j).size ≤ 5000) then (if (∀ j, 0 ≤ j → j < b.length → (nth .empty b j).size ≤ 5000) then some [Lf.b (decide ((a.length : Int) + (b.length : Int) ≤ 4000))] else some [.b false]) else some [.b false]) = some [.b (decide (LogOk a b))] := by
  rw [zk7, zk7]
  by_cases h1 : ∀ x ∈ a, x.size ≤ 5000
  · rw [if_pos h1]
    by_cases h2 : ∀ x ∈ b, x.size ≤ 5000
    · rw [if_pos h2]
      by_cases h3 : a.length + b.length ≤ 4000
      · rw [decide_eq_true (p := LogOk a b) ⟨h1, h2, h3⟩, decide_eq_true (by omega)]
      · rw [decide_eq_false (p := LogOk a b) fun h => h3 h.n, decide_eq_false (by omega)]
    · rw [if_neg h2, decide_eq_false (p := LogOk a b) fun h => h2 h.sb]
  · rw [if_neg h1, decide_eq_false (p := LogOk a b) fun h => h1 h.sa]
theorem zb5 (a b : List Bs) (ha : Small a) (hb : Small b) : Lql none [.l (encS a), .l (encS b)] = some [.b (decide (LogOk a b))] := by
  have h1 := ha.1; have h2 := hb.1
  rw [eql_i, ← zrq]
  have l2 := zq (f := fun i : Nat => Lql (some 7) [.i (i : Int), .l (encS a), .l (encS b)]) (P := fun j => (nth .empty b j).size ≤ 5000) (n := b.length) (T := some [Lf.b (decide ((a.length : Int) + (b.length : Int) ≤ 4000))]) (F := some [.b false]) (fun i hi => by
    show (_ → Lql _ _ = _) ∧ (_ → Lql _ _ = _)
    rw [eql_7]
    by_cases hc : (nth .empty b i).size ≤ 5000 <;> simp (disch := omega) only [push_cast] <;> simp [hc]) (by show Lql _ _ = _; rw [eql_7]; simp (disch := omega) only [push_cast]) 0 (Nat.zero_le _)
  have l1 := zq (f := fun i : Nat => Lql (some 2) [.i (i : Int), .l (encS a), .l (encS b)]) (P := fun j => (nth .empty a j).size ≤ 5000) (n := a.length) (T := Lql (some 7) [.i 0, .l (encS a), .l (encS b)]) (F := some [.b false]) (fun i hi => by
    show (_ → Lql _ _ = _) ∧ (_ → Lql _ _ = _)
    rw [eql_2]
    by_cases hc : (nth .empty a i).size ≤ 5000 <;> simp (disch := omega) only [push_cast] <;> simp [hc]) (by show Lql _ _ = _; rw [eql_2]; simp (disch := omega) only [push_cast]) 0 (Nat.zero_le _)
  refine l1.trans ?_
  rw [show Lql (some 7) [.i 0, .l (encS a), .l (encS b)] = _ from l2]
theorem zkn (a b : List Bs) (hn : a.length + b.length ≤ 1099511627776) : Lqck none [.l (encS a), .l (encS b)] = some [.l (encS (a ++ b))] := by
  rw [eqck_i, mostE, ← zu]; simp (disch := omega) only [push_cast, List.nil_append]
end KV
end
section
namespace KV
open Go Go.Eng
open Classical
theorem Kept.ext' {a b : Kept} (h1 : a.sum = b.sum) (h2 : a.born = b.born) (h3 : a.thing.text = b.thing.text) (h4 : a.thing.refs = b.thing.refs) : a = b := by
  obtain ⟨s, n, ⟨x, r⟩⟩ := a; obtain ⟨s', n', ⟨x', r'⟩⟩ := b
  simp only at h1 h2 h3 h4
  subst h1; subst h2; subst h3; subst h4; rfl
theorem Pin.ext' {a b : Pin} (h1 : a.name = b.name) (h2 : a.sum = b.sum) : a = b := by
  obtain ⟨s, n⟩ := a; obtain ⟨s', n'⟩ := b
  simp only at h1 h2
  subst h1; subst h2; rfl
theorem Lease.ext' {a b : Lease} (h1 : a.number = b.number) (h2 : a.sum = b.sum) (h3 : a.till = b.till) : a = b := by
  obtain ⟨s, n, m⟩ := a; obtain ⟨s', n', m'⟩ := b
  simp only at h1 h2 h3
  subst h1; subst h2; subst h3; rfl
theorem zdq {α : Type} (d : α) {a b : List α} (hl : a.length = b.length) (h : ∀ j, 0 ≤ j → j < a.length → nth d a j = nth d b j) : a = b := by
  apply List.ext_getElem hl
  intro i h1 h2
  rw [← zk d a i h1, ← zk d b i h2]; exact h i (Nat.zero_le _) h1
structure Small1 (s : State) : Prop where
  nT : s.things.length ≤ 1099511627776
  nP : s.pins.length ≤ 1099511627776
  nL : s.leases.length ≤ 1099511627776
  t : ∀ k ∈ s.things, 1 + szs k.thing.refs + k.thing.text.size ≤ 1099511627776 ∧ k.thing.refs.length ≤ 1099511627776
theorem VS.small {s : State} (V : VS s) : Small1 s := by
  have h1 := V.nT; have h2 := V.nP; have h3 := V.nL
  exact ⟨by omega, by omega, by omega, fun k hk => by have := zbe (V.okT k hk).1; omega⟩
def Cut (a b : State) : Prop := ∀ i, i < a.things.length → i < b.things.length → (nth K0 a.things i).thing.text = (nth K0 b.things i).thing.text → (nth K0 a.things i).thing.refs.length = (nth K0 b.things i).thing.refs.length →
  formM (nth K0 a.things i).thing = formM (nth K0 b.things i).thing → (nth K0 a.things i).thing.refs = (nth K0 b.things i).thing.refs
theorem Cut.refl (a : State) : Cut a a := fun _ _ _ _ _ _ => rfl
theorem znr (a b : State) : a = b ↔ a.width = b.width ∧ a.now = b.now ∧ a.given = b.given ∧ a.births = b.births ∧ a.things = b.things ∧ a.pins = b.pins ∧ a.leases = b.leases := by
  constructor
  · rintro rfl; exact ⟨rfl, rfl, rfl, rfl, rfl, rfl, rfl⟩
  · rintro ⟨h1, h2, h3, h4, h5, h6, h7⟩
    obtain ⟨w, n, g, b', T, P, L⟩ := a; obtain ⟨w', n', g', b'', T', P', L'⟩ := b
    simp only at *
    subst h1; subst h2; subst h3; subst h4; subst h5; subst h6; subst h7; rfl
theorem zj8 (a b : Pin) : ((Eng.seq a.name b.name) && ((Eng.seq a.sum b.sum) && true)) = decide (a = b) := by
  rw [zea, zea, Bool.and_true]
  by_cases h : a = b
  · subst h; simp
  · rw [decide_eq_false h]
    by_cases h1 : a.name = b.name
    · by_cases h2 : a.sum = b.sum
      · exact absurd (Pin.ext' h1 h2) h
      · simp [h2]
    · simp [h1]
theorem zix (a b : Lease) : ((a.number == b.number) && ((Eng.seq a.sum b.sum) && ((a.till == b.till) && true))) = decide (a = b) := by
  rw [zea, Bool.and_true]
  by_cases h : a = b
  · subst h; simp
  · rw [decide_eq_false h]
    by_cases h1 : a.number = b.number
    · by_cases h2 : a.sum = b.sum
      · by_cases h3 : a.till = b.till
        · exact absurd (Lease.ext' h1 h2 h3) h
        · simp [h3]
      · simp [h2]
    · simp [h1]
theorem zle {a b : State} (hT : a.things = b.things) (h0 : a.width = b.width ∧ a.now = b.now ∧ a.given = b.given ∧ a.births = b.births) (hP : a.pins.length = b.pins.length) (hL : a.leases.length = b.leases.length) :
    (if (∀ j, 0 ≤ j → j < a.pins.length → nth P0 a.pins j = nth P0 b.pins j) then (if (∀ j, 0 ≤ j → j < a.leases.length → nth L0 a.leases j = nth L0 b.leases j) then some [Lf.b true] else some [.b false]) else some [.b false]) = some [.b (decide (a = b))] := by
  split
  · rename_i h1
    split
    · rename_i h2
      rw [decide_eq_true (p := a = b)]
      exact (znr a b).2 ⟨h0.1, h0.2.1, h0.2.2.1, h0.2.2.2, hT, zdq P0 hP h1, zdq L0 hL h2⟩
    · rename_i h2
      rw [decide_eq_false (p := a = b)]
      rintro rfl; exact h2 fun _ _ _ => rfl
  · rename_i h1
    rw [decide_eq_false (p := a = b)]
    rintro rfl; exact h1 fun _ _ _ => rfl
end KV
end
section
namespace KV
open Go Go.Eng
open Classical
structure Round where
  phase : Int
  queue : List Bs
  marked : List Bs
  top : Int
  at_ : Int
  rounds : Int
def R0 : Round := ⟨0, [], [], 0, 0, 0⟩
def encR (r : Round) : Lv := [.i r.phase, .l (encS r.queue), .l (encS r.marked), .i r.top, .i r.at_, .i r.rounds]
structure RoundOk (w births : Int) (r : Round) : Prop where
  ph : 0 ≤ r.phase ∧ r.phase ≤ 2
  rds : 0 ≤ r.rounds ∧ r.rounds ≤ 1000000000
  nQ : r.queue.length ≤ 23200
  nM : r.marked.length ≤ 600
  szM : ∀ x ∈ r.marked, (x.size : Int) = w
  ndM : r.marked.Nodup
  szQ : ∀ x ∈ r.queue, (x.size : Int) = w
  rest : r.phase = 0 → r.queue = [] ∧ r.marked = [] ∧ r.top = 0 ∧ r.at_ = 0
  go : r.phase ≠ 0 → 0 ≤ r.top ∧ r.top ≤ births ∧ 1 ≤ r.at_ ∧ r.at_ ≤ r.top + 1 ∧ (r.phase = 1 → r.at_ = r.top + 1)
theorem zde (n : Int) : Lqcm none [.i n] = some [.b (decide (0 ≤ n ∧ n ≤ 1000000000))] := by
  rw [eqcm_i]
  by_cases h : 0 ≤ n
  · simp (disch := omega) only [push_cast]; congr 3; exact decide_eq_decide.2 ⟨fun h1 => ⟨h, h1⟩, fun h1 => h1.2⟩
  · simp (disch := omega) only [push_cast]; rw [decide_eq_false (p := 0 ≤ n ∧ n ≤ 1000000000) fun h1 => h h1.1]
theorem zl (n a b : Int) : Lqu none [.i n, .i a, .i b] = some [.b (decide (a ≤ n ∧ n ≤ b))] := by
  rw [equ_i]
  by_cases h : a ≤ n
  · simp (disch := omega) only [push_cast]; congr 3; exact decide_eq_decide.2 ⟨fun h1 => ⟨h, h1⟩, fun h1 => h1.2⟩
  · simp (disch := omega) only [push_cast]; rw [decide_eq_false (p := a ≤ n ∧ n ≤ b) fun h1 => h h1.1]
def setM (ks : List Bs) : List (C × C) := ks.map fun k => (.s k, .b true)
theorem ceq_s (x y : Bs) : ceq .s (.s x) (.s y) = decide (x = y) := by
  show (x.data == y.data) = _
  by_cases h : x = y
  · subst h; simp
  · rw [decide_eq_false h, beq_eq_false_iff_ne]
    intro e; apply h; cases x; cases y; exact congrArg _ e
theorem zhl (x : Bs) : ∀ ks : List Bs, mget .s (.s x) (setM ks) = if x ∈ ks then some (.b true) else none
  | [] => by simp [setM, mget]
  | k :: ks => by
    show cond (ceq .s (.s x) (.s k)) (some (.b true)) (mget .s (.s x) (setM ks)) = _
    rw [ceq_s, zhl x ks]
    by_cases h : x = k
    · subst h; simp
    · simp [h]
theorem zjo (x : Bs) : ∀ ks : List Bs, x ∉ ks → mput .s (.s x) (.b true) (setM ks) = setM (ks ++ [x])
  | [], _ => by simp [setM, mput]
  | k :: ks, h => by
    show cond (ceq .s (.s x) (.s k)) _ _ = _
    rw [ceq_s, decide_eq_false (fun e => h (by rw [e]; simp)), cond_false]
    show (C.s k, C.b true) :: mput .s (.s x) (.b true) (setM ks) = _
    rw [zjo x ks (fun e => h (by simp [e]))]; rfl
theorem inM (x : Bs) (ks : List Bs) : (((mget .s (.s x) (setM ks)).getD (.b false)).bool) = decide (x ∈ ks) := by
  rw [zhl]
  by_cases h : x ∈ ks
  · rw [if_pos h, decide_eq_true h]; rfl
  · rw [if_neg h, decide_eq_false h]; rfl
def mkP (w : Int) (m : List Bs) (j : Nat) : Prop := ((nth .empty m j).size : Int) = w ∧ nth .empty m j ∉ m.take j
theorem ziy (w : Int) (m : List Bs) : (∀ j, 0 ≤ j → j < m.length → mkP w m j) ↔ (∀ x ∈ m, (x.size : Int) = w) ∧ m.Nodup := by
  have hnd : m.Nodup ↔ ∀ j, 0 ≤ j → j < m.length → nth .empty m j ∉ m.take j := by
    constructor
    · intro h j _ hj hm
      obtain ⟨i, h1, h2, h3⟩ := zjx .empty hm
      have := zfl (R := fun a b => a ≠ b) .empty h h1 hj
      exact this h3
    · intro h
      rw [List.Nodup, List.pairwise_iff_getElem]
      intro i j hi hj hij he
      apply h j (Nat.zero_le _) hj
      rw [zk _ _ _ hj, ← he]
      exact List.mem_take_iff_getElem.2 ⟨i, by omega, rfl⟩
  rw [hnd]
  constructor
  · intro h
    refine ⟨fun x hx => ?_, fun j h1 h2 => (h j h1 h2).2⟩
    obtain ⟨i, hi, rfl⟩ := zbb .empty hx
    exact (h i (Nat.zero_le _) hi).1
  · rintro ⟨h1, h2⟩ j h3 h4; exact ⟨h1 _ (zi h4), h2 j h3 h4⟩
theorem zk4 (w : Int) (m : List Bs) : (∀ j, 0 ≤ j → j < m.length → ((nth .empty m j).size : Int) = w) ↔ ∀ x ∈ m, (x.size : Int) = w := by
  constructor
  · intro h x hx
    obtain ⟨i, hi, rfl⟩ := zbb .empty hx
    exact h i (Nat.zero_le _) hi
  · intro h j _ hj; exact h _ (zi hj)
noncomputable def lastB (births : Int) (r : Round) : Bool := if r.phase = 0 then decide (r.queue = [] ∧ r.marked = [] ∧ r.top = 0 ∧ r.at_ = 0) else decide (0 ≤ r.top ∧ r.top ≤ births ∧ 1 ≤ r.at_ ∧ r.at_ ≤ r.top + 1 ∧ (r.phase = 1 → r.at_ = r.top + 1))
theorem zs8 (w births : Int) (r : Round) : RoundOk w births r ↔ (0 ≤ r.phase ∧ r.phase ≤ 2) ∧ (0 ≤ r.rounds ∧ r.rounds ≤ 1000000000) ∧ r.queue.length ≤ 23200 ∧ r.marked.length ≤ 600 ∧ ((∀ x ∈ r.marked, (x.size : Int) = w) ∧ r.marked.Nodup) ∧ (∀ x ∈ r.queue, (x.size : Int) = w) ∧ lastB births r = true := by
  unfold lastB
  constructor
  · intro h
    refine ⟨h.ph, h.rds, h.nQ, h.nM, ⟨h.szM, h.ndM⟩, h.szQ, ?_⟩
    split
    · rename_i h0; exact decide_eq_true (h.rest h0)
    · rename_i h0; exact decide_eq_true (h.go h0)
  · rintro ⟨a, b, c, d, ⟨e1, e2⟩, f, h⟩
    refine ⟨a, b, c, d, e1, e2, f, fun h0 => ?_, fun h0 => ?_⟩
    · rw [if_pos h0] at h; exact of_decide_eq_true h
    · rw [if_neg h0] at h; exact of_decide_eq_true h
end KV
end
section
namespace KV
open Go Go.Eng
open Classical
theorem zql (w now g b : Int) (T : List Kept) (P L : Rw) (hT : T.length ≤ 1099511627775) (hr : ∀ k ∈ T, k.thing.refs.length ≤ 1099511627776) (hP : P.length ≤ 1099511627776) (hL : L.length ≤ 1099511627776) :
    Lqb0 none [.i w, .i now, .i g, .i b, .l (encK T), .l P, .l L] = some [.i w, .i now, .i g, .i b, .l (encK T), .l P, .l L] := by
  rw [eqb0_i, zc1]
  have := zbc (f := fun (i : Nat) (a : List Kept) => Lqb0 (some 4) [.l (encK T), .i (T.length : Int), .i (i : Int), .i w, .i now, .i g, .i b, .l P, .l L, .i 0, .i 0, .i 0, .i 0, .l (encK a), .l [], .l [], .l []]) (n := T.length) (T := some [.i w, .i now, .i g, .i b, .l (encK T), .l P, .l L])
    (I := fun i a => a = T.take i) (fun i a hi hI => ⟨a ++ [nth K0 T i], by
      show Lqb0 _ _ = Lqb0 _ _
      have hk := hr _ (zi (d := K0) hi)
      have hl : a.length ≤ i := by rw [hI]; simp; omega
      rw [eqb0_4, mostE, ← z8]
      simp (disch := omega) only [push_cast, zf0 (encS (nth K0 T i).thing.refs) (by rw [zbk]; omega)] <;> rfl, by show a ++ [nth K0 T i] = _; rw [zba K0 hi, hI]⟩) (fun a hI => by
      show Lqb0 _ _ = _
      rw [eqb0_4, mostE]
      simp (disch := omega) only [push_cast]
      rw [hI, List.take_length]) 0 [] (Nat.zero_le _) rfl
  exact this
def encRo (r : Round) : Lv := [.i r.phase, .i r.top, .i r.at_, .i r.rounds, .l (encS r.queue), .l (encS r.marked)]
structure Vault where
  width : Int
  limit : Int
  safe : List Bs
  loose : List Bs
  st : State
  rd : Round
def V0 : Vault := ⟨0, 0, [], [], ⟨0, 0, 0, 0, [], [], []⟩, R0⟩
def encV (v : Vault) : Lv := [.i v.width, .i v.limit, .l (encS v.safe), .l (encS v.loose), .i v.st.width, .i v.st.now, .i v.st.given, .i v.st.births, .l (encK v.st.things), .l (encP v.st.pins), .l (encL v.st.leases), .i v.rd.phase, .l (encS v.rd.queue), .l (encS v.rd.marked), .i v.rd.top, .i v.rd.at_, .i v.rd.rounds]
def vI (v : Vault) : Lv := [.i v.width, .i v.limit, .i v.st.width, .i v.st.now, .i v.st.given, .i v.st.births, .i v.rd.phase, .i v.rd.top, .i v.rd.at_, .i v.rd.rounds]
def vL (v : Vault) : Lv := [.l (encS v.safe), .l (encS v.loose), .l (encK v.st.things), .l (encP v.st.pins), .l (encL v.st.leases), .l (encS v.rd.queue), .l (encS v.rd.marked)]
structure SmallV (v : Vault) : Prop where
  a : Small v.safe
  b : Small v.loose
  ab : v.safe.length + v.loose.length ≤ 1099511627776
  st : Small1 v.st
  nT : v.st.things.length ≤ 1099511627775
  q : v.rd.queue.length ≤ 1099511627776
  m : v.rd.marked.length ≤ 1099511627776
structure VV (v : Vault) : Prop where
  wd : zj v.width = true
  lim : 0 ≤ v.limit ∧ v.limit ≤ 1000000
  log : LogOk v.safe v.loose
  run : runL v.width (empty v.width) (v.safe ++ v.loose) 0 = .inl v.st
  rd : RoundOk v.st.width v.st.births v.rd
theorem VV.vs {v : Vault} (h : VV v) : VS v.st ∧ v.st.width = v.width := zeg _ _ _ _ (zei (zw.1 h.wd)) rfl h.run
theorem VV.small {v : Vault} (h : VV v) : SmallV v := by
  have hn := h.log.n; have hq := h.rd.nQ; have hm := h.rd.nM; have hT := h.vs.1.nT
  refine ⟨⟨by omega, fun x hx => by have := h.log.sa x hx; omega⟩, ⟨by omega, fun x hx => by have := h.log.sb x hx; omega⟩, by omega, h.vs.1.small, by omega, by omega, by omega⟩
def CutV (v : Vault) : Prop := ∀ s, runL v.width (empty v.width) (v.safe ++ v.loose) 0 = .inl s → Cut s v.st
def encO : Vault ⊕ Int → Lv
  | .inl v => [.i v.width, .i v.limit, .i v.st.width, .i v.st.now, .i v.st.given, .i v.st.births, .i 0, .l [], .l [], .i 0, .i 0, .i 0, .i 0, .l (encS v.safe), .l (encS v.loose), .l (encK v.st.things), .l (encP v.st.pins), .l (encL v.st.leases)]
  | .inr c => [.i 0, .i 0, .i 0, .i 0, .i 0, .i 0, .i 0, .l [], .l [], .i 0, .i 0, .i 0, .i c, .l [], .l [], .l [], .l [], .l []]
noncomputable def openM (w lim : Int) (a b : List Bs) : Vault ⊕ Int :=
  if zj w = true ∧ (0 ≤ lim ∧ lim ≤ 1000000) ∧ LogOk a b then (match runL w (empty w) (a ++ b) 0 with
    | .inl s => .inl ⟨w, lim, a, b, s, R0⟩
    | .inr _ => .inr 2)
  else .inr 1
theorem Small.app {a b : List Bs} (ha : Small a) (hb : Small b) (hn : a.length + b.length ≤ 1099511627776) : Small (a ++ b) :=
  ⟨by rw [List.length_append]; exact hn, fun x hx => by rcases List.mem_append.1 hx with h | h; exact ha.2 x h; exact hb.2 x h⟩
def roomM (s : State) : Nat := (s.things.map fun k => (formM k.thing).size).sum
theorem znf {l : List Nat} : ∀ {i : Nat}, (l.take i).sum ≤ l.sum := fun {i} => by
  conv => rhs; rw [← List.take_append_drop i l, List.sum_append]
  omega
theorem zqz {s : State} (V : VS s) : roomM s ≤ 1344600 := by
  have : ∀ T : List Kept, (∀ k ∈ T, ThingOk k.thing s.width) → (T.map fun k => (formM k.thing).size).sum ≤ 2241 * T.length := by
    intro T
    induction T with
    | nil => intro _; simp
    | cons a T ih =>
      intro h
      have h1 := zbe (h a (by simp)); have h2 := zbh a.thing; have h3 := ih fun k hk => h k (by simp [hk])
      simp only [List.map_cons, List.sum_cons, List.length_cons]; omega
  have h1 := this s.things fun k hk => (V.okT k hk).1
  have h2 := V.nT
  unfold roomM; omega
noncomputable def zch (s : State) (r : Round) (x : Bs) : Round := if hasT s.things x ∧ r.phase ≠ 0 ∧ x ∉ r.marked ∧ r.queue.length < 23200 then { r with queue := r.queue ++ [x] } else r
theorem zpc {w b : Int} {s : State} {r : Round} {x : Bs} (h : RoundOk w b r) (hx : (x.size : Int) = w) : RoundOk w b (zch s r x) := by
  unfold zch
  split
  · rename_i hc
    refine ⟨h.ph, h.rds, ?_, h.nM, h.szM, h.ndM, ?_, fun h0 => absurd h0 hc.2.1, h.go⟩
    · show (r.queue ++ [x]).length ≤ 23200; rw [List.length_append]; simp; omega
    · intro y hy
      rcases List.mem_append.1 hy with h1 | h1
      · exact h.szQ y h1
      · rw [List.mem_singleton] at h1; rw [h1]; exact hx
  · exact h
theorem RoundOk.mono {w b b' : Int} {r : Round} (h : RoundOk w b r) (hb : b ≤ b') : RoundOk w b' r :=
  ⟨h.ph, h.rds, h.nQ, h.nM, h.szM, h.ndM, h.szQ, h.rest, fun h0 => by obtain ⟨a, b, c⟩ := h.go h0; exact ⟨a, by omega, c⟩⟩
end KV
end
section
namespace KV
open Go Go.Eng
open Classical
theorem ztd (a b : List Bs) (ha : a.length ≤ 1099511627776) (hb : b.length ≤ 1099511627776) : Lqbw none [.l (encS a), .l (encS b)] = some [.b (decide (a = b))] := by
  rw [eqbw_i]
  by_cases h : a.length = b.length
  · have l1 := zq (f := fun i : Nat => Lqbw (some 4) [.l (encS a), .l (encS b), .i (i : Int)]) (P := fun j => nth .empty a j = nth .empty b j) (n := a.length) (T := some [.b true]) (F := some [.b false]) (fun i hi => by
      show (_ → Lqbw _ _ = _) ∧ (_ → Lqbw _ _ = _)
      rw [eqbw_4]
      by_cases hc : nth .empty a i = nth .empty b i <;> simp (disch := omega) only [push_cast] <;> simp [hc]) (by show Lqbw _ _ = _; rw [eqbw_4]; simp (disch := omega) only [push_cast]) 0 (Nat.zero_le _)
    simp (disch := omega) only [push_cast]
    refine l1.trans ?_
    split
    · rename_i hh; rw [decide_eq_true (p := a = b) (zdq .empty h hh)]
    · rename_i hh; rw [decide_eq_false (p := a = b)]; rintro rfl; exact hh fun _ _ _ => rfl
  · have : ¬ a = b := fun e => h (by rw [e])
    simp (disch := omega) only [push_cast]; rw [decide_eq_false this]
theorem zra (l : List Bs) (x : Bs) (h : l.length ≤ 1099511627776) : Lqb1 none [.l (encS l), .s x] = some [.b (decide (x ∈ l))] := by
  rw [eqb1_i]
  have := zbx (f := fun i : Nat => Lqb1 (some 2) [.l (encS l), .s x, .i (i : Int)]) .empty (l := l) (p := fun r => r = x) (T := some [.b true]) (E := some [.b false]) (fun i hi => by
    show Lqb1 _ _ = cond _ _ (Lqb1 _ _)
    rw [eqb1_2]; simp (disch := omega) only [push_cast]) (by show Lqb1 _ _ = _; rw [eqb1_2]; simp (disch := omega) only [push_cast])
  refine this.trans ?_
  by_cases h : ∃ r ∈ l, r = x
  · rw [if_pos h, decide_eq_true (p := x ∈ l) (by obtain ⟨r, hr, rfl⟩ := h; exact hr)]
  · rw [if_neg h, decide_eq_false (p := x ∈ l) (fun h3 => h ⟨x, h3, rfl⟩)]
theorem zkt (a b : Thing) (ha : a.refs.length ≤ 1099511627776) (hb : b.refs.length ≤ 1099511627776) : Lqc1 none [.s a.text, .l (encS a.refs), .s b.text, .l (encS b.refs)] = some [.b (decide (a = b))] := by
  obtain ⟨x, r⟩ := a; obtain ⟨y, t⟩ := b
  simp only at ha hb ⊢
  rw [eqc1_i]
  by_cases h : x = y
  · simp (disch := omega) only [push_cast, ztd r t ha hb]
    congr 3
    exact decide_eq_decide.2 ⟨fun e => by rw [h, e], fun e => by cases e; rfl⟩
  · simp (disch := omega) only [push_cast]; rw [decide_eq_false (p := (⟨x, r⟩ : Thing) = ⟨y, t⟩)]; intro e; cases e; exact h rfl
theorem zla {a b : State} (ha : Small1 a) (hb : Small1 b) : Lqg none (encSt a ++ encSt b) = some [.b (decide (a = b))] := by
  have a1 := ha.nT; have a2 := ha.nP; have a3 := ha.nL; have b1 := hb.nT; have b2 := hb.nP; have b3 := hb.nL
  show Lqg none [.i a.width, .i a.now, .i a.given, .i a.births, .l (encK a.things), .l (encP a.pins), .l (encL a.leases), .i b.width, .i b.now, .i b.given, .i b.births, .l (encK b.things), .l (encP b.pins), .l (encL b.leases)] = _
  rw [eqg_i]
  have no : ∀ p : Prop, [Decidable p] → (a = b → p) → ¬ p → decide (a = b) = false := fun p _ h1 h2 => decide_eq_false fun h3 => h2 (h1 h3)
  by_cases h1 : a.width = b.width
  rotate_left; · rw [no _ (fun h => by rw [h]) h1]; simp (disch := omega) only [push_cast]
  by_cases h2 : a.now = b.now
  rotate_left; · rw [no _ (fun h => by rw [h]) h2]; simp (disch := omega) only [push_cast]
  by_cases h3 : a.given = b.given
  rotate_left; · rw [no _ (fun h => by rw [h]) h3]; simp (disch := omega) only [push_cast]
  by_cases h4 : a.births = b.births
  rotate_left; · rw [no _ (fun h => by rw [h]) h4]; simp (disch := omega) only [push_cast]
  by_cases h5 : a.things.length = b.things.length
  rotate_left; · rw [no _ (fun h => by rw [h]) h5]; simp (disch := omega) only [push_cast]
  by_cases h6 : a.pins.length = b.pins.length
  rotate_left; · rw [no _ (fun h => by rw [h]) h6]; simp (disch := omega) only [push_cast]
  by_cases h7 : a.leases.length = b.leases.length
  rotate_left; · rw [no _ (fun h => by rw [h]) h7]; simp (disch := omega) only [push_cast]
  simp (disch := omega) only [push_cast]
  have l3 := zq (f := fun i : Nat => Lqg (some 14) [.i (i : Int), .i a.width, .i a.now, .i a.given, .i a.births, .l (encK a.things), .l (encP a.pins), .l (encL a.leases), .i b.width, .i b.now, .i b.given, .i b.births, .l (encK b.things), .l (encP b.pins), .l (encL b.leases)])
    (P := fun j => nth L0 a.leases j = nth L0 b.leases j) (n := a.leases.length) (T := some [.b true]) (F := some [.b false]) (fun i hi => by
      show (_ → Lqg _ _ = _) ∧ (_ → Lqg _ _ = _)
      rw [eqg_14]
      simp only [zdl, zhw, zln, zim, zix]
      by_cases hc : nth L0 a.leases i = nth L0 b.leases i <;> simp (disch := omega) only [push_cast] <;> simp [hc]) (by show Lqg _ _ = _; rw [eqg_14]; simp (disch := omega) only [push_cast]) 0 (Nat.zero_le _)
  have l2 := zq (f := fun i : Nat => Lqg (some 9) [.i (i : Int), .i a.width, .i a.now, .i a.given, .i a.births, .l (encK a.things), .l (encP a.pins), .l (encL a.leases), .i b.width, .i b.now, .i b.given, .i b.births, .l (encK b.things), .l (encP b.pins), .l (encL b.leases)])
    (P := fun j => nth P0 a.pins j = nth P0 b.pins j) (n := a.pins.length) (T := Lqg (some 14) [.i 0, .i a.width, .i a.now, .i a.given, .i a.births, .l (encK a.things), .l (encP a.pins), .l (encL a.leases), .i b.width, .i b.now, .i b.given, .i b.births, .l (encK b.things), .l (encP b.pins), .l (encL b.leases)]) (F := some [.b false]) (fun i hi => by
      show (_ → Lqg _ _ = _) ∧ (_ → Lqg _ _ = _)
      rw [eqg_9]
      simp only [zdl, zjw, zj7, zj8]
      by_cases hc : nth P0 a.pins i = nth P0 b.pins i <;> simp (disch := omega) only [push_cast] <;> simp [hc]) (by show Lqg _ _ = _; rw [eqg_9]; simp (disch := omega) only [push_cast]) 0 (Nat.zero_le _)
  have l1 := zq (f := fun i : Nat => Lqg (some 4) [.i (i : Int), .i a.width, .i a.now, .i a.given, .i a.births, .l (encK a.things), .l (encP a.pins), .l (encL a.leases), .i b.width, .i b.now, .i b.given, .i b.births, .l (encK b.things), .l (encP b.pins), .l (encL b.leases)])
    (P := fun j => nth K0 a.things j = nth K0 b.things j) (n := a.things.length) (T := Lqg (some 9) [.i 0, .i a.width, .i a.now, .i a.given, .i a.births, .l (encK a.things), .l (encP a.pins), .l (encL a.leases), .i b.width, .i b.now, .i b.given, .i b.births, .l (encK b.things), .l (encP b.pins), .l (encL b.leases)]) (F := some [.b false]) (fun i hi => by
      show (_ → Lqg _ _ = _) ∧ (_ → Lqg _ _ = _)
      rw [eqg_4]
      have hsa := ha.t _ (zi (d := K0) hi)
      have hsb := hb.t _ (zi (d := K0) (show i < b.things.length by omega))
      obtain ⟨x, hx⟩ : ∃ x, nth K0 a.things i = x := ⟨_, rfl⟩
      obtain ⟨y, hy⟩ : ∃ y, nth K0 b.things i = y := ⟨_, rfl⟩
      rw [hx] at hsa ⊢
      rw [hy] at hsb ⊢
      by_cases c1 : x.sum = y.sum
      · by_cases c2 : x.born = y.born
        · by_cases c3 : x.thing = y.thing
          · obtain rfl : x = y := by obtain ⟨s, n, t⟩ := x; obtain ⟨s', n', t'⟩ := y; simp only at c1 c2 c3; rw [c1, c2, c3]
            simp (disch := omega) only [push_cast, hx, hy, zkt x.thing x.thing hsa.2 hsa.2, decide_eq_true (show x.thing = x.thing from rfl)]
            simp
          · have : ¬ x = y := fun h => c3 (by rw [h])
            simp (disch := omega) only [push_cast, hx, hy, zkt x.thing y.thing hsa.2 hsb.2, decide_eq_false c3]
            simp [this]
        · have : ¬ x = y := fun h => c2 (by rw [h])
          simp (disch := omega) only [push_cast, hx, hy]; simp [this]
      · have : ¬ x = y := fun h => c1 (by rw [h])
        simp (disch := omega) only [push_cast, hx, hy]; simp [this]) (by show Lqg _ _ = _; rw [eqg_4]; simp (disch := omega) only [push_cast]) 0 (Nat.zero_le _)
  refine l1.trans ?_
  split
  · rename_i hT
    have hTe : a.things = b.things := zdq K0 h5 hT
    refine l2.trans ?_
    rw [show Lqg (some 14) [.i 0, .i a.width, .i a.now, .i a.given, .i a.births, .l (encK a.things), .l (encP a.pins), .l (encL a.leases), .i b.width, .i b.now, .i b.given, .i b.births, .l (encK b.things), .l (encP b.pins), .l (encL b.leases)] = _ from l3]
    exact zle hTe ⟨h1, h2, h3, h4⟩ h6 h7
  · rename_i hT
    rw [decide_eq_false (p := a = b)]
    rintro rfl; exact hT fun _ _ _ => rfl
end KV
end
section
namespace KV
open Go Go.Eng
open Classical
structure Did where
  code : Int
  v : Vault
  sum : Bs
  lease : Int
  a : Bs
  b : Bs
def zn (d : Did) : Lv := .i d.code :: (vI d.v ++ ([.s d.sum, .i d.lease, .s d.a, .s d.b] ++ vL d.v))
def same (v : Vault) (c : Int) : Did := ⟨c, v, E0, 0, E0, E0⟩
def zdo (e : Entry) (o : Out) : Bs := if e.kind = 1 then o.sum else e.sum
noncomputable def doE (v : Vault) (e : Entry) (sh : Bool) : Did :=
  if ¬ VV v then same V0 1
  else if ¬ zh e v.width = true then same v 1
  else if ¬ (chg v.st e).code = 0 then { same v (chg v.st e).code with a := (chg v.st e).a, b := (chg v.st e).b }
  else if e.kind = 1 ∧ v.limit < (roomM (chg v.st e).st : Int) then same v 8
  else if v.safe.length + v.loose.length = 4000 then same v 9
  else ⟨0, { v with loose := v.loose ++ [formE e], st := (chg v.st e).st, rd := if sh = true then zch (chg v.st e).st v.rd (zdo e (chg v.st e)) else v.rd }, (chg v.st e).sum, (chg v.st e).lease, E0, E0⟩
end KV
end
section
namespace KV
open Go Go.Eng
open Classical
theorem zd0 (d : Did) : [Lf.i ((g (zn d) 0).int), .i ((g (zn d) 1).int), .i ((g (zn d) 2).int), .i ((g (zn d) 3).int), .i ((g (zn d) 4).int), .i ((g (zn d) 5).int), .i ((g (zn d) 6).int), .i ((g (zn d) 7).int), .i ((g (zn d) 8).int), .i ((g (zn d) 9).int), .i ((g (zn d) 10).int), .s ((g (zn d) 11).str), .i ((g (zn d) 12).int), .s ((g (zn d) 13).str), .s ((g (zn d) 14).str), .l ((g (zn d) 15).list), .l ((g (zn d) 16).list), .l ((g (zn d) 17).list), .l ((g (zn d) 18).list), .l ((g (zn d) 19).list), .l ((g (zn d) 20).list), .l ((g (zn d) 21).list)] = zn d := rfl
def ePut (t : Thing) (hold : Int) : Entry := ⟨1, E0, E0, hold, t⟩
theorem zpp {s : State} {e : Entry} (h : (chg s e).code = 0) : s.births ≤ (chg s e).st.births := by
  unfold chg putS fail done lent at h ⊢
  repeat' split
  all_goals first | exact Int.le_refl _ | (show s.births ≤ s.births + 1; omega)
theorem ztk {s : State} (V : VS s) {r : Round} (x : Bs) (h : RoundOk s.width s.births r) : RoundOk s.width s.births (zch s r x) := by
  by_cases hT : hasT s.things x
  · obtain ⟨k, hk, he⟩ := hT
    refine zpc h ?_
    rw [← he, (V.okT k hk).2.1]
    exact zd8 V.wd
  · unfold zch; rw [if_neg fun h => hT h.1]; exact h
theorem ztb {v : Vault} {e : Entry} {sh : Bool} (h : (doE v e sh).code = 0) : VV v ∧ zh e v.width = true ∧ (chg v.st e).code = 0 ∧ VV (doE v e sh).v := by
  unfold doE at h ⊢
  split at h
  · cases h
  · rename_i V
    have V := Classical.not_not.1 V
    rw [if_neg (not_not_intro V)]
    split at h
    · cases h
    · rename_i he
      have he := Classical.not_not.1 he
      rw [if_neg (not_not_intro he)]
      split at h
      · rename_i hc; exact absurd h hc
      · rename_i hc
        have hc := Classical.not_not.1 hc
        rw [if_neg (not_not_intro hc)]
        split at h
        · cases h
        · rename_i h8
          rw [if_neg h8]
          split at h
          · cases h
          · rename_i h9
            rw [if_neg h9]
            refine ⟨V, he, hc, ?_⟩
            have Vs := V.vs
            have he' : zh e v.st.width = true := by rw [Vs.2]; exact he
            have Vc := zcm Vs.1 he' hc
            have hfs := zi7 he
            have hl := V.log.n
            refine ⟨V.wd, V.lim, ⟨V.log.sa, fun x hx => ?_, ?_⟩, ?_, ?_⟩
            · rcases List.mem_append.1 hx with h1 | h1
              · exact V.log.sb x h1
              · rw [List.mem_singleton] at h1; rw [h1]; omega
            · show v.safe.length + (v.loose ++ [formE e]).length ≤ 4000
              rw [List.length_append]; simp; omega
            · show runL v.width (empty v.width) (v.safe ++ (v.loose ++ [formE e])) 0 = .inl (chg v.st e).st
              rw [← List.append_assoc, zfq, V.run]
              simp only [runL, zgx he]
              rw [if_pos hc]
            · show RoundOk (chg v.st e).st.width (chg v.st e).st.births (if sh = true then zch (chg v.st e).st v.rd (zdo e (chg v.st e)) else v.rd)
              have hr : RoundOk (chg v.st e).st.width (chg v.st e).st.births v.rd := by
                rw [zf1]; exact V.rd.mono (zpp hc)
              split
              · exact ztk Vc _ hr
              · exact hr
end KV
end
section
namespace KV
open Go Go.Eng
open Classical
theorem zmi (a b : Thing) (ha : a.refs.length ≤ 1099511627776) (hb : b.refs.length ≤ 1099511627776) : Lqb4 none [.s a.text, .l (encS a.refs), .s b.text, .l (encS b.refs)] = some [.b (decide (a = b))] := by
  obtain ⟨x, r⟩ := a; obtain ⟨y, t⟩ := b
  simp only at ha hb ⊢
  rw [eqb4_i]
  by_cases h0 : x = y
  rotate_left; · simp (disch := omega) only [push_cast]; rw [decide_eq_false (p := (⟨x, r⟩ : Thing) = ⟨y, t⟩)]; intro e; cases e; exact h0 rfl
  by_cases h : r.length = t.length
  · have l1 := zq (f := fun i : Nat => Lqb4 (some 4) [.i (i : Int), .s x, .l (encS r), .s y, .l (encS t)]) (P := fun j => nth .empty r j = nth .empty t j) (n := r.length) (T := some [.b true]) (F := some [.b false]) (fun i hi => by
      show (_ → Lqb4 _ _ = _) ∧ (_ → Lqb4 _ _ = _)
      rw [eqb4_4]
      by_cases hc : nth .empty r i = nth .empty t i <;> simp (disch := omega) only [push_cast] <;> simp [hc]) (by show Lqb4 _ _ = _; rw [eqb4_4]; simp (disch := omega) only [push_cast]) 0 (Nat.zero_le _)
    simp (disch := omega) only [push_cast]
    refine l1.trans ?_
    split
    · rename_i hh; rw [decide_eq_true (p := (⟨x, r⟩ : Thing) = ⟨y, t⟩) (by rw [h0, zdq .empty h hh])]
    · rename_i hh; rw [decide_eq_false (p := (⟨x, r⟩ : Thing) = ⟨y, t⟩)]; intro e; cases e; exact hh fun _ _ _ => rfl
  · have : ¬ (⟨x, r⟩ : Thing) = ⟨y, t⟩ := fun e => h (by cases e; rfl)
    simp (disch := omega) only [push_cast]; rw [decide_eq_false this]
theorem zri {a b : State} (ha : Small1 a) (hb : Small1 b) : Lqj none (encSt a ++ encSt b) = some [.b (decide (a = b))] := by
  have a1 := ha.nT; have a2 := ha.nP; have a3 := ha.nL; have b1 := hb.nT; have b2 := hb.nP; have b3 := hb.nL
  show Lqj none [.i a.width, .i a.now, .i a.given, .i a.births, .l (encK a.things), .l (encP a.pins), .l (encL a.leases), .i b.width, .i b.now, .i b.given, .i b.births, .l (encK b.things), .l (encP b.pins), .l (encL b.leases)] = _
  rw [eqj_i]
  have no : ∀ p : Prop, [Decidable p] → (a = b → p) → ¬ p → decide (a = b) = false := fun p _ h1 h2 => decide_eq_false fun h3 => h2 (h1 h3)
  by_cases h1 : a.width = b.width
  rotate_left; · rw [no _ (fun h => by rw [h]) h1]; simp (disch := omega) only [push_cast]
  by_cases h2 : a.now = b.now
  rotate_left; · rw [no _ (fun h => by rw [h]) h2]; simp (disch := omega) only [push_cast]
  by_cases h3 : a.given = b.given
  rotate_left; · rw [no _ (fun h => by rw [h]) h3]; simp (disch := omega) only [push_cast]
  by_cases h4 : a.births = b.births
  rotate_left; · rw [no _ (fun h => by rw [h]) h4]; simp (disch := omega) only [push_cast]
  by_cases h5 : a.things.length = b.things.length
  rotate_left; · rw [no _ (fun h => by rw [h]) h5]; simp (disch := omega) only [push_cast]
  by_cases h6 : a.pins.length = b.pins.length
  rotate_left; · rw [no _ (fun h => by rw [h]) h6]; simp (disch := omega) only [push_cast]
  by_cases h7 : a.leases.length = b.leases.length
  rotate_left; · rw [no _ (fun h => by rw [h]) h7]; simp (disch := omega) only [push_cast]
  simp (disch := omega) only [push_cast]
  have l3 := zq (f := fun i : Nat => Lqj (some 14) [.i (i : Int), .i a.width, .i a.now, .i a.given, .i a.births, .l (encK a.things), .l (encP a.pins), .l (encL a.leases), .i b.width, .i b.now, .i b.given, .i b.births, .l (encK b.things), .l (encP b.pins), .l (encL b.leases)])
    (P := fun j => nth L0 a.leases j = nth L0 b.leases j) (n := a.leases.length) (T := some [.b true]) (F := some [.b false]) (fun i hi => by
      show (_ → Lqj _ _ = _) ∧ (_ → Lqj _ _ = _)
      rw [eqj_14]
      simp only [zdl, zhw, zln, zim, zix]
      by_cases hc : nth L0 a.leases i = nth L0 b.leases i <;> simp (disch := omega) only [push_cast] <;> simp [hc]) (by show Lqj _ _ = _; rw [eqj_14]; simp (disch := omega) only [push_cast]) 0 (Nat.zero_le _)
  have l2 := zq (f := fun i : Nat => Lqj (some 9) [.i (i : Int), .i a.width, .i a.now, .i a.given, .i a.births, .l (encK a.things), .l (encP a.pins), .l (encL a.leases), .i b.width, .i b.now, .i b.given, .i b.births, .l (encK b.things), .l (encP b.pins), .l (encL b.leases)])
    (P := fun j => nth P0 a.pins j = nth P0 b.pins j) (n := a.pins.length) (T := Lqj (some 14) [.i 0, .i a.width, .i a.now, .i a.given, .i a.births, .l (encK a.things), .l (encP a.pins), .l (encL a.leases), .i b.width, .i b.now, .i b.given, .i b.births, .l (encK b.things), .l (encP b.pins), .l (encL b.leases)]) (F := some [.b false]) (fun i hi => by
      show (_ → Lqj _ _ = _) ∧ (_ → Lqj _ _ = _)
      rw [eqj_9]
      simp only [zdl, zjw, zj7, zj8]
      by_cases hc : nth P0 a.pins i = nth P0 b.pins i <;> simp (disch := omega) only [push_cast] <;> simp [hc]) (by show Lqj _ _ = _; rw [eqj_9]; simp (disch := omega) only [push_cast]) 0 (Nat.zero_le _)
  have l1 := zq (f := fun i : Nat => Lqj (some 4) [.i (i : Int), .i a.width, .i a.now, .i a.given, .i a.births, .l (encK a.things), .l (encP a.pins), .l (encL a.leases), .i b.width, .i b.now, .i b.given, .i b.births, .l (encK b.things), .l (encP b.pins), .l (encL b.leases)])
    (P := fun j => nth K0 a.things j = nth K0 b.things j) (n := a.things.length) (T := Lqj (some 9) [.i 0, .i a.width, .i a.now, .i a.given, .i a.births, .l (encK a.things), .l (encP a.pins), .l (encL a.leases), .i b.width, .i b.now, .i b.given, .i b.births, .l (encK b.things), .l (encP b.pins), .l (encL b.leases)]) (F := some [.b false]) (fun i hi => by
      show (_ → Lqj _ _ = _) ∧ (_ → Lqj _ _ = _)
      rw [eqj_4]
      have hsa := ha.t _ (zi (d := K0) hi)
      have hsb := hb.t _ (zi (d := K0) (show i < b.things.length by omega))
      obtain ⟨x, hx⟩ : ∃ x, nth K0 a.things i = x := ⟨_, rfl⟩
      obtain ⟨y, hy⟩ : ∃ y, nth K0 b.things i = y := ⟨_, rfl⟩
      rw [hx] at hsa ⊢
      rw [hy] at hsb ⊢
      by_cases c1 : x.sum = y.sum
      · by_cases c2 : x.born = y.born
        · by_cases c3 : x.thing = y.thing
          · obtain rfl : x = y := by obtain ⟨s, n, t⟩ := x; obtain ⟨s', n', t'⟩ := y; simp only at c1 c2 c3; rw [c1, c2, c3]
            simp (disch := omega) only [push_cast, hx, hy, zmi x.thing x.thing hsa.2 hsa.2, decide_eq_true (show x.thing = x.thing from rfl)]
            simp
          · have : ¬ x = y := fun h => c3 (by rw [h])
            simp (disch := omega) only [push_cast, hx, hy, zmi x.thing y.thing hsa.2 hsb.2, decide_eq_false c3]
            simp [this]
        · have : ¬ x = y := fun h => c2 (by rw [h])
          simp (disch := omega) only [push_cast, hx, hy]; simp [this]
      · have : ¬ x = y := fun h => c1 (by rw [h])
        simp (disch := omega) only [push_cast, hx, hy]; simp [this]) (by show Lqj _ _ = _; rw [eqj_4]; simp (disch := omega) only [push_cast]) 0 (Nat.zero_le _)
  refine l1.trans ?_
  split
  · rename_i hT
    have hTe : a.things = b.things := zdq K0 h5 hT
    refine l2.trans ?_
    rw [show Lqj (some 14) [.i 0, .i a.width, .i a.now, .i a.given, .i a.births, .l (encK a.things), .l (encP a.pins), .l (encL a.leases), .i b.width, .i b.now, .i b.given, .i b.births, .l (encK b.things), .l (encP b.pins), .l (encL b.leases)] = _ from l3]
    exact zle hTe ⟨h1, h2, h3, h4⟩ h6 h7
  · rename_i hT
    rw [decide_eq_false (p := a = b)]
    rintro rfl; exact hT fun _ _ _ => rfl
theorem zo8 (s : State) (r : Round) (hb : 0 ≤ s.births ∧ s.births ≤ 1000000000) : Lqv none (encSt s ++ encR r) = some [.b (decide (RoundOk s.width s.births r))] := by
  show Lqv none [.i s.width, .i s.now, .i s.given, .i s.births, .l (encK s.things), .l (encP s.pins), .l (encL s.leases), .i r.phase, .l (encS r.queue), .l (encS r.marked), .i r.top, .i r.at_, .i r.rounds] = _
  rw [eqv_i]
  have hri := zs8 s.width s.births r
  have no : ∀ p : Prop, (RoundOk s.width s.births r → p) → ¬ p → decide (RoundOk s.width s.births r) = false := fun p h1 h2 => decide_eq_false fun h3 => h2 (h1 h3)
  by_cases h1 : 0 ≤ r.phase
  rotate_left; · rw [no _ (fun h => h.ph.1) h1]; simp (disch := omega) only [push_cast]
  by_cases h2 : r.phase ≤ 2
  rotate_left; · rw [no _ (fun h => h.ph.2) h2]; simp (disch := omega) only [push_cast]
  by_cases h3 : 0 ≤ r.rounds ∧ r.rounds ≤ 1000000000
  rotate_left; · rw [no _ (fun h => h.rds) h3]; simp (disch := omega) only [push_cast, zl]
  by_cases h4 : r.queue.length ≤ 23200
  rotate_left; · rw [no _ (fun h => h.nQ) h4]; simp (disch := omega) only [push_cast, zl]
  by_cases h5 : r.marked.length ≤ 600
  rotate_left; · rw [no _ (fun h => h.nM) h5]; simp (disch := omega) only [push_cast, zl]
  simp (disch := omega) only [push_cast, zl]
  have l2 := zq (f := fun i : Nat => Lqv (some 9) [.i (i : Int), .i s.width, .i s.now, .i s.given, .i s.births, .l (encK s.things), .l (encP s.pins), .l (encL s.leases), .i r.phase, .l (encS r.queue), .l (encS r.marked), .i r.top, .i r.at_, .i r.rounds])
    (P := fun j => mkP s.width r.marked j) (n := r.marked.length) (T := some [.b (lastB s.births r)]) (F := some [.b false]) (fun i hi => by
      show (_ → Lqv _ _ = Lqv _ _) ∧ (_ → Lqv _ _ = _)
      rw [eqv_9]
      have hsub : Eng.sub (encS r.marked) 0 i = encS (r.marked.take i) := by rw [zdh]; rfl
      have hlen : (r.marked.take i).length ≤ 4611686018427387904 := by rw [List.length_take]; omega
      by_cases c1 : ((nth .empty r.marked i).size : Int) = s.width
      rotate_left; · exact ⟨fun h => absurd h.1 c1, fun _ => by simp (disch := omega) only [push_cast]⟩
      by_cases c2 : nth .empty r.marked i ∈ r.marked.take i
      · exact ⟨fun h => absurd c2 h.2, fun _ => by simp (disch := omega) only [push_cast, hsub, zr _ _ hlen]⟩
      · exact ⟨fun _ => by simp (disch := omega) only [push_cast, hsub, zr _ _ hlen] <;> rfl, fun h => absurd ⟨c1, c2⟩ h⟩) (by
      show Lqv _ _ = _
      rw [eqv_9]
      simp (disch := omega) only [push_cast]
      unfold lastB
      by_cases h0 : r.phase = 0
      · rw [if_pos h0]
        simp (disch := omega) only [push_cast]
        have e1 : ∀ l : List Bs, decide ((l.length : Int) = 0) = decide (l = []) := fun l => decide_eq_decide.2 ⟨fun h => List.eq_nil_of_length_eq_zero (by omega), fun h => by rw [h]; rfl⟩
        by_cases c1 : r.queue = []
        rotate_left; · rw [e1, decide_eq_false c1]; simp [c1]
        by_cases c2 : r.marked = []
        rotate_left; · rw [e1, e1, decide_eq_false c2]; simp [c1, c2]
        by_cases c3 : r.top = 0 <;> simp [c1, c2, c3]
      · rw [if_neg h0]
        simp (disch := omega) only [push_cast, zl]
        by_cases c1 : 0 ≤ r.top ∧ r.top ≤ s.births
        rotate_left; · simp (disch := omega) only [push_cast]; rw [decide_eq_false]; rintro ⟨a, b, _⟩; exact c1 ⟨a, b⟩
        simp (disch := omega) only [push_cast, zl]
        by_cases c2 : 1 ≤ r.at_ ∧ r.at_ ≤ r.top + 1
        rotate_left; · simp (disch := omega) only [push_cast]; rw [decide_eq_false]; rintro ⟨_, _, a, b, _⟩; exact c2 ⟨a, b⟩
        simp (disch := omega) only [push_cast]
        by_cases c3 : r.phase = 2
        · simp (disch := omega) only [push_cast]; rw [decide_eq_true]; exact ⟨c1.1, c1.2, c2.1, c2.2, fun h => by omega⟩
        · simp (disch := omega) only [push_cast]; congr 3; exact decide_eq_decide.2 ⟨fun h => ⟨c1.1, c1.2, c2.1, c2.2, fun _ => h⟩, fun h => h.2.2.2.2 (by omega)⟩) 0 (Nat.zero_le _)
  have l1 := zq (f := fun i : Nat => Lqv (some 4) [.i (i : Int), .i s.width, .i s.now, .i s.given, .i s.births, .l (encK s.things), .l (encP s.pins), .l (encL s.leases), .i r.phase, .l (encS r.queue), .l (encS r.marked), .i r.top, .i r.at_, .i r.rounds])
    (P := fun j => ((nth .empty r.queue j).size : Int) = s.width) (n := r.queue.length) (T := Lqv (some 9) [.i 0, .i s.width, .i s.now, .i s.given, .i s.births, .l (encK s.things), .l (encP s.pins), .l (encL s.leases), .i r.phase, .l (encS r.queue), .l (encS r.marked), .i r.top, .i r.at_, .i r.rounds]) (F := some [.b false]) (fun i hi => by
      show (_ → Lqv _ _ = Lqv _ _) ∧ (_ → Lqv _ _ = _)
      rw [eqv_4]
      by_cases hc : ((nth .empty r.queue i).size : Int) = s.width <;> simp (disch := omega) only [push_cast] <;> simp [hc]) (by
      show Lqv _ _ = _
      rw [eqv_4]; simp (disch := omega) only [push_cast]) 0 (Nat.zero_le _)
  have l1' : Lqv (some 4) [.i 0, .i s.width, .i s.now, .i s.given, .i s.births, .l (encK s.things), .l (encP s.pins), .l (encL s.leases), .i r.phase, .l (encS r.queue), .l (encS r.marked), .i r.top, .i r.at_, .i r.rounds] = _ := l1
  have l2' : Lqv (some 9) [.i 0, .i s.width, .i s.now, .i s.given, .i s.births, .l (encK s.things), .l (encP s.pins), .l (encL s.leases), .i r.phase, .l (encS r.queue), .l (encS r.marked), .i r.top, .i r.at_, .i r.rounds] = _ := l2
  rw [l1', l2']
  by_cases h6 : ∀ j, 0 ≤ j → j < r.queue.length → ((nth .empty r.queue j).size : Int) = s.width
  rotate_left; · rw [if_neg h6, no _ (fun h => (zk4 _ _).2 h.szQ) h6]
  rw [if_pos h6]
  by_cases h7 : ∀ j, 0 ≤ j → j < r.marked.length → mkP s.width r.marked j
  rotate_left; · rw [if_neg h7, no _ (fun h => (ziy _ _).2 ⟨h.szM, h.ndM⟩) h7]
  rw [if_pos h7]
  congr 3
  cases hl : lastB s.births r
  · rw [no _ (fun h => (hri.1 h).2.2.2.2.2.2) (by rw [hl]; simp)]
  · rw [decide_eq_true (hri.2 ⟨⟨h1, h2⟩, h3, h4, h5, (ziy _ _).1 h7, (zk4 _ _).1 h6, hl⟩)]
theorem zfa {v : Vault} (h : SmallV v) : Lqbo none (encV v) = some [.b (decide (VV v))] := by
  unfold encV
  have hab := h.ab
  rw [eqbo_i]
  by_cases h1 : zj v.width = true
  rotate_left; · have : zj v.width = false := by simpa using h1
                 simp (disch := omega) only [push_cast, zt, this]; rw [decide_eq_false fun V : VV v => h1 V.wd]
  by_cases h2 : 0 ≤ v.limit ∧ v.limit ≤ 1000000
  rotate_left; · simp (disch := omega) only [push_cast, zt, h1, zl]; rw [decide_eq_false fun V : VV v => h2 V.lim]
  by_cases h3 : LogOk v.safe v.loose
  rotate_left; · simp (disch := omega) only [push_cast, zt, h1, zl, zb5 _ _ h.a h.b]; rw [decide_eq_false fun V : VV v => h3 V.log]
  have hn := h3.n
  simp (disch := omega) only [push_cast, zt, h1, zl, zb5 _ _ h.a h.b, zkn _ _ h.ab, zl1 _ _ (h.a.app h.b h.ab)]
  rw [if_pos ⟨trivial, by rw [List.length_append]; omega⟩]
  cases hr : runL v.width (empty v.width) (v.safe ++ v.loose) 0 with
  | inl s =>
    have V := zeg _ _ _ _ (zei (zw.1 h1)) rfl hr
    have hs := zri V.1.small h.st
    have hs' : Lqj none [.i s.width, .i s.now, .i s.given, .i s.births, .l (encK s.things), .l (encP s.pins), .l (encL s.leases), .i v.st.width, .i v.st.now, .i v.st.given, .i v.st.births, .l (encK v.st.things), .l (encP v.st.pins), .l (encL v.st.leases)] = _ := hs
    simp only [zdt]
    simp (disch := omega) only [push_cast, hs']
    by_cases he : s = v.st
    · rw [decide_eq_true he]
      subst he
      have hro := zo8 v.st v.rd V.1.births
      have hro' : Lqv none [.i v.st.width, .i v.st.now, .i v.st.given, .i v.st.births, .l (encK v.st.things), .l (encP v.st.pins), .l (encL v.st.leases), .i v.rd.phase, .l (encS v.rd.queue), .l (encS v.rd.marked), .i v.rd.top, .i v.rd.at_, .i v.rd.rounds] = _ := hro
      simp (disch := omega) only [push_cast, hro']
      congr 3
      exact decide_eq_decide.2 ⟨fun h4 => ⟨h1, h2, h3, hr, h4⟩, fun h4 => h4.rd⟩
    · rw [decide_eq_false he, decide_eq_false (p := VV v) fun h1 => he (by have := h1.run; rw [hr] at this; cases this; rfl)]; rfl
  | inr n =>
    simp only [zdt]
    simp (disch := omega) only [push_cast]
    rw [decide_eq_false (p := VV v) fun h1 => by have := h1.run; rw [hr] at this; cases this]
end KV
end
section
namespace KV
open Go Go.Eng
open Classical
theorem zk9 (r : Round) (h1 : r.queue.length ≤ 1099511627776) (h2 : r.marked.length ≤ 1099511627776) : Lqb9 none (encR r) = some (encRo r) := by
  unfold encR encRo
  rw [eqb9_i, mostE]; simp (disch := omega) only [push_cast, List.nil_append]
theorem zli (a b : List Bs) (ha : Small a) (hb : Small b) : Lqcl none [.l (encS a), .l (encS b)] = some [.l (encS a), .l (encS b)] := by
  have h1 := ha.1; have h2 := hb.1
  rw [eqcl_i, mostE]; simp (disch := omega) only [push_cast, List.nil_append]
theorem zel {v : Vault} (V : VV v) : Lqbp none (encV v) = some (vI v ++ vL v) := by
  have h := V.small; have Vs := V.vs.1
  have h1 := zk9 v.rd h.q h.m
  have h2 := Vs.nT; have h3 := Vs.nP; have h4 := Vs.nL
  unfold encV
  unfold encR encRo at h1
  rw [eqbp_i, zli _ _ h.a h.b]
  simp (disch := omega) only [push_cast, zce v.st.width v.st.now v.st.given v.st.births v.st.things (encP v.st.pins) (encL v.st.leases) (by omega) (zcg Vs) (by rw [zbw]; omega) (by rw [zb8]; omega), h1]
  rfl
theorem zqk {s : State} (V : VS s) : Lqb5 none (encSt s) = some [.i (roomM s : Int)] := by
  unfold encSt
  have hn := V.nT; have hr := zqz V
  rw [eqb5_i]
  have := zbc (f := fun (i : Nat) (a : Nat) => Lqb5 (some 3) [.i (a : Int), .i (i : Int), .i s.width, .i s.now, .i s.given, .i s.births, .l (encK s.things), .l (encP s.pins), .l (encL s.leases)]) (n := s.things.length) (T := some [.i (roomM s : Int)])
    (I := fun i a => a = ((s.things.map fun k => (formM k.thing).size).take i).sum) (fun i a hi hI => ⟨a + (formM (nth K0 s.things i).thing).size, by
      show Lqb5 _ _ = Lqb5 _ _
      have hk := (V.okT _ (zi (d := K0) hi)).1
      have hk2 := zbe hk
      have ha : a ≤ roomM s := by rw [hI]; exact znf
      have hf := zbh (nth K0 s.things i).thing
      have hz : ((nth K0 s.things i).thing.refs.length : Int) * s.width = (szs (nth K0 s.things i).thing.refs : Int) := by
        have : ∀ l : List Bs, (∀ r ∈ l, (r.size : Int) = s.width) → (l.length : Int) * s.width = (szs l : Int) := by
          intro l
          induction l with
          | nil => intro _; simp [szs]
          | cons a l ih => intro hl; rw [zek, List.length_cons, Int.natCast_add, Int.natCast_add, ← ih fun r hr => hl r (by simp [hr]), hl a (by simp), Int.add_mul]; omega
        exact this _ hk.size
      rw [eqb5_3]
      simp (disch := omega) only [push_cast, hz]
      congr 3
      omega, by
      show a + (formM (nth K0 s.things i).thing).size = _
      rw [hI, ← List.map_take, ← List.map_take, zba K0 hi, List.map_append, List.sum_append]; simp⟩) (fun a hI => by
      show Lqb5 _ _ = _
      rw [eqb5_3]
      simp (disch := omega) only [push_cast]
      rw [hI, List.take_of_length_le (by simp)]; rfl) 0 0 (Nat.zero_le _) rfl
  exact this
theorem zou {s : State} (hs : SrtK s.things) (hn : s.things.length ≤ 1000000) (r : Round) (x : Bs) (h1 : r.queue.length ≤ 1099511627775) (h2 : r.marked.length ≤ 1099511627776) : Lqcq none (encSt s ++ encR r ++ [.s x]) = some (encRo (zch s r x)) := by
  show Lqcq none [.i s.width, .i s.now, .i s.given, .i s.births, .l (encK s.things), .l (encP s.pins), .l (encL s.leases), .i r.phase, .l (encS r.queue), .l (encS r.marked), .i r.top, .i r.at_, .i r.rounds, .s x] = _
  have hcr := zk9 r (by omega) h2
  have hcr' : Lqb9 none [.i r.phase, .l (encS r.queue), .l (encS r.marked), .i r.top, .i r.at_, .i r.rounds] = some [.i r.phase, .i r.top, .i r.at_, .i r.rounds, .l (encS r.queue), .l (encS r.marked)] := hcr
  have hf := zbi (T := s.things) (x := x)
  rw [eqcq_i, mostE]
  unfold zch
  simp (disch := omega) only [push_cast, hcr', zcn _ _ _ _ s.things _ _ x hs hn]
  by_cases c2 : r.phase = 0
  · rw [if_neg fun h => h.2.1 c2]; simp (disch := omega) only [push_cast]; rfl
  by_cases c1 : hasT s.things x
  rotate_left; · rw [if_neg fun h => c1 h.1]; have := hf.2 c1; simp (disch := omega) only [push_cast]; rfl
  have c1' : ¬ findT s.things x < 0 := fun h => hf.1 h c1
  by_cases c3 : x ∈ r.marked
  · rw [if_neg fun h => h.2.2.1 c3]; simp (disch := omega) only [push_cast, zr r.marked x (by omega), decide_eq_true c3]; rfl
  by_cases c4 : r.queue.length < 23200
  · rw [if_pos ⟨c1, c2, c3, c4⟩]; simp (disch := omega) only [push_cast, zr r.marked x (by omega), decide_eq_false c3]
    rw [zcd, zu]; rfl
  · rw [if_neg fun h => c4 h.2.2.2]; simp (disch := omega) only [push_cast, zr r.marked x (by omega), decide_eq_false c3]; rfl
noncomputable def doS (v : Vault) (e : Entry) : Did := doE v e (decide (zdo e (chg v.st e) ≠ E0))
theorem do_25 (x : Bs) (w lim : Int) (s : State) (r : Round) (sum : Bs) (lease : Int) (sf ls : List Bs) (hs : SrtK s.things) (hn : s.things.length ≤ 1000000) (h1 : r.queue.length ≤ 1099511627775) (h2 : r.marked.length ≤ 1099511627776)
    (i1 i2 i3 i4 i5 : Int) (l1 l2 l3 : Rw) (s2 s3 : Bs) :
    Lqk (some 25) [.s x, .i 0, .i 0, .i 0, .i 0, .i 0, .i 0, .i 0, .i 0, .i 0, .i 0, .i 0, .s E0, .i 0, .s E0, .s E0, .i i1, .i i2, .i i3, .i i4, .i i5, .l l1, .l l2, .s sum, .i lease, .s s2, .s s3, .i w, .i lim, .i s.width, .i s.now, .i s.given, .i s.births, .i r.phase, .i r.top, .i r.at_, .i r.rounds, .l l3, .l (encS sf), .l (encS ls), .l (encK s.things), .l (encP s.pins), .l (encL s.leases), .l (encS r.queue), .l (encS r.marked), .l [], .l [], .l [], .l [], .l [], .l [], .l []] =
      some (zn ⟨0, ⟨w, lim, sf, ls, s, if decide (x ≠ E0) = true then zch s r x else r⟩, sum, lease, E0, E0⟩) := by
  rw [eqk_25]
  have := zou hs hn r x h1 h2
  have h' : Lqcq none [.i s.width, .i s.now, .i s.given, .i s.births, .l (encK s.things), .l (encP s.pins), .l (encL s.leases), .i r.phase, .l (encS r.queue), .l (encS r.marked), .i r.top, .i r.at_, .i r.rounds, .s x] = _ := this
  rw [h']
  by_cases hx : x = E0
  · rw [if_neg (by simp [hx])]; simp (disch := omega) only [push_cast]; rfl
  · rw [if_pos (by simp [hx])]; unfold encRo; simp (disch := omega) only [push_cast]; rfl
theorem zdw {v : Vault} (h : SmallV v) (e : Entry) (hn : e.name.size ≤ 4611686018427387904) : Lqk none (encV v ++ encE e) = some (zn (doS v e)) := by
  show Lqk none [.i v.width, .i v.limit, .l (encS v.safe), .l (encS v.loose), .i v.st.width, .i v.st.now, .i v.st.given, .i v.st.births, .l (encK v.st.things), .l (encP v.st.pins), .l (encL v.st.leases), .i v.rd.phase, .l (encS v.rd.queue), .l (encS v.rd.marked), .i v.rd.top, .i v.rd.at_, .i v.rd.rounds, .i e.kind, .s e.sum, .s e.name, .i e.number, .s e.thing.text, .l (encS e.thing.refs)] = _
  have hvv := zfa h
  unfold encV at hvv
  rw [eqk_i, hvv]
  unfold doS doE
  by_cases V : VV v
  rotate_left
  · rw [if_pos V, decide_eq_false V]; simp (disch := omega) only [push_cast]; rfl
  have hcp := zel V
  unfold encV at hcp
  rw [if_neg (not_not_intro V), decide_eq_true V, hcp]
  have hen := zey e v.width hn
  rw [show Lqn none [.i e.kind, .s e.sum, .s e.name, .i e.number, .s e.thing.text, .l (encS e.thing.refs), .i v.width] = _ from hen]
  by_cases he : zh e v.width = true
  rotate_left
  · rw [if_pos he]
    have : zh e v.width = false := by simpa using he
    simp (disch := omega) only [push_cast, this]; rfl
  rw [if_neg (not_not_intro he)]
  have Vs := V.vs
  have he' : zh e v.st.width = true := by rw [Vs.2]; exact he
  have hch := zgl Vs.1 he'
  have hch' : Lqb8 none [.i v.st.width, .i v.st.now, .i v.st.given, .i v.st.births, .l (encK v.st.things), .l (encP v.st.pins), .i e.kind, .s e.sum, .s e.name, .i e.number, .s e.thing.text, .l (encS e.thing.refs), .l (encL v.st.leases)] = _ := hch
  have hfe := zf3 e v.width hn
  have hfe' : Lqbi none [.i e.kind, .s e.sum, .s e.name, .i e.number, .s e.thing.text, .l (encS e.thing.refs), .i v.width] = _ := hfe
  rw [if_pos he] at hfe'
  have hq := h.q; have hm := h.m
  have hln := V.log.n
  have n1 := Vs.1.nT; have n2 := Vs.1.nP; have n3 := Vs.1.nL
  have hc4 := zce v.st.width v.st.now v.st.given v.st.births v.st.things (encP v.st.pins) (encL v.st.leases) (by omega) (zcg Vs.1) (by rw [zbw]; omega) (by rw [zb8]; omega)
  simp only [vI, vL, List.cons_append, List.nil_append]
  by_cases hcode : (chg v.st e).code = 0
  rotate_left
  · rw [if_pos hcode]
    simp only [zo] at hch'
    rw [if_neg hcode] at hch'
    simp (disch := omega) only [push_cast, he, hc4, hch', decide_eq_false hcode]
    rfl
  rw [if_neg (not_not_intro hcode)]
  simp only [zo] at hch'
  rw [if_pos hcode] at hch'
  have Vc := zcm Vs.1 he' hcode
  have hrm := zqk Vc
  unfold encSt at hrm
  have hqn := V.rd.nQ
  have hmn := V.rd.nM
  have m1 := Vc.nT; have m2 := Vc.nP; have m3 := Vc.nL
  have hc5 := zce (chg v.st e).st.width (chg v.st e).st.now (chg v.st e).st.given (chg v.st e).st.births (chg v.st e).st.things (encP (chg v.st e).st.pins) (encL (chg v.st e).st.leases) (by omega) (zcg Vc) (by rw [zbw]; omega) (by rw [zb8]; omega)
  by_cases h8 : e.kind = 1 ∧ v.limit < (roomM (chg v.st e).st : Int)
  · rw [if_pos h8]
    have h81 := h8.1; have h82 := h8.2
    simp (disch := omega) only [push_cast, he, hc4, hch', hrm]
    rfl
  rw [if_neg h8]
  by_cases h9 : v.safe.length + v.loose.length = 4000
  · rw [if_pos h9]
    by_cases hk : e.kind = 1
    · have : ¬ v.limit < (roomM (chg v.st e).st : Int) := fun h => h8 ⟨hk, h⟩
      simp (disch := omega) only [push_cast, he, hc4, hch', hrm]; rfl
    · simp (disch := omega) only [push_cast, he, hc4, hch']; rfl
  rw [if_neg h9]
  by_cases hk : e.kind = 1
  · have hlim : ¬ v.limit < (roomM (chg v.st e).st : Int) := fun h => h8 ⟨hk, h⟩
    simp (disch := omega) only [push_cast, he, hc4, hch', hrm, hfe', hc5, mostE]
    rw [zcd, zu, do_25 _ _ _ (chg v.st e).st v.rd _ _ _ _ Vc.srtT (by omega) (by omega) (by omega)]
    unfold zdo; rw [if_pos hk]
  · simp (disch := omega) only [push_cast, he, hc4, hch', hfe', hc5, mostE]
    rw [zcd, zu, do_25 _ _ _ (chg v.st e).st v.rd _ _ _ _ Vc.srtT (by omega) (by omega) (by omega)]
    unfold zdo; rw [if_neg hk]
end KV
end
section
namespace KV
open Go Go.Eng
open Classical
def eHold (name sum : Bs) : Entry := ⟨2, sum, name, 0, ⟨E0, []⟩⟩
theorem zr0 {v : Vault} (h : SmallV v) (name sum : Bs) (hn : name.size ≤ 4611686018427387904) : Lqcs none (encV v ++ [.s name, .s sum]) = some (zn (doS v (eHold name sum))) := by
  have := zdw h (eHold name sum) hn
  show Lqcs none [.i v.width, .i v.limit, .l (encS v.safe), .l (encS v.loose), .i v.st.width, .i v.st.now, .i v.st.given, .i v.st.births, .l (encK v.st.things), .l (encP v.st.pins), .l (encL v.st.leases), .i v.rd.phase, .l (encS v.rd.queue), .l (encS v.rd.marked), .i v.rd.top, .i v.rd.at_, .i v.rd.rounds, .s name, .s sum] = _
  rw [eqcs_i, show Lqk none [.i v.width, .i v.limit, .l (encS v.safe), .l (encS v.loose), .i v.st.width, .i v.st.now, .i v.st.given, .i v.st.births, .l (encK v.st.things), .l (encP v.st.pins), .l (encL v.st.leases), .i v.rd.phase, .l (encS v.rd.queue), .l (encS v.rd.marked), .i v.rd.top, .i v.rd.at_, .i v.rd.rounds, .i 2, .s sum, .s name, .i 0, .s E0, .l []] = _ from this, Option.bind_some, zd0]
def zft (name : Bs) : Entry := ⟨3, E0, name, 0, ⟨E0, []⟩⟩
theorem zr9 {v : Vault} (h : SmallV v) (name : Bs) (hn : name.size ≤ 4611686018427387904) : Lqct none (encV v ++ [.s name]) = some (zn (doS v (zft name))) := by
  have := zdw h (zft name) hn
  show Lqct none [.i v.width, .i v.limit, .l (encS v.safe), .l (encS v.loose), .i v.st.width, .i v.st.now, .i v.st.given, .i v.st.births, .l (encK v.st.things), .l (encP v.st.pins), .l (encL v.st.leases), .i v.rd.phase, .l (encS v.rd.queue), .l (encS v.rd.marked), .i v.rd.top, .i v.rd.at_, .i v.rd.rounds, .s name] = _
  rw [eqct_i, show Lqk none [.i v.width, .i v.limit, .l (encS v.safe), .l (encS v.loose), .i v.st.width, .i v.st.now, .i v.st.given, .i v.st.births, .l (encK v.st.things), .l (encP v.st.pins), .l (encL v.st.leases), .i v.rd.phase, .l (encS v.rd.queue), .l (encS v.rd.marked), .i v.rd.top, .i v.rd.at_, .i v.rd.rounds, .i 3, .s E0, .s name, .i 0, .s E0, .l []] = _ from this, Option.bind_some, zd0]
def zfk (sum : Bs) (hold : Int) : Entry := ⟨4, sum, E0, hold, ⟨E0, []⟩⟩
theorem zp6 {v : Vault} (h : SmallV v) (sum : Bs) (hold : Int)  : Lqcu none (encV v ++ [.s sum, .i hold]) = some (zn (doS v (zfk sum hold))) := by
  have := zdw h (zfk sum hold) (by show (0 : Nat) ≤ 4611686018427387904; omega)
  show Lqcu none [.i v.width, .i v.limit, .l (encS v.safe), .l (encS v.loose), .i v.st.width, .i v.st.now, .i v.st.given, .i v.st.births, .l (encK v.st.things), .l (encP v.st.pins), .l (encL v.st.leases), .i v.rd.phase, .l (encS v.rd.queue), .l (encS v.rd.marked), .i v.rd.top, .i v.rd.at_, .i v.rd.rounds, .s sum, .i hold] = _
  rw [eqcu_i, show Lqk none [.i v.width, .i v.limit, .l (encS v.safe), .l (encS v.loose), .i v.st.width, .i v.st.now, .i v.st.given, .i v.st.births, .l (encK v.st.things), .l (encP v.st.pins), .l (encL v.st.leases), .i v.rd.phase, .l (encS v.rd.queue), .l (encS v.rd.marked), .i v.rd.top, .i v.rd.at_, .i v.rd.rounds, .i 4, .s sum, .s E0, .i hold, .s E0, .l []] = _ from this, Option.bind_some, zd0]
def zeu (n : Int) : Entry := ⟨5, E0, E0, n, ⟨E0, []⟩⟩
theorem zrp {v : Vault} (h : SmallV v) (n : Int)  : Lqcv none (encV v ++ [.i n]) = some (zn (doS v (zeu n))) := by
  have := zdw h (zeu n) (by show (0 : Nat) ≤ 4611686018427387904; omega)
  show Lqcv none [.i v.width, .i v.limit, .l (encS v.safe), .l (encS v.loose), .i v.st.width, .i v.st.now, .i v.st.given, .i v.st.births, .l (encK v.st.things), .l (encP v.st.pins), .l (encL v.st.leases), .i v.rd.phase, .l (encS v.rd.queue), .l (encS v.rd.marked), .i v.rd.top, .i v.rd.at_, .i v.rd.rounds, .i n] = _
  rw [eqcv_i, show Lqk none [.i v.width, .i v.limit, .l (encS v.safe), .l (encS v.loose), .i v.st.width, .i v.st.now, .i v.st.given, .i v.st.births, .l (encK v.st.things), .l (encP v.st.pins), .l (encL v.st.leases), .i v.rd.phase, .l (encS v.rd.queue), .l (encS v.rd.marked), .i v.rd.top, .i v.rd.at_, .i v.rd.rounds, .i 5, .s E0, .s E0, .i n, .s E0, .l []] = _ from this, Option.bind_some, zd0]
def eWait (n : Int) : Entry := ⟨6, E0, E0, n, ⟨E0, []⟩⟩
theorem zmn {v : Vault} (h : SmallV v) (n : Int)  : Lqcw none (encV v ++ [.i n]) = some (zn (doS v (eWait n))) := by
  have := zdw h (eWait n) (by show (0 : Nat) ≤ 4611686018427387904; omega)
  show Lqcw none [.i v.width, .i v.limit, .l (encS v.safe), .l (encS v.loose), .i v.st.width, .i v.st.now, .i v.st.given, .i v.st.births, .l (encK v.st.things), .l (encP v.st.pins), .l (encL v.st.leases), .i v.rd.phase, .l (encS v.rd.queue), .l (encS v.rd.marked), .i v.rd.top, .i v.rd.at_, .i v.rd.rounds, .i n] = _
  rw [eqcw_i, show Lqk none [.i v.width, .i v.limit, .l (encS v.safe), .l (encS v.loose), .i v.st.width, .i v.st.now, .i v.st.given, .i v.st.births, .l (encK v.st.things), .l (encP v.st.pins), .l (encL v.st.leases), .i v.rd.phase, .l (encS v.rd.queue), .l (encS v.rd.marked), .i v.rd.top, .i v.rd.at_, .i v.rd.rounds, .i 6, .s E0, .s E0, .i n, .s E0, .l []] = _ from this, Option.bind_some, zd0]
theorem zth {v : Vault} (h : SmallV v) (t : Thing) (hold : Int) (ht : t.refs.length ≤ 1099511627776) : Lqcr none (encV v ++ [.s t.text, .l (encS t.refs), .i hold]) = some (zn (doS v (ePut t hold))) := by
  have := zdw h (ePut t hold) (by show (0 : Nat) ≤ 4611686018427387904; omega)
  show Lqcr none [.i v.width, .i v.limit, .l (encS v.safe), .l (encS v.loose), .i v.st.width, .i v.st.now, .i v.st.given, .i v.st.births, .l (encK v.st.things), .l (encP v.st.pins), .l (encL v.st.leases), .i v.rd.phase, .l (encS v.rd.queue), .l (encS v.rd.marked), .i v.rd.top, .i v.rd.at_, .i v.rd.rounds, .s t.text, .l (encS t.refs), .i hold] = _
  rw [eqcr_i, zfp _ _ (by rw [zbk]; exact ht)]
  simp (disch := omega) only [push_cast]
  rw [show Lqk none [.i v.width, .i v.limit, .l (encS v.safe), .l (encS v.loose), .i v.st.width, .i v.st.now, .i v.st.given, .i v.st.births, .l (encK v.st.things), .l (encP v.st.pins), .l (encL v.st.leases), .i v.rd.phase, .l (encS v.rd.queue), .l (encS v.rd.marked), .i v.rd.top, .i v.rd.at_, .i v.rd.rounds, .i 1, .s E0, .s E0, .i hold, .s t.text, .l (encS t.refs)] = _ from this, Option.bind_some, zd0]
theorem zsn {e : Entry} {w : Int} (h : zh e w = true) : if uS e.kind = true then (e.sum.size : Int) = w else e.sum = E0 := by
  unfold zh at h
  simp only [Bool.and_eq_true] at h
  have := h.2.2.1
  unfold sumB at this
  split at this
  · rename_i hu; rw [if_pos hu]; exact of_decide_eq_true this
  · rename_i hu; rw [if_neg hu]; exact of_decide_eq_true this
theorem zj6 {s : State} {e : Entry} (h : (putS s e).code = 0) : (putS s e).sum = sumM (formM e.thing) s.width := by
  unfold putS fail at h ⊢
  repeat' split
  all_goals first | rfl | (rename_i h1; simp_all; done) | simp_all
theorem ziz (w lim : Int) (a b : List Bs) (ha : Small a) (hb : Small b) (hn : a.length + b.length ≤ 1099511627776) : Lqce none [.i w, .i lim, .l (encS a), .l (encS b)] = some (encO (openM w lim a b)) := by
  rw [eqce_i]
  unfold openM
  by_cases h1 : zj w = true
  rotate_left; · have : zj w = false := by simpa using h1
                 rw [if_neg fun h => h1 h.1]; simp (disch := omega) only [push_cast, zt, this]; rfl
  by_cases h2 : 0 ≤ lim ∧ lim ≤ 1000000
  rotate_left; · rw [if_neg fun h => h2 h.2.1]; simp (disch := omega) only [push_cast, zt, h1, zl]; rfl
  by_cases h3 : LogOk a b
  rotate_left; · rw [if_neg fun h => h3 h.2.2]; simp (disch := omega) only [push_cast, zt, h1, zl, zb5 _ _ ha hb]; rfl
  have hl := h3.n
  rw [if_pos ⟨h1, h2, h3⟩]
  simp (disch := omega) only [push_cast, zt, h1, zl, zb5 _ _ ha hb, zkn _ _ hn, zl1 _ _ (ha.app hb hn), zli _ _ ha hb]
  rw [if_pos ⟨trivial, by rw [List.length_append]; omega⟩]
  cases runL w (empty w) (a ++ b) 0 with
  | inl s => simp only [zdt]; simp (disch := omega) only [push_cast]; rfl
  | inr n => simp only [zdt]; simp (disch := omega) only [push_cast]; rfl
theorem zm7 (a b : List Bs) (k : Int) (ha : Small a) (hb : Small b) : Lqc7 none [.l (encS a), .l (encS b), .i k] = some [.l [], .l (encS (if LogOk a b then a ++ b.take k.toNat else []))] := by
  have h1 := ha.1; have h2 := hb.1
  rw [eqc7_i, mostE]
  by_cases h : LogOk a b
  rotate_left; · rw [if_neg h]; simp (disch := omega) only [push_cast, zb5 a b ha hb, decide_eq_false h]; rfl
  have hl := h.n
  rw [if_pos h]
  have hsub : ∀ n, Eng.sub (encS b) 0 n = encS (b.take n) := fun n => by rw [zdh]; simp
  have hlen : ∀ n, (b.take n).length ≤ b.length := fun n => by rw [List.length_take]; omega
  have l0 := hlen 0; have l1 := hlen b.length; have l2 := hlen k.toNat
  by_cases c1 : k < 0
  · have : k.toNat = 0 := by omega
    rw [this]
    simp (disch := omega) only [push_cast, zb5 a b ha hb, decide_eq_true h, hsub, List.nil_append]
    rw [zu]
  by_cases c2 : (b.length : Int) < k
  · have : b.take k.toNat = b.take b.length := by rw [List.take_length, List.take_of_length_le (by omega)]
    rw [this]
    simp (disch := omega) only [push_cast, zb5 a b ha hb, decide_eq_true h, hsub, List.nil_append]
    rw [zu]
  · simp (disch := omega) only [push_cast, zb5 a b ha hb, decide_eq_true h, hsub, List.nil_append]
    rw [zu]
noncomputable def zct (v : Vault) : Vault := if VV v then { v with safe := v.safe ++ v.loose, loose := [] } else V0
noncomputable def loseM (v : Vault) (k : Int) : Vault := if VV v then (match openM v.width v.limit (v.safe ++ v.loose.take k.toNat) [] with | .inl x => x | .inr _ => V0) else V0
def encLo (v : Vault) : Lv := [.i v.width, .i v.limit, .i v.st.width, .i v.st.now, .i v.st.given, .i v.st.births, .i v.rd.phase, .l (encS v.rd.queue), .l (encS v.rd.marked), .i v.rd.top, .i v.rd.at_, .i v.rd.rounds, .l (encS v.safe), .l (encS v.loose), .l (encK v.st.things), .l (encP v.st.pins), .l (encL v.st.leases)]
theorem zqh {v : Vault} (V : VV v) : VV (zct v) := by
  unfold zct
  rw [if_pos V]
  refine ⟨V.wd, V.lim, ⟨fun x hx => ?_, (fun x hx => nomatch hx), ?_⟩, ?_, V.rd⟩
  · rcases List.mem_append.1 hx with h | h
    · exact V.log.sa x h
    · exact V.log.sb x h
  · have := V.log.n
    show (v.safe ++ v.loose).length + 0 ≤ 4000
    rw [List.length_append]; omega
  · show runL v.width (empty v.width) ((v.safe ++ v.loose) ++ []) 0 = .inl v.st
    rw [List.append_nil]; exact V.run
theorem zl9 {v : Vault} (V : VV v) (k : Int) : ∃ s, runL v.width (empty v.width) (v.safe ++ v.loose.take k.toNat) 0 = .inl s ∧ openM v.width v.limit (v.safe ++ v.loose.take k.toNat) [] = .inl ⟨v.width, v.limit, v.safe ++ v.loose.take k.toNat, [], s, R0⟩ ∧ VV ⟨v.width, v.limit, v.safe ++ v.loose.take k.toNat, [], s, R0⟩ := by
  have hl : LogOk (v.safe ++ v.loose.take k.toNat) [] := by
    refine ⟨fun x hx => ?_, (fun x hx => nomatch hx), ?_⟩
    · rcases List.mem_append.1 hx with h | h
      · exact V.log.sa x h
      · exact V.log.sb x (List.mem_of_mem_take h)
    · have := V.log.n
      show (v.safe ++ v.loose.take k.toNat).length + 0 ≤ 4000
      rw [List.length_append, List.length_take]; omega
  obtain ⟨s, hs⟩ : ∃ s, runL v.width (empty v.width) (v.safe ++ v.loose.take k.toNat) 0 = .inl s := by
    have := V.run
    rw [← List.take_append_drop k.toNat v.loose, ← List.append_assoc, zfq] at this
    cases hr : runL v.width (empty v.width) (v.safe ++ v.loose.take k.toNat) 0 with
    | inl s => exact ⟨s, rfl⟩
    | inr n => rw [hr] at this; cases this
  refine ⟨s, hs, ?_, ?_⟩
  · unfold openM; rw [if_pos ⟨V.wd, V.lim, hl⟩, List.append_nil, hs]
  · have W := zeg _ _ _ _ (zei (zw.1 V.wd)) rfl hs
    have hb := W.1.births
    exact ⟨V.wd, V.lim, hl, by rw [List.append_nil]; exact hs, (show RoundOk s.width s.births R0 from ⟨⟨Int.le_refl _, (by show (0 : Int) ≤ 2; omega)⟩, ⟨Int.le_refl _, (by show (0 : Int) ≤ 1000000000; omega)⟩, Nat.zero_le _, Nat.zero_le _, (fun x hx => nomatch hx), List.nodup_nil, (fun x hx => nomatch hx), fun _ => ⟨rfl, rfl, rfl, rfl⟩, fun h => absurd rfl h⟩)⟩
theorem zmq {v : Vault} (V : VV v) (k : Int) : VV (loseM v k) := by
  obtain ⟨s, h1, h2, h3⟩ := zl9 V k
  unfold loseM; rw [if_pos V, h2]; exact h3
theorem zr8 (a b : List Bs) (ha : Small a) (hb : Small b) : Lqc5 none [.l (encS a), .l (encS b)] = some [.l (encS (if LogOk a b then a ++ b else [])), .l []] := by
  have h1 := ha.1; have h2 := hb.1
  rw [eqc5_i, mostE]
  by_cases h : LogOk a b
  rotate_left; · rw [if_neg h]; simp (disch := omega) only [push_cast, zb5 a b ha hb, decide_eq_false h]; rfl
  have hl := h.n
  rw [if_pos h]
  simp (disch := omega) only [push_cast, zb5 a b ha hb, decide_eq_true h, List.nil_append]
  rw [zu]
theorem zpm {v : Vault} (h : SmallV v) (k : Int) : Lqcx none (encV v ++ [.i k]) = some (encLo (loseM v k)) := by
  have hvv := zfa h
  unfold encV at hvv
  show Lqcx none [.i v.width, .i v.limit, .l (encS v.safe), .l (encS v.loose), .i v.st.width, .i v.st.now, .i v.st.given, .i v.st.births, .l (encK v.st.things), .l (encP v.st.pins), .l (encL v.st.leases), .i v.rd.phase, .l (encS v.rd.queue), .l (encS v.rd.marked), .i v.rd.top, .i v.rd.at_, .i v.rd.rounds, .i k] = _
  rw [eqcx_i, hvv]
  unfold loseM
  by_cases V : VV v
  rotate_left; · rw [if_neg V, decide_eq_false V]; rfl
  rw [if_pos V, decide_eq_true V]
  obtain ⟨s, h1, h2, h3⟩ := zl9 V k
  have hs := h3.small
  simp (disch := omega) only [push_cast, zm7 v.safe v.loose k h.a h.b]
  rw [if_pos V.log, show ([] : Rw) = encS [] from rfl, ziz _ _ _ _ hs.a hs.b hs.ab, h2]
  rfl
theorem zrb {v : Vault} (h : SmallV v) : Lqc6 none (encV v) = some (vI (zct v) ++ vL (zct v)) := by
  have hvv := zfa h
  unfold encV at hvv ⊢
  rw [eqc6_i, hvv]
  unfold zct
  by_cases V : VV v
  rotate_left; · rw [if_neg V, decide_eq_false V]; rfl
  rw [if_pos V, decide_eq_true V]
  have hcp := zel V
  unfold encV at hcp
  rw [hcp]
  simp only [vI, vL, List.cons_append, List.nil_append]
  have hl := V.log.n
  simp (disch := omega) only [push_cast, zr8 v.safe v.loose h.a h.b]
  rw [if_pos V.log]
  rfl
end KV
end
section
namespace KV
open Go Go.Eng
open Classical
section
variable {s : State} {x : Bs} (V : VS s)
include V
theorem zon (hr : ¬ isRef s.things x) : Lq2 (some 7) [.s x, .i 0, .i s.width, .i s.now, .i s.given, .i s.births, .l (encK s.things), .l (encP s.pins), .l (encL s.leases), .i 0, .i 0, .i 0, .i 0, .i 0, .s E0, .i 0, .s E0, .s E0, .l (encK []), .l [], .l [], .l []] =
    some [.i 0, .i s.width, .i s.now, .i s.given, .i s.births, .l (encP s.pins), .l (encL s.leases), .s E0, .i 0, .s E0, .s E0, .l (encK (delK x s.things))] := by
  have h1 := V.nT
  refine zep K0 (l := s.things) (p := fun k => !decide (k.sum = x)) (f := fun i a => Lq2 (some 7) [.s x, .i (i : Int), .i s.width, .i s.now, .i s.given, .i s.births, .l (encK s.things), .l (encP s.pins), .l (encL s.leases), .i 0, .i 0, .i 0, .i 0, .i 0, .s E0, .i 0, .s E0, .s E0, .l (encK a), .l [], .l [], .l []]) (fun i a hi ha => ?_) ?_
  · show Lq2 _ _ = Lq2 _ _
    have hm := zi (d := K0) hi
    have hrl := zcg V _ hm
    have hn : ¬ x ∈ (nth K0 s.things i).thing.refs := fun h => hr ⟨_, hm, h⟩
    rw [eq2_7, mostE]
    by_cases hc : (nth K0 s.things i).sum = x
    · rw [if_neg (by simp [hc])]; simp (disch := omega) only [push_cast, zr _ x (show (nth K0 s.things i).thing.refs.length ≤ 4611686018427387904 by omega), decide_eq_false hn]
    · rw [if_pos (by simp [hc]), ← z8]; simp (disch := omega) only [push_cast, zr _ x (show (nth K0 s.things i).thing.refs.length ≤ 4611686018427387904 by omega), decide_eq_false hn] <;> rfl
  · show Lq2 _ _ = _
    rw [eq2_7]; simp (disch := omega) only [push_cast] <;> rfl
theorem zo9 (hr : isRef s.things x) : ∀ (i : Nat) (a : List Kept), i ≤ s.things.length → (a.length ≤ i ∧ ∃ j, i ≤ j ∧ j < s.things.length ∧ x ∈ (nth K0 s.things j).thing.refs) → Lq2 (some 7) [.s x, .i (i : Int), .i s.width, .i s.now, .i s.given, .i s.births, .l (encK s.things), .l (encP s.pins), .l (encL s.leases), .i 0, .i 0, .i 0, .i 0, .i 0, .s E0, .i 0, .s E0, .s E0, .l (encK a), .l [], .l [], .l []] =
    some [.i 6, .i 0, .i 0, .i 0, .i 0, .l [], .l [], .s E0, .i 0, .s E0, .s E0, .l []] := by
  have h1 := V.nT
  intro i a hi hI
  refine zhf (f := fun i a => Lq2 (some 7) [.s x, .i (i : Int), .i s.width, .i s.now, .i s.given, .i s.births, .l (encK s.things), .l (encP s.pins), .l (encL s.leases), .i 0, .i 0, .i 0, .i 0, .i 0, .s E0, .i 0, .s E0, .s E0, .l (encK a), .l [], .l [], .l []]) (n := s.things.length) (I := fun i a => a.length ≤ i ∧ ∃ j, i ≤ j ∧ j < s.things.length ∧ x ∈ (nth K0 s.things j).thing.refs)
    (T := fun r => r = some [.i 6, .i 0, .i 0, .i 0, .i 0, .l [], .l [], .s E0, .i 0, .s E0, .s E0, .l []]) (fun i a hi hI => ?_) (fun a hI => ?_) i a hi hI
  · obtain ⟨ha, j, hj1, hj2, hj3⟩ := hI
    have hm := zi (d := K0) hi
    have hrl := zcg V _ hm
    by_cases hn : x ∈ (nth K0 s.things i).thing.refs
    · right
      show Lq2 _ _ = _
      rw [eq2_7]
      simp (disch := omega) only [push_cast, zr _ x (show (nth K0 s.things i).thing.refs.length ≤ 4611686018427387904 by omega), decide_eq_true hn]
    · left
      have hj : i + 1 ≤ j := by
        rcases Nat.eq_or_lt_of_le hj1 with h | h
        · rw [h] at hn; exact absurd hj3 hn
        · exact h
      by_cases hc : (nth K0 s.things i).sum = x
      · refine ⟨a, ?_, by omega, j, hj, hj2, hj3⟩
        show Lq2 _ _ = Lq2 _ _
        rw [eq2_7]
        simp (disch := omega) only [push_cast, zr _ x (show (nth K0 s.things i).thing.refs.length ≤ 4611686018427387904 by omega), decide_eq_false hn]
      · refine ⟨a ++ [nth K0 s.things i], ?_, by simp; omega, j, hj, hj2, hj3⟩
        show Lq2 _ _ = Lq2 _ _
        rw [eq2_7, mostE, ← z8]
        simp (disch := omega) only [push_cast, zr _ x (show (nth K0 s.things i).thing.refs.length ≤ 4611686018427387904 by omega), decide_eq_false hn] <;> rfl
  · obtain ⟨_, j, h1, h2, _⟩ := hI; omega
theorem zl4 (hT : hasT s.things x) : Lq2 none [.i s.width, .i s.now, .i s.given, .i s.births, .l (encK s.things), .l (encP s.pins), .l (encL s.leases), .s x] =
    some (if held s x ∨ isRef s.things x then [.i 6, .i 0, .i 0, .i 0, .i 0, .l [], .l [], .s E0, .i 0, .s E0, .s E0, .l []] else [.i 0, .i s.width, .i s.now, .i s.given, .i s.births, .l (encP s.pins), .l (encL s.leases), .s E0, .i 0, .s E0, .s E0, .l (encK (delK x s.things))]) := by
  have h2 := V.nP; have h3 := V.nL
  have hh := ziq s x (by omega) (by omega)
  unfold encSt at hh
  rw [eq2_i]
  simp (disch := omega) only [push_cast, zdr V, show Lqs none [.i s.width, .i s.now, .i s.given, .i s.births, .l (encK s.things), .l (encP s.pins), .l (encL s.leases), .s x] = _ from hh]
  rw [decide_eq_false (show ¬ findT s.things x < 0 from fun h => zbi.1 h hT)]
  by_cases c1 : held s x
  · rw [if_pos (Or.inl c1), decide_eq_true c1]; simp (disch := omega) only [push_cast] <;> rfl
  · rw [decide_eq_false c1]
    by_cases c2 : isRef s.things x
    · rw [if_pos (Or.inr c2)]
      have := zo9 V c2 0 [] (Nat.zero_le _) ⟨Nat.le_refl _, by
        obtain ⟨k, hk1, hk2⟩ := c2
        obtain ⟨j, hj, rfl⟩ := zbb K0 hk1
        exact ⟨j, Nat.zero_le _, hj, hk2⟩⟩
      simp (disch := omega) only [push_cast]
      rw [show Lq2 (some 7) [.s x, .i 0, .i s.width, .i s.now, .i s.given, .i s.births, .l (encK s.things), .l (encP s.pins), .l (encL s.leases), .i 0, .i 0, .i 0, .i 0, .i 0, .s E0, .i 0, .s E0, .s E0, .l [], .l [], .l [], .l []] = _ from this]
    · rw [if_neg (by rintro (h | h); exact c1 h; exact c2 h)]
      have := zon V c2
      simp (disch := omega) only [push_cast]
      rw [show Lq2 (some 7) [.s x, .i 0, .i s.width, .i s.now, .i s.given, .i s.births, .l (encK s.things), .l (encP s.pins), .l (encL s.leases), .i 0, .i 0, .i 0, .i 0, .i 0, .s E0, .i 0, .s E0, .s E0, .l [], .l [], .l [], .l []] = _ from this]
end
noncomputable def addU (l : List Bs) (x : Bs) : List Bs := if x ∈ l then l else l ++ [x]
theorem zp5 (l : List Bs) (x : Bs) : (addU l x).length ≤ l.length + 1 := by unfold addU; split <;> simp
theorem zec (l : List Bs) : ∀ a, (l.foldl addU a).length ≤ a.length + l.length := by
  induction l with
  | nil => intro a; simp
  | cons x l ih => intro a; rw [List.foldl_cons, List.length_cons]; have := ih (addU a x); have := zp5 a x; omega
theorem zrf {l : List Bs} {x y : Bs} : y ∈ addU l x ↔ y ∈ l ∨ y = x := by
  unfold addU
  split
  · rename_i h; exact ⟨.inl, fun h2 => h2.elim id fun e => by rw [e]; exact h⟩
  · simp
theorem zjc (l : List Bs) : ∀ a y, y ∈ l.foldl addU a ↔ y ∈ a ∨ y ∈ l := by
  induction l with
  | nil => intro a y; simp
  | cons x l ih => intro a y; rw [List.foldl_cons, ih, zrf, List.mem_cons, or_assoc]
theorem zmh (l : List Bs) (a : List Bs) (i : Nat) (h : i < l.length) : ((l.take (i + 1)).foldl addU a) = addU ((l.take i).foldl addU a) (nth .empty l i) := by
  rw [zba .empty h, List.foldl_append]; rfl
noncomputable def zb6 (s : State) : List Bs := (s.leases.map (·.sum)).foldl addU ((s.pins.map (·.sum)).foldl addU [])
theorem zni (P : List Pin) (i : Nat) (h : i < P.length) : nth .empty (P.map (·.sum)) i = (nth P0 P i).sum := by
  rw [zk _ _ _ (by rw [List.length_map]; exact h), zk _ _ _ h, List.getElem_map]
theorem zm2 (P : List Lease) (i : Nat) (h : i < P.length) : nth .empty (P.map (·.sum)) i = (nth L0 P i).sum := by
  rw [zk _ _ _ (by rw [List.length_map]; exact h), zk _ _ _ h, List.getElem_map]
theorem zmv (s : State) (h1 : s.pins.length ≤ 1000000) (h2 : s.leases.length ≤ 1000000) : Lq4 none (encSt s) = some [.l (encS (zb6 s))] := by
  unfold encSt
  have l2 : ∀ a : List Bs, a.length ≤ 1000000 → Lq4 (some 8) [.i 0, .i s.width, .i s.now, .i s.given, .i s.births, .l (encK s.things), .l (encP s.pins), .l (encL s.leases), .l (encS a)] = some [.l (encS ((s.leases.map (·.sum)).foldl addU a))] := by
    intro a0 ha0
    exact zbc (f := fun (i : Nat) (a : List Bs) => Lq4 (some 8) [.i (i : Int), .i s.width, .i s.now, .i s.given, .i s.births, .l (encK s.things), .l (encP s.pins), .l (encL s.leases), .l (encS a)]) (n := s.leases.length)
      (I := fun i a => a = ((s.leases.map (·.sum)).take i).foldl addU a0) (fun i a hi hI => ⟨addU a (nth L0 s.leases i).sum, by
        show Lq4 _ _ = Lq4 _ _
        have hl : a.length ≤ 1000000 + i := by rw [hI]; have := zec ((s.leases.map (·.sum)).take i) a0; rw [List.length_take] at this; omega
        rw [eq4_8, mostE]
        unfold addU
        by_cases hm : (nth L0 s.leases i).sum ∈ a
        · rw [if_pos hm]; simp (disch := omega) only [push_cast, zr a _ (show a.length ≤ 4611686018427387904 by omega), decide_eq_true hm] <;> rfl
        · rw [if_neg hm, ← zu]; simp (disch := omega) only [push_cast, zr a _ (show a.length ≤ 4611686018427387904 by omega), decide_eq_false hm] <;> rfl, by
        show addU a _ = _
        rw [zmh _ _ _ (by rw [List.length_map]; exact hi), hI, zm2 _ _ hi]⟩) (fun a hI => by
        show Lq4 _ _ = _
        rw [eq4_8]
        simp (disch := omega) only [push_cast]
        rw [hI, List.take_of_length_le (by rw [List.length_map]; exact Nat.le_refl _)]) 0 a0 (Nat.zero_le _) rfl
  rw [eq4_i]
  have l1 := zbc (f := fun (i : Nat) (a : List Bs) => Lq4 (some 3) [.i (i : Int), .i s.width, .i s.now, .i s.given, .i s.births, .l (encK s.things), .l (encP s.pins), .l (encL s.leases), .l (encS a)]) (n := s.pins.length) (T := some [.l (encS (zb6 s))])
      (I := fun i a => a = ((s.pins.map (·.sum)).take i).foldl addU []) (fun i a hi hI => ⟨addU a (nth P0 s.pins i).sum, by
        show Lq4 _ _ = Lq4 _ _
        have hl : a.length ≤ i := by rw [hI]; have := zec ((s.pins.map (·.sum)).take i) []; rw [List.length_take] at this; simp at this; omega
        rw [eq4_3, mostE]
        unfold addU
        by_cases hm : (nth P0 s.pins i).sum ∈ a
        · rw [if_pos hm]; simp (disch := omega) only [push_cast, zr a _ (show a.length ≤ 4611686018427387904 by omega), decide_eq_true hm] <;> rfl
        · rw [if_neg hm, ← zu]; simp (disch := omega) only [push_cast, zr a _ (show a.length ≤ 4611686018427387904 by omega), decide_eq_false hm] <;> rfl, by
        show addU a _ = _
        rw [zmh _ _ _ (by rw [List.length_map]; exact hi), hI, zni _ _ hi]⟩) (fun a hI => by
        show Lq4 _ _ = _
        have hl : a.length ≤ s.pins.length := by rw [hI]; have := zec ((s.pins.map (·.sum)).take s.pins.length) []; rw [List.length_take] at this; simp at this; omega
        rw [eq4_3]
        simp (disch := omega) only [push_cast]
        refine (l2 a (by omega)).trans ?_
        unfold zb6
        rw [hI, List.take_of_length_le (by rw [List.length_map]; exact Nat.le_refl _)]) 0 [] (Nat.zero_le _) rfl
  exact l1
noncomputable def bestI (T : List Kept) (a : Int) : Nat → Int
  | 0 => -1
  | i + 1 => if (nth K0 T i).born < a ∧ (bestI T a i < 0 ∨ (nth K0 T (bestI T a i).toNat).born < (nth K0 T i).born) then (i : Int) else bestI T a i
theorem zdz (T : List Kept) (a : Int) : ∀ i, -1 ≤ bestI T a i ∧ bestI T a i < i
  | 0 => by simp [bestI]
  | i + 1 => by
    have := zdz T a i
    simp only [bestI]
    split <;> omega
theorem zkp (T : List Kept) (a : Int) : ∀ i, (bestI T a i < 0 → ∀ j, j < i → ¬ (nth K0 T j).born < a) ∧ (0 ≤ bestI T a i → (nth K0 T (bestI T a i).toNat).born < a ∧ ∀ j, j < i → (nth K0 T j).born < a → (nth K0 T j).born ≤ (nth K0 T (bestI T a i).toNat).born)
  | 0 => by
    refine ⟨fun _ j hj => by omega, fun h => ?_⟩
    simp [bestI] at h
  | i + 1 => by
    obtain ⟨h1, h2⟩ := zkp T a i
    have h3 := zdz T a i
    simp only [bestI]
    split
    · rename_i hc
      refine ⟨fun h => by omega, fun _ => ?_⟩
      rw [zdl]
      refine ⟨hc.1, fun j hj hb => ?_⟩
      rcases Nat.lt_or_ge j i with hji | hji
      · rcases hc.2 with h4 | h4
        · exact absurd hb (h1 h4 j hji)
        · rcases (by omega : bestI T a i < 0 ∨ 0 ≤ bestI T a i) with h5 | h5
          · exact absurd hb (h1 h5 j hji)
          · have := (h2 h5).2 j hji hb; omega
      · obtain rfl : j = i := by omega
        exact Int.le_refl _
    · rename_i hc
      refine ⟨fun h j hj hb => ?_, fun h => ⟨(h2 h).1, fun j hj hb => ?_⟩⟩
      · rcases Nat.lt_or_ge j i with hji | hji
        · exact h1 h j hji hb
        · obtain rfl : j = i := by omega
          exact hc ⟨hb, .inl h⟩
      · rcases Nat.lt_or_ge j i with hji | hji
        · exact (h2 h).2 j hji hb
        · obtain rfl : j = i := by omega
          rcases (by omega : (nth K0 T (bestI T a j).toNat).born < (nth K0 T j).born ∨ (nth K0 T j).born ≤ (nth K0 T (bestI T a j).toNat).born) with h6 | h6
          · exact absurd ⟨hb, .inr h6⟩ hc
          · omega
noncomputable def bestT (T : List Kept) (a : Int) : Int := bestI T a T.length
theorem zto (s : State) (a : Int) (hn : s.things.length ≤ 1000000) : Lqbb none (encSt s ++ [.i a]) = some [.i (bestT s.things a)] := by
  show Lqbb none [.i s.width, .i s.now, .i s.given, .i s.births, .l (encK s.things), .l (encP s.pins), .l (encL s.leases), .i a] = _
  rw [eqbb_i]
  have := zbc (f := fun (i : Nat) (b : Int) => Lqbb (some 3) [.i a, .i b, .i (i : Int), .i s.width, .i s.now, .i s.given, .i s.births, .l (encK s.things), .l (encP s.pins), .l (encL s.leases)]) (n := s.things.length) (T := some [.i (bestT s.things a)])
    (I := fun i b => b = bestI s.things a i) (fun i b hi hI => ⟨bestI s.things a (i + 1), by
      show Lqbb _ _ = Lqbb _ _
      have hb := zdz s.things a i
      rw [eqbb_3]
      simp only [bestI]
      rw [← hI] at hb ⊢
      by_cases c1 : (nth K0 s.things i).born < a
      rotate_left; · rw [if_neg fun h => c1 h.1]; simp (disch := omega) only [push_cast]
      by_cases c2 : b < 0
      · rw [if_pos ⟨c1, .inl c2⟩]; simp (disch := omega) only [push_cast]
      by_cases c3 : (nth K0 s.things b.toNat).born < (nth K0 s.things i).born
      · rw [if_pos ⟨c1, .inr c3⟩]; simp (disch := omega) only [push_cast]
      · rw [if_neg fun h => h.2.elim c2 c3]; simp (disch := omega) only [push_cast], rfl⟩) (fun b hI => by
      show Lqbb _ _ = _
      rw [eqbb_3]
      simp (disch := omega) only [push_cast]
      rw [hI]; rfl) 0 (-1) (Nat.zero_le _) rfl
  exact this
noncomputable def unitM (s : State) (r : Round) : Round × Bs :=
  if r.phase = 0 then (⟨1, zb6 s, r.marked, s.births, s.births + 1, r.rounds⟩, E0)
  else match r.queue with
  | x :: q => if hasT s.things x ∧ x ∉ r.marked then (⟨r.phase, q ++ (nth K0 s.things (lb (qK x) s.things)).thing.refs.filter fun y => !decide (y ∈ r.marked ++ [x]), r.marked ++ [x], r.top, r.at_, r.rounds⟩, E0) else (⟨r.phase, q, r.marked, r.top, r.at_, r.rounds⟩, E0)
  | [] => if bestT s.things r.at_ < 0 then (⟨0, [], [], 0, 0, r.rounds + 1⟩, E0)
    else (⟨2, [], r.marked, r.top, (nth K0 s.things (bestT s.things r.at_).toNat).born, r.rounds⟩, if (nth K0 s.things (bestT s.things r.at_).toNat).sum ∈ r.marked ∨ held s (nth K0 s.things (bestT s.things r.at_).toNat).sum ∨ isRef s.things (nth K0 s.things (bestT s.things r.at_).toNat).sum then E0 else (nth K0 s.things (bestT s.things r.at_).toNat).sum)
noncomputable def z7 (s : State) (x : Bs) : State := if x = E0 then s else { s with things := delK x s.things }
def oneD (x : Bs) : List Bs := if x = E0 then [] else [x]
def encUn (s : State) (r : Round) (d : Bs) : Lv := [.i 0, .i s.width, .i s.now, .i s.given, .i s.births, .l (encK s.things), .l (encP s.pins), .l (encL s.leases), .i r.phase, .l (encS r.queue), .l (encS r.marked), .i r.top, .i r.at_, .i r.rounds, .l (encS (oneD d))]
theorem VS.sumNe {s : State} (V : VS s) {k : Kept} (hk : k ∈ s.things) : k.sum ≠ E0 := by
  have := V.wd
  intro h
  have h2 := (V.okT k hk).2.1
  have h3 := zd8 (s := formM k.thing) V.wd
  rw [← h2, h] at h3
  have : (E0 : Bs).size = 0 := rfl
  omega
theorem zsl (l m : List Bs) (i : Nat) (hi : i < l.length) : (l.take (i + 1)).filter (fun y => !decide (y ∈ m)) = (l.take i).filter (fun y => !decide (y ∈ m)) ++ (if nth .empty l i ∈ m then [] else [nth .empty l i]) := by
  rw [zba .empty hi, List.filter_append]
  congr 1
  split
  · rename_i h; simp [h]
  · rename_i h; simp [h]
theorem zpi {s : State} (V : VS s) {r : Round} (h : RoundOk s.width s.births r) (hr : r.rounds < 1000000000) : Lqbj none (encSt s ++ encR r) = some (encUn (z7 s (unitM s r).2) (unitM s r).1 (unitM s r).2) := by
  show Lqbj none [.i s.width, .i s.now, .i s.given, .i s.births, .l (encK s.things), .l (encP s.pins), .l (encL s.leases), .i r.phase, .l (encS r.queue), .l (encS r.marked), .i r.top, .i r.at_, .i r.rounds] = _
  have n1 := V.nT; have n2 := V.nP; have n3 := V.nL; have hb := V.births; have hq := h.nQ; have hm := h.nM; have hrd := h.rds
  have hro := zmv s (by omega) (by omega)
  have hnx := zto s r.at_ (by omega)
  unfold encSt at hro
  have hnx' : Lqbb none [.i s.width, .i s.now, .i s.given, .i s.births, .l (encK s.things), .l (encP s.pins), .l (encL s.leases), .i r.at_] = _ := hnx
  rw [eqbj_i, mostE]
  have st0 : z7 s E0 = s := if_pos rfl
  by_cases h0 : r.phase = 0
  · have : unitM s r = (⟨1, zb6 s, r.marked, s.births, s.births + 1, r.rounds⟩, E0) := by unfold unitM; rw [if_pos h0]
    rw [this, st0]
    simp (disch := omega) only [push_cast, hro]; rfl
  cases hqq : r.queue with
  | cons x q =>
    rw [hqq] at hq
    simp only [List.length_cons] at hq
    have hsub : Eng.sub (encS (x :: q)) 1 (q.length + 1) = encS q := by rw [zdh]; simp
    have hx0 : (rd (encS (x :: q)) 0 0).str = x := rfl
    have hf := zbi (T := s.things) (x := x)
    by_cases c1 : hasT s.things x
    rotate_left
    · have : unitM s r = (⟨r.phase, q, r.marked, r.top, r.at_, r.rounds⟩, E0) := by unfold unitM; rw [if_neg h0, hqq]; simp only; rw [if_neg fun h => c1 h.1]
      rw [this, st0]
      have hneg := hf.2 c1
      simp (disch := omega) only [push_cast, hsub, hx0, zcn _ _ _ _ s.things _ _ x V.srtT (by omega), List.nil_append]; rfl
    have c1' : ¬ findT s.things x < 0 := fun h => hf.1 h c1
    by_cases c2 : x ∈ r.marked
    · have : unitM s r = (⟨r.phase, q, r.marked, r.top, r.at_, r.rounds⟩, E0) := by unfold unitM; rw [if_neg h0, hqq]; simp only; rw [if_neg fun h => h.2 c2]
      rw [this, st0]
      simp (disch := omega) only [push_cast, hsub, hx0, zcn _ _ _ _ s.things _ _ x V.srtT (by omega), List.nil_append, zr r.marked x (by omega), decide_eq_true c2]; rfl
    have : unitM s r = (⟨r.phase, q ++ (nth K0 s.things (lb (qK x) s.things)).thing.refs.filter fun y => !decide (y ∈ r.marked ++ [x]), r.marked ++ [x], r.top, r.at_, r.rounds⟩, E0) := by unfold unitM; rw [if_neg h0, hqq]; simp only; rw [if_pos ⟨c1, c2⟩]
    rw [this, st0]
    have hfi : findT s.things x = (lb (qK x) s.things : Int) := if_pos c1
    have hlt := ((zbs V.srtT x).1 c1).1
    have hrl := (V.okT _ (zi (d := K0) hlt)).1.refs
    have hml : (r.marked ++ [x]).length ≤ 4611686018427387904 := by rw [List.length_append]; simp; omega
    have lp := zbc (f := fun (i : Nat) (a : List Bs) => Lqbj (some 15) [.l (encS (nth K0 s.things (lb (qK x) s.things)).thing.refs), .i (i : Int), .i s.width, .i s.now, .i s.given, .i s.births, .l (encK s.things), .l (encP s.pins), .l (encL s.leases), .i r.phase, .l (encS (x :: q)), .i r.top, .i r.at_, .i r.rounds, .i 0, .i 0, .i 0, .i 0, .i 0, .i 0, .i 0, .i 0, .i 0, .l (encS a), .l (encS (r.marked ++ [x])), .l [], .l [], .l [], .l [], .l [], .l []])
      (n := (nth K0 s.things (lb (qK x) s.things)).thing.refs.length) (T := some (encUn s ⟨r.phase, q ++ (nth K0 s.things (lb (qK x) s.things)).thing.refs.filter fun y => !decide (y ∈ r.marked ++ [x]), r.marked ++ [x], r.top, r.at_, r.rounds⟩ E0))
      (I := fun i a => a = q ++ ((nth K0 s.things (lb (qK x) s.things)).thing.refs.take i).filter fun y => !decide (y ∈ r.marked ++ [x])) (fun i a hi hI => ⟨a ++ (if nth .empty (nth K0 s.things (lb (qK x) s.things)).thing.refs i ∈ r.marked ++ [x] then [] else [nth .empty (nth K0 s.things (lb (qK x) s.things)).thing.refs i]), by
        show Lqbj _ _ = Lqbj _ _
        have ha : a.length ≤ 24000 := by
          rw [hI, List.length_append]
          have := List.length_filter_le (fun y => !decide (y ∈ r.marked ++ [x])) ((nth K0 s.things (lb (qK x) s.things)).thing.refs.take i)
          rw [List.length_take] at this; omega
        rw [eqbj_15, mostE]
        by_cases hc : nth .empty (nth K0 s.things (lb (qK x) s.things)).thing.refs i ∈ r.marked ++ [x]
        · rw [if_pos hc, List.append_nil]; simp (disch := omega) only [push_cast, zr _ (nth .empty (nth K0 s.things (lb (qK x) s.things)).thing.refs i) hml, decide_eq_true hc]
        · rw [if_neg hc, ← zu a]; simp (disch := omega) only [push_cast, zr _ (nth .empty (nth K0 s.things (lb (qK x) s.things)).thing.refs i) hml, decide_eq_false hc] <;> rfl, by
        show a ++ _ = _
        rw [zsl _ _ _ hi, hI, List.append_assoc]⟩) (fun a hI => by
        show Lqbj _ _ = _
        rw [eqbj_15]
        simp (disch := omega) only [push_cast]
        rw [hI, List.take_length]; rfl) 0 q (Nat.zero_le _) (by simp)
    simp (disch := omega) only [push_cast, hsub, hx0, zcn _ _ _ _ s.things _ _ x V.srtT (by omega), List.nil_append, zr r.marked x (by omega), decide_eq_false c2, hfi]
    rw [zcd, zu]
    exact lp
  | nil =>
    have hbl := zdz s.things r.at_ s.things.length
    have hbt : bestI s.things r.at_ s.things.length = bestT s.things r.at_ := rfl
    rw [hbt] at hbl
    by_cases c1 : bestT s.things r.at_ < 0
    · have : unitM s r = (⟨0, [], [], 0, 0, r.rounds + 1⟩, E0) := by unfold unitM; rw [if_neg h0, hqq]; simp only; rw [if_pos c1]
      rw [this, st0]
      simp (disch := omega) only [push_cast, hnx']; rfl
    obtain ⟨n, hn⟩ : ∃ n : Nat, bestT s.things r.at_ = n := ⟨(bestT s.things r.at_).toNat, by omega⟩
    have hnl : n < s.things.length := by omega
    have hmem := zi (d := K0) hnl
    have hne := V.sumNe hmem
    have hT : hasT s.things (nth K0 s.things n).sum := ⟨_, hmem, rfl⟩
    have hu : unitM s r = (⟨2, [], r.marked, r.top, (nth K0 s.things n).born, r.rounds⟩, if (nth K0 s.things n).sum ∈ r.marked ∨ held s (nth K0 s.things n).sum ∨ isRef s.things (nth K0 s.things n).sum then E0 else (nth K0 s.things n).sum) := by
      unfold unitM; rw [if_neg h0, hqq]; simp only; rw [if_neg c1, hn, zdl]
    rw [hu]
    simp only
    by_cases c2 : (nth K0 s.things n).sum ∈ r.marked
    · rw [if_pos (Or.inl c2), st0]
      simp (disch := omega) only [push_cast, hnx', hn, zr r.marked (nth K0 s.things n).sum (by omega), decide_eq_true c2]; rfl
    by_cases c3 : held s (nth K0 s.things n).sum ∨ isRef s.things (nth K0 s.things n).sum
    · rw [if_pos (Or.inr c3), st0]
      have := zl4 V hT
      rw [if_pos c3] at this
      simp (disch := omega) only [push_cast, hnx', hn, zr r.marked (nth K0 s.things n).sum (by omega), decide_eq_false c2, this]; rfl
    · have hno : ¬ ((nth K0 s.things n).sum ∈ r.marked ∨ held s (nth K0 s.things n).sum ∨ isRef s.things (nth K0 s.things n).sum) := fun h => h.elim c2 c3
      rw [if_neg hno]
      have := zl4 V hT
      rw [if_neg c3] at this
      simp (disch := omega) only [push_cast, hnx', hn, zr r.marked (nth K0 s.things n).sum (by omega), decide_eq_false c2, this]
      unfold z7 encUn oneD; rw [if_neg hne, if_neg hne]; rfl
end KV
end
