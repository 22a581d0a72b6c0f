/- Plain laws over the walks' closed forms. -/
import Derived.IntWalk
import Derived.WideShapes
import Derived.Laws.Strings
import Derived.Test.YtbgmclgeikflaaaGreatM1
import Derived.Test.YtbgmclgeikflaaaGreatM2
import Derived.Test.YtbgmclgeikflaaaGreatM3
import Derived.Test.YtbgmclgeikflaaaGreatM4
set_option linter.unusedSimpArgs false
set_option linter.unusedVariables false
set_option linter.unusedSectionVars false
section
namespace KV
open Go Go.Eng
abbrev Bs := ByteArray
theorem w64 {n : Int} (h : -9223372036854775808 ≤ n ∧ n ≤ 9223372036854775807) : IntKind.i64.wrap n = n := IntWalk.i64_in n h
theorem w8 {n : Int} (h : 0 ≤ n ∧ n ≤ 255) : IntKind.u8.wrap n = n := IntWalk.u8_in n h
theorem inb_f {i : Int} {n : Nat} (h : i < 0 ∨ (n : Int) ≤ i) : inb i n = false := by
  simp only [inb, Bool.and_eq_false_iff, decide_eq_false_iff_not]; omega
theorem dlt_f {i n : Nat} (h : n ≤ i) : decide ((i : Int) < (n : Int)) = false := by simp; omega
theorem zce (n : Nat) : (n : Int).toNat = n := Int.toNat_natCast n
theorem zdy (x y : Bs) : Eng.seq x y = decide (x = y) := by
  unfold Eng.seq
  rw [ByteArray.toList_eq, ByteArray.toList_eq]
  by_cases h : x = y
  · subst h; simp
  · simp only [h, decide_false, beq_eq_false_iff_ne]
    exact fun e => h (Go.WideShapes.bytes_inj e)
theorem zgq : ∀ x : List UInt8, Op.bytesLess x x = false
  | [] => rfl
  | a :: x => by simp [Op.bytesLess, zgq x]
theorem zha : ∀ {x y z : List UInt8}, Op.bytesLess x y = true → Op.bytesLess y z = true → Op.bytesLess x z = true
  | [], [], _, h, _ => by simp [Op.bytesLess] at h
  | [], _ :: _, [], _, h => by simp [Op.bytesLess] at h
  | [], _ :: _, _ :: _, _, _ => rfl
  | _ :: _, [], _, h, _ => by simp [Op.bytesLess] at h
  | _ :: _, _ :: _, [], _, h => by simp [Op.bytesLess] at h
  | a :: x, b :: y, c :: z, h, k => by
    simp only [Op.bytesLess, Bool.or_eq_true, decide_eq_true_eq, Bool.and_eq_true, beq_iff_eq] at h k ⊢
    rcases h with h | ⟨rfl, h⟩ <;> rcases k with k | ⟨rfl, k⟩
    · exact .inl (UInt8.lt_trans h k)
    · exact .inl h
    · exact .inl k
    · exact .inr ⟨rfl, zha h k⟩
theorem zhf : ∀ (x y : List UInt8), Op.bytesLess x y = true ∨ x = y ∨ Op.bytesLess y x = true
  | [], [] => .inr (.inl rfl)
  | [], _ :: _ => .inl rfl
  | _ :: _, [] => .inr (.inr rfl)
  | a :: x, b :: y => by
    simp only [Op.bytesLess, Bool.or_eq_true, decide_eq_true_eq, Bool.and_eq_true, beq_iff_eq, List.cons.injEq]
    rcases zhf x y with h | h | h
    · rcases Nat.lt_trichotomy a.toNat b.toNat with k | k | k
      · exact .inl (.inl (UInt8.lt_iff_toNat_lt.2 k))
      · exact .inl (.inr ⟨UInt8.toNat_inj.1 k, h⟩)
      · exact .inr (.inr (.inl (UInt8.lt_iff_toNat_lt.2 k)))
    · rcases Nat.lt_trichotomy a.toNat b.toNat with k | k | k
      · exact .inl (.inl (UInt8.lt_iff_toNat_lt.2 k))
      · exact .inr (.inl ⟨UInt8.toNat_inj.1 k, h⟩)
      · exact .inr (.inr (.inl (UInt8.lt_iff_toNat_lt.2 k)))
    · rcases Nat.lt_trichotomy a.toNat b.toNat with k | k | k
      · exact .inl (.inl (UInt8.lt_iff_toNat_lt.2 k))
      · exact .inr (.inr (.inr ⟨(UInt8.toNat_inj.1 k).symm, h⟩))
      · exact .inr (.inr (.inl (UInt8.lt_iff_toNat_lt.2 k)))
theorem zcf (x : Bs) : slt x x = false := zgq _
theorem zbj {x y z : Bs} (h : slt x y = true) (k : slt y z = true) : slt x z = true := zha h k
theorem zlo (x y : Bs) : slt x y = true ∨ x = y ∨ slt y x = true := by
  rcases zhf x.toList y.toList with h | h | h
  · exact .inl h
  · rw [ByteArray.toList_eq, ByteArray.toList_eq] at h; exact .inr (.inl (Go.WideShapes.bytes_inj h))
  · exact .inr (.inr h)
theorem zn4 {x y : Bs} (h : slt x y = true) : x ≠ y := fun e => by rw [e, zcf] at h; cases h
theorem zlw {x y : Bs} (h : slt x y = true) : slt y x = false := by
  cases k : slt y x
  · rfl
  · have := zbj h k; rw [zcf] at this; cases this
theorem zfq {x y : Bs} : slt x y = false ↔ x = y ∨ slt y x = true := by
  constructor
  · intro h; rcases zlo x y with k | k | k
    · rw [h] at k; cases k
    · exact .inl k
    · exact .inr k
  · rintro (rfl | h)
    · exact zcf _
    · exact zlw h
theorem zfc {α : Type} (f : α → List C) (l : List α) (i o : Nat) (h : i < l.length) : rd (l.map f) i o = (f l[i]).getD o (.i 0) := by
  simp [rd, List.getD_eq_getElem?_getD, h]
theorem zei {α : Type} (f : α → List C) (l : List α) (a b : Nat) : Eng.sub (l.map f) a b = ((l.drop a).take (b - a)).map f := by
  simp [Eng.sub, List.map_take, List.map_drop]
def encS (l : List Bs) : Rw := l.map fun s => [.s s]
theorem zr (l : List Bs) : (encS l).length = l.length := by simp [encS]
theorem zi (l m : List Bs) : encS l ++ encS m = encS (l ++ m) := by simp [encS]
theorem zb3 (l : List Bs) (a b : Nat) : Eng.sub (encS l) a b = encS ((l.drop a).take (b - a)) := zei _ _ _ _
theorem z6 (s : Bs) : ([[C.s s]] : Rw) = encS [s] := rfl
@[push_cast] theorem cpos {p : Prop} [Decidable p] {α : Type} {a b : α} (h : p) : cond (decide p) a b = a := by simp [h]
@[push_cast] theorem cneg {p : Prop} [Decidable p] {α : Type} {a b : α} (h : ¬ p) : cond (decide p) a b = b := by simp [h]
@[push_cast] theorem cnot {α : Type} (c : Bool) (a b : α) : cond (!c) a b = cond c b a := by cases c <;> rfl
attribute [push_cast] cond_true cond_false Option.bind_some Option.bind_none Int.toNat_natCast
@[push_cast] theorem notT : (!true) = false := Eq.trans rfl rfl
@[push_cast] theorem notF : (!false) = true := Eq.trans rfl rfl
@[push_cast] theorem g0 (a : Lf) (l : List Lf) : g (a :: l) 0 = a := Eq.trans rfl rfl
@[push_cast] theorem g1 (a b : Lf) (l : List Lf) : g (a :: b :: l) 1 = b := Eq.trans rfl rfl
@[push_cast] theorem g2 (a b c : Lf) (l : List Lf) : g (a :: b :: c :: l) 2 = c := Eq.trans rfl rfl
@[push_cast] theorem g3 (a b c d : Lf) (l : List Lf) : g (a :: b :: c :: d :: l) 3 = d := Eq.trans rfl rfl
@[push_cast] theorem g4 (a b c d e : Lf) (l : List Lf) : g (a :: b :: c :: d :: e :: l) 4 = e := Eq.trans rfl rfl
@[push_cast] theorem g5 (a b c d e f : Lf) (l : List Lf) : g (a :: b :: c :: d :: e :: f :: l) 5 = f := Eq.trans rfl rfl
@[push_cast] theorem g6 (a b c d e f h : Lf) (l : List Lf) : g (a :: b :: c :: d :: e :: f :: h :: l) 6 = h := Eq.trans rfl rfl
@[push_cast] theorem gS (a b c d e f h : Lf) (l : List Lf) (n : Nat) : g (a :: b :: c :: d :: e :: f :: h :: l) (n + 7) = g l n := Eq.trans rfl rfl
@[push_cast] theorem lfI (n : Int) : (Lf.i n).int = n := Eq.trans rfl rfl
@[push_cast] theorem lfB (n : Bool) : (Lf.b n).bool = n := Eq.trans rfl rfl
@[push_cast] theorem lfS (n : ByteArray) : (Lf.s n).str = n := Eq.trans rfl rfl
@[push_cast] theorem lfL (n : Rw) : (Lf.l n).list = n := Eq.trans rfl rfl
@[push_cast] theorem lfM (n : List (C × C)) : (Lf.m n).map = n := Eq.trans rfl rfl
attribute [push_cast] w64 w8
@[push_cast] theorem inbp {i : Int} {n : Nat} (h : 0 ≤ i ∧ i < (n : Int)) : inb i n = true := by simp [inb, h]
@[push_cast] theorem inbn {i : Int} {n : Nat} (h : ¬ (0 ≤ i ∧ i < (n : Int))) : inb i n = false := inb_f (by omega)
@[push_cast] theorem tnA (i : Nat) : ((i : Int) + 1).toNat = i + 1 := by omega
@[push_cast] theorem tnM (i : Nat) : ((i : Int) - 1).toNat = i - 1 := by omega
@[push_cast] theorem bneI (a b : Int) : (a != b) = !decide (a = b) := by
  by_cases h : a = b
  · subst h; simp
  · simp [h]
@[push_cast] theorem beqI (a b : Int) : (a == b) = decide (a = b) := by
  by_cases h : a = b
  · subst h; simp
  · simp [h]
attribute [push_cast] zdy zr
@[push_cast] theorem lenC {α : Type} (a : α) (l : List α) : (a :: l).length = l.length + 1 := Eq.trans rfl rfl
@[push_cast] theorem lenN {α : Type} : ([] : List α).length = 0 := Eq.trans rfl rfl
@[push_cast] theorem ifT {α : Type} (a b : α) : (if True then a else b) = a := if_pos trivial
@[push_cast] theorem ifF {α : Type} (a b : α) : (if False then a else b) = b := if_neg id
@[push_cast] theorem ftE : (false = true) = False := by simp
attribute [push_cast] eq_self
@[push_cast] theorem decT [Decidable True] : decide True = true := by simp
@[push_cast] theorem decF [Decidable False] : decide False = false := by simp
def nth {α : Type} (d : α) (l : List α) (i : Nat) : α := l.getD i d
theorem zft {α : Type} (d x : α) (l : List α) : nth d (x :: l) 0 = x := rfl
theorem zcq {α : Type} (d x : α) (l : List α) (i : Nat) : nth d (x :: l) (i + 1) = nth d l i := rfl
theorem zh {α : Type} (d : α) (l : List α) (i : Nat) (h : i < l.length) : nth d l i = l[i] := by
  unfold nth; rw [List.getD_eq_getElem?_getD, List.getElem?_eq_getElem h]; rfl
theorem zm7 {α : Type} {d : α} {l : List α} {i : Nat} (h : i < l.length) : l[i]? = some (nth d l i) := by
  rw [zh d l i h, List.getElem?_eq_getElem h]
theorem zb {α : Type} {l : List α} {i : Nat} {d : α} (h : i < l.length) : nth d l i ∈ l := by
  rw [zh d l i h]; exact List.getElem_mem h
theorem zu {α : Type} {l : List α} {x : α} (d : α) (h : x ∈ l) : ∃ i, i < l.length ∧ nth d l i = x := by
  obtain ⟨i, h1, h2⟩ := List.mem_iff_getElem.1 h
  exact ⟨i, h1, by rw [zh d l i h1]; exact h2⟩
theorem zcp {α : Type} (d : α) {l : List α} {i : Nat} (h : i < l.length) : l.drop i = nth d l i :: l.drop (i + 1) := by
  rw [List.drop_eq_getElem_cons h, zh d l i h]
theorem zz {α : Type} (d : α) {l : List α} {i : Nat} (h : i < l.length) : l.take (i + 1) = l.take i ++ [nth d l i] := by
  rw [List.take_add_one, zm7 (d := d) h]; rfl
theorem zfs {α : Type} (f : α → List C) (d : α) (l : List α) (i o : Nat) (h : i < l.length) : rd (l.map f) i o = (f (nth d l i)).getD o (.i 0) := by
  rw [zfc f l i o h, zh d l i h]
theorem zfx {α : Type} (f : α → List C) (l : List α) (i o : Nat) (h : l.length ≤ i) : rd (l.map f) i o = .i 0 := by
  have : (l.map f).getD i [] = [] := by
    rw [List.getD_eq_getElem?_getD, List.getElem?_eq_none (by simpa using h)]; rfl
  unfold rd
  rw [this]; rfl
@[push_cast] theorem zoz (l : List Bs) (i : Nat) : (rd (encS l) i 0).str = nth .empty l i := by
  rcases Nat.lt_or_ge i l.length with h | h
  · rw [encS, zfs _ .empty _ _ _ h]; rfl
  · rw [encS, zfx _ _ _ _ h, nth, List.getD_eq_getElem?_getD, List.getElem?_eq_none h]; rfl
end KV
end
section

end
section
namespace KV
open Go Go.Eng
open Classical in
theorem zn {β : Type} {f : Nat → β} {P : Nat → Prop} {n : Nat} {T F : β} (step : ∀ i, i < n → (P i → f i = f (i + 1)) ∧ (¬ P i → f i = F)) (last : f n = T) :
    ∀ i, i ≤ n → f i = if (∀ j, i ≤ j → j < n → P j) then T else F := by
  intro i hi
  generalize hk : n - i = k
  induction k generalizing i with
  | zero =>
    have : i = n := by omega
    subst this
    rw [if_pos (fun j h1 h2 => absurd h2 (by omega)), last]
  | succ k ih =>
    have hlt : i < n := by omega
    by_cases h : P i
    · rw [(step i hlt).1 h, ih (i + 1) (by omega) (by omega)]
      by_cases h2 : ∀ j, i + 1 ≤ j → j < n → P j
      · rw [if_pos h2, if_pos fun j h3 h4 => by
          rcases Nat.eq_or_lt_of_le h3 with rfl | h5
          · exact h
          · exact h2 j h5 h4]
      · rw [if_neg h2, if_neg fun h3 => h2 fun j h4 h5 => h3 j (by omega) h5]
    · rw [(step i hlt).2 h, if_neg fun h3 => h (h3 i (Nat.le_refl _) hlt)]
theorem zh3 {β σ : Type} {f : Nat → σ → β} {g : Nat → σ → σ} {n : Nat} (step : ∀ i s, i < n → f i s = f (i + 1) (g i s)) :
    ∀ i, i ≤ n → ∀ s, f i s = f n ((List.range' i (n - i)).foldl (fun s i => g i s) s) := by
  intro i hi
  generalize hk : n - i = k
  induction k generalizing i with
  | zero =>
    intro s
    have : i = n := by omega
    subst this; rfl
  | succ k ih =>
    intro s
    rw [step i s (by omega), ih (i + 1) (by omega) (by omega)]
    rfl
theorem zt {β σ : Type} {f : Nat → σ → β} {I : Nat → σ → Prop} {n : Nat} {T : β} (step : ∀ i s, i < n → I i s → ∃ s', f i s = f (i + 1) s' ∧ I (i + 1) s') (last : ∀ s, I n s → f n s = T) :
    ∀ i s, i ≤ n → I i s → f i s = T := by
  intro i s hi
  generalize hk : n - i = k
  induction k generalizing i s with
  | zero =>
    intro h
    have : i = n := by omega
    subst this; exact last s h
  | succ k ih =>
    intro h
    obtain ⟨s', h1, h2⟩ := step i s (by omega) h
    rw [h1]; exact ih (i + 1) s' (by omega) (by omega) h2
theorem zfp {β σ : Type} {f : Nat → σ → β} {I : Nat → σ → Prop} {n : Nat} {T : β → Prop} (step : ∀ i s, i < n → I i s → (∃ s', f i s = f (i + 1) s' ∧ I (i + 1) s') ∨ T (f i s)) (last : ∀ s, I n s → T (f n s)) :
    ∀ i s, i ≤ n → I i s → T (f i s) := by
  intro i s hi
  generalize hk : n - i = k
  induction k generalizing i s with
  | zero =>
    intro h
    have : i = n := by omega
    subst this; exact last s h
  | succ k ih =>
    intro h
    rcases step i s (by omega) h with ⟨s', h1, h2⟩ | h1
    · rw [h1]; exact ih (i + 1) s' (by omega) (by omega) h2
    · exact h1
theorem zbl (xs ys : Rw) : bytesOf (xs ++ ys) = bytesOf xs ++ bytesOf ys := by
  apply Go.WideShapes.bytes_inj
  simp [bytesOf, ByteArray.data_append]
theorem zct (s : Bs) : bytesOf (rowsOf s) = s := by
  apply Go.WideShapes.bytes_inj
  simp only [bytesOf, rowsOf, List.map_map]
  rw [show ((fun r : List C => UInt8.ofNat (r.getD 0 (.i 0)).int.toNat) ∘ fun b : UInt8 => [C.i (b.toNat : Int)]) = id from funext fun b => by simp only [Function.comp, List.getD_cons_zero, C.int, Int.toNat_natCast, UInt8.ofNat_toNat, id]]
  simp only [List.map_id, Array.toArray_toList]
theorem zch (xs : Rw) : (bytesOf xs).size = xs.length := by
  show (xs.map _).toArray.size = _
  simp only [List.size_toArray, List.length_map]
theorem zds (s : Bs) : (rowsOf s).length = s.size := by
  show (s.data.toList.map _).length = s.data.size
  simp only [List.length_map, Array.length_toList]
theorem zq (s : Bs) (n : Nat) : 0 ≤ byteAt s n ∧ byteAt s n < 256 := by
  unfold byteAt
  generalize s.data.getD n 0 = b
  have := b.toNat_lt
  omega
theorem size_extract (s : Bs) (a b : Nat) : (s.extract a b).size = min b s.size - a := ByteArray.size_extract
theorem zy (s t : Bs) : (s ++ t).size = s.size + t.size := ByteArray.size_append
theorem zk9 {s : Bs} : s.size = 0 ↔ s = (⟨#[]⟩ : Bs) := by
  constructor
  · intro h
    apply Go.WideShapes.bytes_inj
    have h : s.data.size = 0 := h
    have := Array.eq_empty_of_size_eq_zero h
    rw [this]
  · rintro rfl; rfl
end KV
end
section
namespace KV
open Go Go.Eng
open Classical
def ze (w : Int) : Bool := decide (1 ≤ w) && decide (w ≤ 8)
theorem zp {w : Int} : ze w = true ↔ 1 ≤ w ∧ w ≤ 8 := by simp [ze]
theorem zbe (w : Int) : Lq7 none [.i w] = some [.b (ze w)] := by
  rw [eq7_i]; unfold ze
  cases decide (1 ≤ w) <;> rfl
theorem zo (w : Int) : Lqj none [.i w] = some [.b (ze w)] := by
  rw [eqj_i]; unfold ze
  cases decide (1 ≤ w) <;> rfl
structure Thing where
  text : Bs
  refs : List Bs
def Asc (l : List Bs) : Prop := l.Pairwise fun a b => slt a b = true
theorem znr (l : List Bs) : Asc l ↔ ∀ j, 0 < j → j < l.length → slt (nth .empty l (j - 1)) (nth .empty l j) = true := by
  induction l with
  | nil => exact ⟨fun _ j _ h => absurd h (by simp), fun _ => List.Pairwise.nil⟩
  | cons a l ih =>
    unfold Asc at ih ⊢
    rw [List.pairwise_cons, ih]
    constructor
    · rintro ⟨h1, h2⟩ j hj hl
      cases j with
      | zero => omega
      | succ j =>
        simp only [Nat.add_sub_cancel, zcq]
        cases j with
        | zero =>
          simp only [List.length_cons] at hl
          exact h1 _ (zb (by omega))
        | succ j =>
          simp only [zcq]
          simp only [List.length_cons] at hl
          exact h2 (j + 1) (by omega) (by omega)
    · intro h
      have h2 : ∀ j, 0 < j → j < l.length → slt (nth .empty l (j - 1)) (nth .empty l j) = true := fun j hj hl => by
        have := h (j + 1) (by omega) (by simp; omega)
        cases j with
        | zero => omega
        | succ j => simpa [zcq, zft] using this
      refine ⟨fun b hb => ?_, h2⟩
      obtain ⟨i, hi, rfl⟩ := zu .empty hb
      clear hb
      induction i with
      | zero => have := h 1 (by omega) (by simp; omega); simpa [zcq, zft] using this
      | succ i ihi => exact zbj (ihi (by omega)) (h2 (i + 1) (by omega) hi)
structure ThingOk (t : Thing) (w : Int) : Prop where
  wd : 1 ≤ w ∧ w ≤ 8
  text : t.text.size ≤ 2000
  refs : t.refs.length ≤ 30
  size : ∀ r ∈ t.refs, (r.size : Int) = w
  asc : Asc t.refs
noncomputable def zw (t : Thing) (w : Int) : Bool := decide (ThingOk t w)
theorem zcl {t : Thing} {w : Int} : zw t w = true ↔ ThingOk t w := by simp [zw]
def refP (l : List Bs) (w : Int) (j : Nat) : Prop := ((nth .empty l j).size : Int) = w ∧ (0 < j → slt (nth .empty l (j - 1)) (nth .empty l j) = true)
theorem zly (l : List Bs) (w : Int) : (∀ j, 0 ≤ j → j < l.length → refP l w j) ↔ (∀ r ∈ l, (r.size : Int) = w) ∧ Asc l := by
  rw [znr]
  constructor
  · intro h
    refine ⟨fun r hr => ?_, fun j h1 h2 => (h j (by omega) h2).2 h1⟩
    obtain ⟨i, hi, rfl⟩ := zu .empty hr
    exact (h i (by omega) hi).1
  · rintro ⟨h1, h2⟩ j _ hj
    exact ⟨h1 _ (zb hj), fun h => h2 j h hj⟩
theorem zk8 (l : List Bs) (x : Bs) (w : Int) (hl : l.length ≤ 30) : ∀ i : Nat, i ≤ l.length →
    Lqbg (some 4) [.i w, .l (encS l), .i (l.length : Int), .i (i : Int), .s x, .l (encS l)] = if (∀ j, i ≤ j → j < l.length → refP l w j) then some [.b (ze w)] else some [.b false] := by
  refine zn (f := fun i : Nat => Lqbg (some 4) [.i w, .l (encS l), .i (l.length : Int), .i (i : Int), .s x, .l (encS l)]) (fun i hi => ?_) ?_
  · show (_ → Lqbg _ _ = _) ∧ (_ → Lqbg _ _ = _)
    rw [eqbg_4]
    unfold refP
    by_cases h0 : 0 < i <;> by_cases h1 : ((nth .empty l i).size : Int) = w <;> simp (disch := omega) only [push_cast]
    · cases slt (nth .empty l (i - 1)) (nth .empty l i) <;> simp [h0, h1]
    · simp [h1]
    · simp [h0, h1]
    · simp [h1]
  · show Lqbg _ _ = _
    rw [eqbg_4]; simp (disch := omega) only [push_cast, zbe]
theorem zcz (t : Thing) (w : Int) : ThingOk t w ↔ ze w = true ∧ t.text.size ≤ 2000 ∧ t.refs.length ≤ 30 ∧ ∀ j, 0 ≤ j → j < t.refs.length → refP t.refs w j := by
  rw [zly, zp]
  exact ⟨fun h => ⟨h.wd, h.text, h.refs, h.size, h.asc⟩, fun h => ⟨h.1, h.2.1, h.2.2.1, h.2.2.2.1, h.2.2.2.2⟩⟩
theorem zbd (t : Thing) (w : Int) : Lqbg none [.s t.text, .l (encS t.refs), .i w] = some [.b (zw t w)] := by
  rw [eqbg_i, zr]
  by_cases h1 : t.text.size ≤ 2000
  · by_cases h2 : t.refs.length ≤ 30
    · rw [show decide ((2000 : Int) < (t.text.size : Int)) = false by simp; omega, show decide ((30 : Int) < (t.refs.length : Int)) = false by simp; omega]
      simp only [cond_false]
      have := zk8 t.refs t.text w h2 0 (Nat.zero_le _)
      rw [show ((0 : Nat) : Int) = 0 from rfl] at this
      rw [this]
      unfold zw
      by_cases h3 : ∀ j, 0 ≤ j → j < t.refs.length → refP t.refs w j
      · rw [if_pos h3]; congr 3
        cases hw : ze w
        · exact (decide_eq_false fun h => by rw [zcz, hw] at h; cases h.1).symm
        · exact (decide_eq_true ((zcz t w).2 ⟨hw, h1, h2, h3⟩)).symm
      · rw [if_neg h3, decide_eq_false fun h => h3 ((zcz t w).1 h).2.2.2]
    · rw [show decide ((2000 : Int) < (t.text.size : Int)) = false by simp; omega, show decide ((30 : Int) < (t.refs.length : Int)) = true by simp; omega]
      simp only [cond_false, cond_true]
      unfold zw
      rw [decide_eq_false fun h => h2 h.refs]
  · rw [show decide ((2000 : Int) < (t.text.size : Int)) = true by simp; omega]
    simp only [cond_true]
    unfold zw
    rw [decide_eq_false fun h => h1 h.text]
theorem zjl (l : List Bs) (x : Bs) (w : Int) (hl : l.length ≤ 30) : ∀ i : Nat, i ≤ l.length →
    Lq9 (some 4) [.i w, .i (i : Int), .s x, .l (encS l)] = if (∀ j, i ≤ j → j < l.length → refP l w j) then some [.b true] else some [.b false] := by
  refine zn (f := fun i : Nat => Lq9 (some 4) [.i w, .i (i : Int), .s x, .l (encS l)]) (fun i hi => ?_) ?_
  · show (_ → Lq9 _ _ = _) ∧ (_ → Lq9 _ _ = _)
    rw [eq9_4]
    unfold refP
    by_cases h0 : 0 < i <;> by_cases h1 : ((nth .empty l i).size : Int) = w <;> simp (disch := omega) only [push_cast]
    · cases slt (nth .empty l (i - 1)) (nth .empty l i) <;> simp [h0, h1]
    · simp [h1]
    · simp [h0, h1]
    · simp [h1]
  · show Lq9 _ _ = _
    rw [eq9_4]; simp (disch := omega) only [push_cast]
theorem zcj (t : Thing) (w : Int) : Lq9 none [.s t.text, .l (encS t.refs), .i w] = some [.b (zw t w)] := by
  rw [eq9_i, zo, zr]
  simp only [Option.bind_some, g, List.getD_cons_zero, Lf.bool]
  unfold zw
  cases hw : ze w
  · simp (disch := omega) only [push_cast]; rw [decide_eq_false (p := ThingOk t w) fun h => by rw [zcz, hw] at h; cases h.1]
  by_cases h1 : t.text.size ≤ 2000
  · by_cases h2 : t.refs.length ≤ 30
    · rw [show decide ((2000 : Int) < (t.text.size : Int)) = false by simp; omega, show decide ((30 : Int) < (t.refs.length : Int)) = false by simp; omega]
      simp only [cond_false, Bool.not_true]
      have := zjl t.refs t.text w h2 0 (Nat.zero_le _)
      rw [show ((0 : Nat) : Int) = 0 from rfl] at this
      rw [this]
      by_cases h3 : ∀ j, 0 ≤ j → j < t.refs.length → refP t.refs w j
      · rw [if_pos h3, decide_eq_true ((zcz t w).2 ⟨hw, h1, h2, h3⟩)]
      · rw [if_neg h3, decide_eq_false fun h => h3 ((zcz t w).1 h).2.2.2]
    · rw [show decide ((2000 : Int) < (t.text.size : Int)) = false by simp; omega, show decide ((30 : Int) < (t.refs.length : Int)) = true by simp; omega]
      simp only [cond_false, cond_true, Bool.not_true]
      rw [decide_eq_false fun h => h2 h.refs]
  · rw [show decide ((2000 : Int) < (t.text.size : Int)) = true by simp; omega]
    simp only [cond_true, cond_false, Bool.not_true]
    rw [decide_eq_false fun h => h1 h.text]
theorem zfo (n : Int) : IntKind.u64.wrap n = n % 18446744073709551616 := by simp [IntKind.wrap, IntKind.bits, IntKind.signed]
def step1 (h b : Int) : Int := IntKind.u64.wrap ((IntKind.u64.wrap (BitVec.ofInt (IntKind.u64).bits h ^^^ BitVec.ofInt (IntKind.u64).bits (IntKind.u64.wrap b)).toNat) * 1099511628211)
def hash (s : Bs) : Int := (List.range' 0 s.size).foldl (fun h i => step1 h (byteAt s i)) 14695981039346656037
def digs : Nat → Int → List Int
  | 0, _ => []
  | n + 1, h => digs n (h / 256) ++ [h % 256]
theorem zhn : ∀ n h, (digs n h).length = n
  | 0, _ => rfl
  | n + 1, h => by simp [digs, zhn n]
def rowI (l : List Int) : Rw := l.map fun d => [.i d]
noncomputable def sumM (s : Bs) (w : Int) : Bs := if ze w = true then bytesOf (rowI (digs w.toNat (hash s))) else ⟨#[]⟩
theorem zgx {s : Bs} {w : Int} (h : ze w = true) : ((sumM s w).size : Int) = w := by
  rw [sumM, if_pos h, zch, rowI, List.length_map, zhn]
  have := zp.1 h; omega
theorem zof (n : Int) : 0 ≤ IntKind.u64.wrap n ∧ IntKind.u64.wrap n < 18446744073709551616 := by rw [zfo]; omega
theorem zhy (s : Bs) : 0 ≤ hash s ∧ hash s < 18446744073709551616 := by
  unfold hash
  generalize List.range' 0 s.size = l
  have : ∀ (l : List Nat) (h : Int), (0 ≤ h ∧ h < 18446744073709551616) → 0 ≤ l.foldl (fun h i => step1 h (byteAt s i)) h ∧ l.foldl (fun h i => step1 h (byteAt s i)) h < 18446744073709551616 := by
    intro l
    induction l with
    | nil => exact fun h hh => hh
    | cons a l ih => exact fun h _ => ih _ (zof _)
  exact this l _ (by omega)
theorem wrI (l : List Int) (i : Nat) (d : Int) (h : i < l.length) : wrs (rowI l) i 0 [.i d] = rowI (l.set i d) := by
  unfold wrs wrs wr rowI
  rw [List.map_set]
  congr 1
  have : (l.map fun d => [C.i d]).getD i [] = [.i l[i]] := by simp [List.getD_eq_getElem?_getD, h]
  rw [this]; rfl
theorem zi5 (n : Nat) : ∀ (h : Int) (l r : List Int), 0 ≤ h → h < 18446744073709551616 → l.length = n → n + r.length ≤ 8 →
    Lqbf (some 12) [.i h, .i ((n : Int) - 1), .l (rowI (l ++ r))] = some [.s (bytesOf (rowI (digs n h ++ r)))] := by
  induction n with
  | zero =>
    intro h l r h0 h1 hl hr
    rw [eqbf_12]
    have : l = [] := List.eq_nil_of_length_eq_zero hl
    subst this
    simp (disch := omega) only [push_cast] <;> rfl
  | succ n ih =>
    intro h l r h0 h1 hl hr
    rw [eqbf_12]
    have hlen : (rowI (l ++ r)).length = n + 1 + r.length := by simp [rowI, hl]
    have e : ((n + 1 : Nat) : Int) - 1 = (n : Int) := by omega
    rw [e, hlen]
    have hu : IntKind.u8.wrap h = h % 256 := by rw [IntKind.wrap_u8]
    simp (disch := omega) only [push_cast, wrI]
    rw [hu, wrI _ _ _ (by simp [hl]; omega)]
    have hset : (l ++ r).set n (h % 256) = l.take n ++ (h % 256 :: r) := by
      rw [List.set_append_left _ _ (by omega)]
      have : l = l.take n ++ [l[n]] := by
        conv => lhs; rw [← List.take_append_drop n l, List.drop_eq_getElem_cons (by omega), List.drop_of_length_le (by omega)]
      conv => lhs; rw [this]
      rw [List.set_append_right _ _ (by simp; omega)]
      simp [hl]
    rw [hset]
    have hf : h.fdiv (2 ^ 8) = h / 256 := by rw [Int.fdiv_eq_ediv_of_nonneg _ (by omega)]; rfl
    rw [hf, ih (h / 256) (l.take n) (h % 256 :: r) (by omega) (by omega) (by simp [hl]) (by simp; omega)]
    simp [digs]
theorem zbt (s : Bs) (w : Int) (hs : s.size ≤ 1099511627776) : Lqbf none [.s s, .i w] = some [.s (sumM s w)] := by
  rw [eqbf_i, zbe]
  unfold sumM
  cases hw : ze w
  · simp (disch := omega) only [push_cast] <;> rfl
  · simp (disch := omega) only [push_cast]
    have := zh3 (f := fun (i : Nat) (h : Int) => Lqbf (some 5) [.s s, .i w, .i h, .i (s.size : Int), .i (i : Int)]) (g := fun i h => step1 h (byteAt s i)) (n := s.size) (fun i h hi => by
      show Lqbf _ _ = Lqbf _ _
      rw [eqbf_5]; simp (disch := omega) only [push_cast] <;> rfl) 0 (Nat.zero_le _) 14695981039346656037
    rw [show ((0 : Nat) : Int) = 0 from rfl] at this
    rw [this, Nat.sub_zero, show (List.range' 0 s.size).foldl (fun h i => step1 h (byteAt s i)) 14695981039346656037 = hash s from rfl, eqbf_5]
    have h8 := zp.1 hw
    have hr := zhy s
    have hm : (most : Int) = 1099511627776 := rfl
    obtain ⟨n, rfl⟩ : ∃ n : Nat, w = (n : Int) := ⟨w.toNat, by omega⟩
    simp (disch := omega) only [push_cast, hm]
    have h12 := zi5 n (hash s) (List.replicate n 0) [] hr.1 hr.2 (by simp) (by simp; omega)
    rw [List.append_nil, List.append_nil, show rowI (List.replicate n 0) = List.replicate n [C.i 0] by simp [rowI]] at h12
    exact h12
theorem znd (n : Nat) : ∀ (h : Int) (r : List Int) (w : Nat), 0 ≤ h → h < 18446744073709551616 → r.length + n = w → w ≤ 8 →
    Lqg (some 10) [.i (w : Int), .i h, .i (r.length : Int), .l (rowI r)] = some [.s (bytesOf (rowI (digs n h ++ r)))] := by
  induction n with
  | zero =>
    intro h r w h0 h1 hr hw
    rw [eqg_10]
    simp (disch := omega) only [push_cast] <;> rfl
  | succ n ih =>
    intro h r w h0 h1 hr hw
    rw [eqg_10]
    have hm : most = 1099511627776 := rfl
    have hlen : (rowI r).length = r.length := by simp [rowI]
    have hu : IntKind.u8.wrap (h.tmod 256) = h % 256 := by rw [Int.tmod_eq_emod_of_nonneg h0, w8 (by omega)]
    have hq : IntKind.u64.wrap (h.tdiv 256) = h / 256 := by rw [Int.tdiv_eq_ediv_of_nonneg h0, zfo]; omega
    rw [hu, hq]
    simp (disch := omega) only [push_cast, List.length_cons, List.length_nil, hm, hlen]
    have := ih (h / 256) (h % 256 :: r) w (by omega) (by omega) (by simp; omega) hw
    simp only [List.length_cons] at this
    rw [show ([[C.i (h % 256)]] : Rw) ++ rowI r = rowI (h % 256 :: r) from rfl, show ((r.length : Int) + 1) = ((r.length + 1 : Nat) : Int) by omega, this]
    simp [digs]
theorem zbk (s : Bs) (w : Int) (hs : s.size ≤ 1099511627776) : Lqg none [.s s, .i w] = some [.s (sumM s w)] := by
  rw [eqg_i, zo]
  unfold sumM
  cases hw : ze w
  · simp (disch := omega) only [push_cast] <;> rfl
  · simp (disch := omega) only [push_cast]
    have := zh3 (f := fun (i : Nat) (h : Int) => Lqg (some 5) [.s s, .i w, .i h, .i (i : Int)]) (g := fun i h => step1 h (byteAt s i)) (n := s.size) (fun i h hi => by
      show Lqg _ _ = Lqg _ _
      rw [eqg_5]; simp (disch := omega) only [push_cast] <;> rfl) 0 (Nat.zero_le _) 14695981039346656037
    rw [show ((0 : Nat) : Int) = 0 from rfl] at this
    rw [this, Nat.sub_zero, show (List.range' 0 s.size).foldl (fun h i => step1 h (byteAt s i)) 14695981039346656037 = hash s from rfl, eqg_5]
    have h8 := zp.1 hw
    have hr := zhy s
    obtain ⟨n, rfl⟩ : ∃ n : Nat, w = (n : Int) := ⟨w.toNat, by omega⟩
    simp (disch := omega) only [push_cast]
    have := znd n (hash s) [] n hr.1 hr.2 (by simp) (by omega)
    rw [List.append_nil] at this
    exact this
end KV
end
section
namespace KV
open Go Go.Eng
open Classical
theorem mostE : most = 1099511627776 := rfl
theorem zb9 (l : Rw) (h : l.length ≤ 1099511627776) : Lq1 none [.l l] = some [.l l] := by
  rw [eq1_i, mostE]; simp (disch := omega) only [push_cast]
theorem zdx (x : Bs) (l : Rw) (h : l.length ≤ 1099511627776) : Lqbv none [.s x, .l l] = some [.s x, .l l] := by
  rw [eqbv_i, mostE]; simp (disch := omega) only [push_cast, List.length_nil, List.nil_append]
def szs (l : List Bs) : Nat := (l.map (·.size)).sum
theorem zdo (a : Bs) (l : List Bs) : szs (a :: l) = a.size + szs l := rfl
theorem zij (l m : List Bs) : szs (l ++ m) = szs l + szs m := by simp [szs]
theorem zhz (l : List Bs) (i : Nat) : szs (l.take i) ≤ szs l := by
  conv => rhs; rw [← List.take_append_drop i l, zij]
  omega
def hd (n : Nat) : Bs := bytesOf [[.i (IntKind.u8.wrap (n : Int))]]
theorem zcg (n : Nat) : (hd n).size = 1 := by rw [hd, zch]; rfl
def cat (a : Bs) (l : List Bs) : Bs := l.foldl (· ++ ·) a
theorem zda (l : List Bs) : ∀ a, (cat a l).size = a.size + szs l := by
  induction l with
  | nil => intro a; rfl
  | cons x l ih => intro a; show (cat (a ++ x) l).size = _; rw [ih, zy, zdo]; omega
theorem zdz (a : Bs) (l : List Bs) (i : Nat) (h : i < l.length) : cat a (l.take (i + 1)) = cat a (l.take i) ++ nth .empty l i := by
  unfold cat; rw [zz .empty h, List.foldl_append]; rfl
def formM (t : Thing) : Bs := cat (hd t.refs.length) t.refs ++ t.text
theorem zbh (t : Thing) : (formM t).size = 1 + szs t.refs + t.text.size := by rw [formM, zy, zda, zcg]
theorem zee (t : Thing) (h : 1 + szs t.refs + t.text.size ≤ 1099511627776) (hl : t.refs.length ≤ 4611686018427387904) : Lq2 none [.s t.text, .l (encS t.refs)] = some [.s (formM t)] := by
  rw [eq2_i]
  have := zt (f := fun (i : Nat) (a : Bs) => Lq2 (some 3) [.s a, .l (encS t.refs), .i (t.refs.length : Int), .i (i : Int), .s t.text, .l (encS t.refs)]) (n := t.refs.length) (T := some [.s (formM t)])
    (I := fun i a => a = cat (hd t.refs.length) (t.refs.take i)) (fun i a hi hI => ⟨_, by
      show Lq2 _ _ = Lq2 _ _
      rw [eq2_3, mostE]
      have : a.size + (nth .empty t.refs i).size ≤ 1 + szs t.refs := by
        rw [hI, ← zy, ← zdz _ _ _ hi, zda, zcg]
        have := zhz t.refs (i + 1); omega
      simp (disch := omega) only [push_cast] <;> rfl, by show _ = _; rw [hI, zdz _ _ _ hi]⟩) (fun a hI => by
      show Lq2 _ _ = _
      have : a.size + t.text.size ≤ 1099511627776 := by rw [hI, List.take_length, zda, zcg]; omega
      rw [eq2_3, mostE]; simp (disch := omega) only [push_cast]
      rw [hI, List.take_length]; rfl) 0 (hd t.refs.length) (Nat.zero_le _) rfl
  rw [zr]; exact this
theorem zbc {t : Thing} {w : Int} (h : ThingOk t w) : 1 + szs t.refs + t.text.size ≤ 2241 ∧ t.refs.length ≤ 30 := by
  have h1 := h.refs; have h2 := h.text; have h3 := h.wd
  have : ∀ l : List Bs, (∀ r ∈ l, (r.size : Int) = w) → szs l ≤ 8 * l.length := by
    intro l
    induction l with
    | nil => intro _; simp [szs]
    | cons a l ih => intro hl; rw [zdo, List.length_cons]; have := hl a (by simp); have := ih fun r hr => hl r (by simp [hr]); omega
  have := this _ h.size
  omega
theorem zbg {t : Thing} {w : Int} (h : ThingOk t w) : Lq2 none [.s t.text, .l (encS t.refs)] = some [.s (formM t)] := by
  have := zbc h
  exact zee t (by omega) (by omega)
noncomputable def formT (t : Thing) (w : Int) : Bs := if zw t w = true then formM t else ⟨#[]⟩
theorem zb7 (t : Thing) (w : Int) : Lql none [.s t.text, .l (encS t.refs), .i w] = some [.s (formT t w)] := by
  rw [eql_i, zcj]
  unfold formT
  cases ht : zw t w
  · simp (disch := omega) only [push_cast] <;> rfl
  · simp (disch := omega) only [push_cast]
    have hk := zbc (zcl.1 ht)
    have := zt (f := fun (i : Nat) (a : Rw) => Lql (some 5) [.i (i : Int), .s t.text, .l (encS t.refs), .l a]) (n := t.refs.length) (T := some [.s (formM t)])
      (I := fun i a => bytesOf a = cat (hd t.refs.length) (t.refs.take i)) (fun i a hi hI => ⟨_, by
        show Lql _ _ = Lql _ _
        rw [eql_5, mostE]
        have : a.length + (nth .empty t.refs i).size ≤ 1 + szs t.refs := by
          rw [← zch, hI, ← zy, ← zdz _ _ _ hi, zda, zcg]
          have := zhz t.refs (i + 1); omega
        simp (disch := omega) only [push_cast, zds] <;> rfl, by show _ = _; rw [zbl, zct, hI, zdz _ _ _ hi]⟩) (fun a hI => by
        show Lql _ _ = _
        have : a.length + t.text.size ≤ 1099511627776 := by rw [← zch, hI, List.take_length, zda, zcg]; omega
        rw [eql_5, mostE]; simp (disch := omega) only [push_cast, zds]
        rw [zbl, zct, hI, List.take_length]; rfl) 0 [[.i (IntKind.u8.wrap (t.refs.length : Int))]] (Nat.zero_le _) rfl
    exact this
theorem zdk (s : Bs) (a b c d : Nat) : (s.extract a b).extract c d = s.extract (a + c) (min (a + d) b) := by
  apply Go.WideShapes.bytes_inj
  simp only [ByteArray.data_extract, Array.toList_extract, List.extract_eq_take_drop]
  apply List.ext_getElem?
  intro i
  simp only [List.getElem?_take, List.getElem?_drop]
  by_cases h1 : i < d - c
  · by_cases h2 : c + i < b - a
    · rw [if_pos h1, if_pos h2, if_pos (by omega)]; congr 1; omega
    · rw [if_pos h1, if_neg h2, if_neg (by omega)]
  · rw [if_neg h1, if_neg (by omega)]
def chunk (s : Bs) (w i : Nat) : Bs := s.extract (1 + i * w) (1 + i * w + w)
def parts (s : Bs) (w : Nat) : Thing := ⟨s.extract (1 + (byteAt s 0).toNat * w) s.size, (List.range (byteAt s 0).toNat).map (chunk s w)⟩
noncomputable def readT (s : Bs) (w : Int) : Option Thing :=
  if ze w = true ∧ 1 ≤ s.size ∧ 1 + (byteAt s 0).toNat * w.toNat ≤ s.size then (if zw (parts s w.toNat) w = true then some (parts s w.toNat) else none) else none
theorem zgv {s : Bs} {w : Int} (h : ze w = false) : readT s w = none := by unfold readT; rw [if_neg fun h1 => by rw [h] at h1; cases h1.1]
theorem ziq {s : Bs} {w : Int} (h : ¬ 1 ≤ s.size) : readT s w = none := by unfold readT; rw [if_neg fun h1 => h h1.2.1]
theorem zhb {s : Bs} {n k : Nat} (hk : byteAt s 0 = (k : Int)) (h : ¬ 1 + k * n ≤ s.size) : readT s n = none := by
  unfold readT; rw [if_neg fun h1 => h (by have := h1.2.2; rw [hk] at this; exact this)]
theorem zey {s : Bs} {n k : Nat} (hw : ze (n : Int) = true) (h0 : 1 ≤ s.size) (hk : byteAt s 0 = (k : Int)) (h : 1 + k * n ≤ s.size) :
    readT s n = if zw (parts s n) (n : Int) = true then some (parts s n) else none := by
  unfold readT; rw [if_pos ⟨hw, h0, by rw [hk]; exact h⟩]; rfl
def encOT : Option Thing → Lv
  | none => [.s ⟨#[]⟩, .b false, .l []]
  | some t => [.s t.text, .b true, .l (encS t.refs)]
theorem zia {b n : Nat} (hb : b ≤ 255) (hn : n ≤ 8) : b * n ≤ 2040 := by
  calc b * n ≤ 255 * 8 := Nat.mul_le_mul hb hn
    _ = 2040 := rfl
theorem ze8 {α : Type} (f : Nat → α) (i : Nat) : (List.range (i + 1)).map f = (List.range i).map f ++ [f i] := by rw [List.range_succ, List.map_append]; rfl
theorem zm6 (s : Bs) (w : Int) (hs : s.size ≤ 1099511627776) : Lqb6 none [.s s, .i w] = some (encOT (readT s w)) := by
  rw [eqb6_i, zbe]
  cases hw : ze w
  · simp (disch := omega) only [push_cast, zgv hw] <;> rfl
  have h8 := zp.1 hw
  obtain ⟨n, rfl⟩ : ∃ n : Nat, w = (n : Int) := ⟨w.toNat, by omega⟩
  have hb := zq s 0
  obtain ⟨k, hk⟩ : ∃ k : Nat, byteAt s 0 = (k : Int) := ⟨(byteAt s 0).toNat, by omega⟩
  by_cases h0 : 1 ≤ s.size
  · have hne : ¬ s = ⟨#[]⟩ := fun e => by rw [e] at h0; exact absurd h0 (by decide)
    have hkn := zia (b := k) (n := n) (by omega) (by omega)
    rw [hk]
    have hc : ((k : Int) * (n : Int)) = ((k * n : Nat) : Int) := by rw [Int.natCast_mul]
    generalize hq : k * n = q at hkn hc
    by_cases h1 : 1 + q ≤ s.size
    · simp (disch := omega) only [push_cast, hc]
      have := zt (f := fun (i : Nat) (a : Bs × List Bs) => Lqb6 (some 6) [.s a.1, .i (n : Int), .i ((k : Int) - (i : Int)), .s ⟨#[]⟩, .s ⟨#[]⟩, .l [], .l (encS a.2)]) (n := k) (T := some (encOT (if zw (parts s n) (n : Int) = true then some (parts s n) else none)))
        (I := fun i a => a.1 = s.extract (1 + i * n) s.size ∧ a.2 = (List.range i).map (chunk s n)) (fun i a hi hI => by
          have hin : i * n + n ≤ q := by rw [← hq, ← Nat.succ_mul]; exact Nat.mul_le_mul_right n hi
          have hr2 : (i + 1) * n = i * n + n := Nat.succ_mul i n
          have hl2 : a.2.length = i := by rw [hI.2]; simp
          have hch : chunk s n i = s.extract (1 + i * n) (1 + i * n + n) := rfl
          have hI1 := hI.1
          generalize hr : i * n = r at hin hr2 hch hI1
          have hsz : a.1.size = s.size - (1 + r) := by rw [hI1, size_extract]; omega
          refine ⟨(a.1.extract n a.1.size, a.2 ++ [a.1.extract 0 n]), ?_, ?_, ?_⟩
          · show Lqb6 _ _ = Lqb6 _ _
            rw [eqb6_6, mostE, show ((k : Int) - ((i + 1 : Nat) : Int)) = (k : Int) - (i : Int) - 1 by omega, ← zi]
            simp (disch := omega) only [push_cast, List.length_cons, List.length_nil] <;> rfl
          · show a.1.extract n a.1.size = s.extract (1 + (i + 1) * n) s.size
            rw [hsz, hI1, zdk, hr2]
            congr 1 <;> omega
          · show a.2 ++ [a.1.extract 0 n] = (List.range (i + 1)).map (chunk s n)
            rw [ze8, hI.2]
            congr 1
            rw [hI1, zdk, hch]
            congr 2; omega) (fun a hI => by
          show Lqb6 _ _ = _
          rw [eqb6_6]
          have e1 : a.1 = (parts s n).text := by rw [hI.1]; unfold parts; rw [hk]; rfl
          have e2 : a.2 = (parts s n).refs := by rw [hI.2]; unfold parts; rw [hk]; rfl
          rw [e1, e2]
          simp (disch := omega) only [push_cast, zbd]
          cases zw (parts s n) (n : Int) <;> rfl) 0 (s.extract 1 s.size, []) (Nat.zero_le _) ⟨by simp, rfl⟩
      rw [zey hw h0 hk (by rw [hq]; exact h1)]
      exact this
    · simp (disch := omega) only [push_cast, hc, zhb (n := n) hk (by rw [hq]; exact h1)] <;> rfl
  · have he : s = ⟨#[]⟩ := zk9.1 (by omega)
    subst he
    simp (disch := omega) only [push_cast, ziq h0] <;> rfl
theorem zlp (s : Bs) (w : Int) (hs : s.size ≤ 1099511627776) : Lqb8 none [.s s, .i w] = some (encOT (readT s w)) := by
  rw [eqb8_i, zo]
  cases hw : ze w
  · simp (disch := omega) only [push_cast, zgv hw] <;> rfl
  have h8 := zp.1 hw
  obtain ⟨n, rfl⟩ : ∃ n : Nat, w = (n : Int) := ⟨w.toNat, by omega⟩
  have hb := zq s 0
  obtain ⟨k, hk⟩ : ∃ k : Nat, byteAt s 0 = (k : Int) := ⟨(byteAt s 0).toNat, by omega⟩
  by_cases h0 : 1 ≤ s.size
  · have hkn := zia (b := k) (n := n) (by omega) (by omega)
    rw [hk]
    have hc : ((k : Int) * (n : Int)) = ((k * n : Nat) : Int) := by rw [Int.natCast_mul]
    generalize hq : k * n = q at hkn hc
    by_cases h1 : 1 + q ≤ s.size
    · simp (disch := omega) only [push_cast, hc]
      have := zt (f := fun (i : Nat) (a : List Bs) => Lqb8 (some 6) [.s s, .i (n : Int), .i (k : Int), .i (i : Int), .s ⟨#[]⟩, .s (s.extract (1 + q) s.size), .l [], .l (encS a)]) (n := k) (T := some (encOT (if zw (parts s n) (n : Int) = true then some (parts s n) else none)))
        (I := fun i a => a = (List.range i).map (chunk s n)) (fun i a hi hI => by
          have hin : i * n + n ≤ q := by rw [← hq, ← Nat.succ_mul]; exact Nat.mul_le_mul_right n hi
          have hl2 : a.length = i := by rw [hI]; simp
          have hc2 : ((i : Int) * (n : Int)) = ((i * n : Nat) : Int) := by rw [Int.natCast_mul]
          generalize hr : i * n = r at hin hc2
          refine ⟨a ++ [chunk s n i], ?_, ?_⟩
          · show Lqb8 _ _ = Lqb8 _ _
            rw [eqb8_6, mostE, ← zi]
            have t1 : ((1 : Int) + (r : Int)).toNat = 1 + r := by omega
            have t2 : ((1 : Int) + (r : Int) + (n : Int)).toNat = 1 + r + n := by omega
            have hch : chunk s n i = s.extract (1 + r) (1 + r + n) := by unfold chunk; rw [hr]
            rw [hch]
            simp (disch := omega) only [push_cast, hc2, List.length_cons, List.length_nil, t1, t2] <;> rfl
          · show _ = _
            rw [ze8, hI]) (fun a hI => by
          show Lqb8 _ _ = _
          rw [eqb8_6]
          have e1 : s.extract (1 + q) s.size = (parts s n).text := by unfold parts; rw [hk]; show _ = s.extract (1 + k * n) s.size; rw [hq]
          have e2 : a = (parts s n).refs := by rw [hI]; unfold parts; rw [hk]; rfl
          rw [e1, e2]
          simp (disch := omega) only [push_cast, zcj]
          cases zw (parts s n) (n : Int) <;> rfl) 0 [] (Nat.zero_le _) rfl
      rw [zey hw h0 hk (by rw [hq]; exact h1)]
      rw [show ((1 : Int) + (q : Int)).toNat = 1 + q by omega]
      exact this
    · simp (disch := omega) only [push_cast, hc, zhb (n := n) hk (by rw [hq]; exact h1)] <;> rfl
  · simp (disch := omega) only [push_cast, ziq h0] <;> rfl
end KV
end
section
namespace KV
open Go Go.Eng
open Classical
structure Entry where
  kind : Int
  sum : Bs
  name : Bs
  number : Int
  thing : Thing
abbrev E0 : Bs := ⟨#[]⟩
def encE (e : Entry) : Lv := [.i e.kind, .s e.sum, .s e.name, .i e.number, .s e.thing.text, .l (encS e.thing.refs)]
structure NameOk (s : Bs) : Prop where
  lo : 1 ≤ s.size
  hi : s.size ≤ 40
  by_ : ∀ j, 0 ≤ j → j < s.size → 33 ≤ byteAt s j ∧ byteAt s j ≤ 126
noncomputable def nameB (s : Bs) : Bool := decide (NameOk s)
theorem zh7 {s : Bs} : nameB s = true ↔ NameOk s := by simp [nameB]
theorem zgi (s : Bs) : (if (∀ j, 0 ≤ j → j < s.size → 33 ≤ byteAt s j ∧ byteAt s j ≤ 126) then cond (decide (1 ≤ (s.size : Int))) (some [Lf.b (decide ((s.size : Int) ≤ 40))]) (some [.b false]) else some [.b false]) = some [.b (nameB s)] := by
  unfold nameB
  by_cases h : ∀ j, 0 ≤ j → j < s.size → 33 ≤ byteAt s j ∧ byteAt s j ≤ 126
  · rw [if_pos h]
    by_cases h1 : 1 ≤ s.size
    · rw [show decide (1 ≤ (s.size : Int)) = true by simp; omega]
      by_cases h2 : s.size ≤ 40
      · rw [decide_eq_true (p := NameOk s) ⟨h1, h2, h⟩, show decide ((s.size : Int) ≤ 40) = true by simp; omega]; rfl
      · rw [decide_eq_false (p := NameOk s) fun h => h2 h.hi, show decide ((s.size : Int) ≤ 40) = false by simp; omega]; rfl
    · rw [decide_eq_false (p := NameOk s) fun h => h1 h.lo, show decide (1 ≤ (s.size : Int)) = false by simp; omega]; rfl
  · rw [if_neg h, decide_eq_false (p := NameOk s) fun h1 => h h1.by_]
theorem zgs (s : Bs) (hs : s.size ≤ 4611686018427387904) : Lqbo none [.s s] = some [.b (nameB s)] := by
  rw [eqbo_i]
  have := zn (f := fun i : Nat => Lqbo (some 2) [.s s, .i (s.size : Int), .i (i : Int)]) (n := s.size) (P := fun j => 33 ≤ byteAt s j ∧ byteAt s j ≤ 126) (F := some [.b false])
    (T := cond (decide (1 ≤ (s.size : Int))) (some [Lf.b (decide ((s.size : Int) ≤ 40))]) (some [.b false])) (fun i hi => by
      show (_ → Lqbo _ _ = _) ∧ (_ → Lqbo _ _ = _)
      rw [eqbo_2]
      by_cases h1 : 33 ≤ byteAt s i <;> by_cases h2 : byteAt s i ≤ 126 <;> simp (disch := omega) only [push_cast] <;> simp [h1, h2]) (by
      show Lqbo _ _ = _
      rw [eqbo_2, dlt_f (Nat.le_refl _)]; rfl) 0 (Nat.zero_le _)
  rw [zgi] at this
  exact this
theorem zgg (s : Bs) (hs : s.size ≤ 4611686018427387904) : Lqbp none [.s s] = some [.b (nameB s)] := by
  rw [eqbp_i]
  have := zn (f := fun i : Nat => Lqbp (some 2) [.s s, .i (i : Int)]) (n := s.size) (P := fun j => 33 ≤ byteAt s j ∧ byteAt s j ≤ 126) (F := some [.b false])
    (T := cond (decide (1 ≤ (s.size : Int))) (some [Lf.b (decide ((s.size : Int) ≤ 40))]) (some [.b false])) (fun i hi => by
      show (_ → Lqbp _ _ = _) ∧ (_ → Lqbp _ _ = _)
      rw [eqbp_2]
      by_cases h1 : 33 ≤ byteAt s i <;> by_cases h2 : byteAt s i ≤ 126 <;> simp (disch := omega) only [push_cast] <;> simp [h1, h2]) (by
      show Lqbp _ _ = _
      rw [eqbp_2, dlt_f (Nat.le_refl _)]; rfl) 0 (Nat.zero_le _)
  rw [zgi] at this
  exact this
def uS (k : Int) : Bool := decide (k = 2 ∨ k = 4 ∨ k = 7)
def uN (k : Int) : Bool := decide (k = 2 ∨ k = 3)
theorem znt (k : Int) : Lqcv none [.i k] = some [.b (uS k)] := by
  rw [eqcv_i]; unfold uS
  by_cases h1 : k = 2 <;> by_cases h2 : k = 4 <;> by_cases h3 : k = 7 <;> simp (disch := omega) only [push_cast] <;> simp [h1, h2, h3]
theorem znx (k : Int) : Lqcw none [.i k] = some [.b (uN k)] := by
  rw [eqcw_i]; unfold uN
  by_cases h1 : k = 2 <;> by_cases h2 : k = 3 <;> simp (disch := omega) only [push_cast] <;> simp [h1, h2]
noncomputable def sumB (k : Int) (s : Bs) (w : Int) : Bool := if uS k = true then decide ((s.size : Int) = w) else decide (s = E0)
noncomputable def namB (k : Int) (n : Bs) : Bool := if uN k = true then nameB n else decide (n = E0)
def numB (k m : Int) : Bool := if k = 1 ∨ k = 4 ∨ k = 6 then decide (1 ≤ m ∧ m ≤ 100000) else if k = 5 then decide (1 ≤ m ∧ m ≤ 1000000000) else decide (m = 0)
noncomputable def thgB (k : Int) (t : Thing) (w : Int) : Bool := if k = 1 then zw t w else decide (t.text = E0) && decide (t.refs.length = 0)
noncomputable def zd (e : Entry) (w : Int) : Bool := decide (1 ≤ e.kind ∧ e.kind ≤ 7) && (ze w && (sumB e.kind e.sum w && (namB e.kind e.name && (numB e.kind e.number && thgB e.kind e.thing w))))
theorem zcu (w lo hi k m : Int) (s n : Bs) (t : Thing) : Lqh (some 15) [.i w, .i lo, .i hi, .i k, .s s, .s n, .i m, .s t.text, .l (encS t.refs)] = some [.b (decide (lo ≤ m ∧ m ≤ hi) && thgB k t w)] := by
  rw [eqh_15]; unfold thgB
  by_cases h1 : lo ≤ m
  · by_cases h2 : m ≤ hi
    · by_cases h3 : k = 1
      · simp (disch := omega) only [push_cast, zbd, if_pos h3] <;> simp [h1, h2]
      · by_cases h4 : t.text = E0
        · simp (disch := omega) only [push_cast, if_neg h3] <;> simp [h1, h2, h4]
        · simp (disch := omega) only [push_cast, if_neg h3]; rw [decide_eq_false h4] <;> simp
    · simp (disch := omega) only [push_cast]; rw [decide_eq_false fun h => h2 h.2]; rfl
  · simp (disch := omega) only [push_cast]; rw [decide_eq_false fun h => h1 h.1]; rfl
theorem zna (w k m : Int) (s n : Bs) (t : Thing) (hk : 1 ≤ k ∧ k ≤ 7) : Lqh (some 7) [.i w, .i k, .s s, .s n, .i m, .s t.text, .l (encS t.refs)] = some [.b (numB k m && thgB k t w)] := by
  rw [eqh_7]; unfold numB
  have : k = 1 ∨ k = 2 ∨ k = 3 ∨ k = 4 ∨ k = 5 ∨ k = 6 ∨ k = 7 := by omega
  rcases this with h | h | h | h | h | h | h
  · subst h; simp (disch := omega) only [push_cast, zcu] <;> simp
  · subst h; simp (disch := omega) only [push_cast]; rw [eqh_13]; simp (disch := omega) only [push_cast, zcu]; rw [show decide (0 ≤ m ∧ m ≤ 0) = decide (m = 0) from decide_eq_decide.2 (by omega)] <;> simp
  · subst h; simp (disch := omega) only [push_cast]; rw [eqh_13]; simp (disch := omega) only [push_cast, zcu]; rw [show decide (0 ≤ m ∧ m ≤ 0) = decide (m = 0) from decide_eq_decide.2 (by omega)] <;> simp
  · subst h; simp (disch := omega) only [push_cast, zcu] <;> simp
  · subst h; simp (disch := omega) only [push_cast]; rw [eqh_13]; simp (disch := omega) only [push_cast, zcu] <;> simp
  · subst h; simp (disch := omega) only [push_cast, zcu] <;> simp
  · subst h; simp (disch := omega) only [push_cast]; rw [eqh_13]; simp (disch := omega) only [push_cast, zcu]; rw [show decide (0 ≤ m ∧ m ≤ 0) = decide (m = 0) from decide_eq_decide.2 (by omega)] <;> simp
theorem zj9 (w k m : Int) (s n : Bs) (t : Thing) (hk : 1 ≤ k ∧ k ≤ 7) (hn : n.size ≤ 4611686018427387904) : Lqh (some 5) [.i w, .i k, .s s, .s n, .i m, .s t.text, .l (encS t.refs)] = some [.b (namB k n && (numB k m && thgB k t w))] := by
  rw [eqh_5]; unfold namB
  rw [znx, zgs n hn, zna w k m s n t hk]
  cases hu : uN k
  · by_cases h : n = E0
    · subst h; simp (disch := omega) only [push_cast] <;> simp
    · simp (disch := omega) only [push_cast] <;> simp [h]
  · cases nameB n
    · simp (disch := omega) only [push_cast] <;> simp
    · simp (disch := omega) only [push_cast] <;> simp
theorem zfl (e : Entry) (w : Int) (hn : e.name.size ≤ 4611686018427387904) : Lqh none (encE e ++ [.i w]) = some [.b (zd e w)] := by
  show Lqh none [.i e.kind, .s e.sum, .s e.name, .i e.number, .s e.thing.text, .l (encS e.thing.refs), .i w] = _
  rw [eqh_i]; unfold zd
  by_cases h1 : 1 ≤ e.kind
  · by_cases h7 : e.kind ≤ 7
    · simp (disch := omega) only [push_cast, zbe, znt, zj9 w e.kind e.number e.sum e.name e.thing ⟨h1, h7⟩ hn]
      rw [decide_eq_true (show 1 ≤ e.kind ∧ e.kind ≤ 7 from ⟨h1, h7⟩), Bool.true_and]
      unfold sumB
      cases ze w
      · rfl
      · cases hu : uS e.kind
        · simp (disch := omega) only [push_cast]
          by_cases h : e.sum = E0
          · rw [cpos h]; simp [h]
          · rw [cneg h]; simp [h]
        · simp (disch := omega) only [push_cast]
          by_cases h : (e.sum.size : Int) = w
          · rw [cpos h]; simp [h]
          · rw [cneg h]; simp [h]
    · simp (disch := omega) only [push_cast]; rw [decide_eq_false fun h => h7 h.2]; rfl
  · simp (disch := omega) only [push_cast]; rw [decide_eq_false fun h => h1 h.1]; rfl
theorem zoj (w k m : Int) (s n : Bs) (t : Thing) (b : Bool) (hb : b = decide (k = 1)) : Lqw (some 8) [.i w, .b b, .i k, .s s, .s n, .i m, .s t.text, .l (encS t.refs)] = some [.b (thgB k t w)] := by
  subst hb
  rw [eqw_8]; unfold thgB
  by_cases h : k = 1
  · simp (disch := omega) only [push_cast, zcj, if_pos h]
  · simp (disch := omega) only [push_cast, if_neg h]
    by_cases h4 : t.text = E0
    · rw [cpos h4]; simp [h4]
    · rw [cneg h4]; simp [h4]
theorem zmn (w k m : Int) (s n : Bs) (t : Thing) (a b : Bool) (ha : a = uN k) (hb : b = decide (k = 1)) (hn : n.size ≤ 4611686018427387904) :
    Lqw (some 6) [.i w, .b a, .b b, .i k, .s s, .s n, .i m, .s t.text, .l (encS t.refs)] = some [.b (namB k n && thgB k t w)] := by
  subst ha
  rw [eqw_6, zgg n hn, zoj w k m s n t b hb]; unfold namB
  cases hu : uN k
  · simp (disch := omega) only [push_cast]
    by_cases h : n = E0
    · rw [cpos h]; simp [h]
    · rw [cneg h]; simp [h]
  · cases nameB n
    · simp (disch := omega) only [push_cast] <;> simp
    · simp (disch := omega) only [push_cast] <;> simp
theorem zjg (m u : Int) : Lqcq none [.i m, .i u] = some [.b (if u = 1 then decide (1 ≤ m ∧ m ≤ 100000) else if u = 2 then decide (1 ≤ m ∧ m ≤ 1000000000) else decide (m = 0))] := by
  rw [eqcq_i]
  by_cases h1 : u = 1
  · subst h1; simp (disch := omega) only [push_cast]
    by_cases h : 1 ≤ m
    · simp (disch := omega) only [push_cast] <;> simp [h]
    · simp (disch := omega) only [push_cast] <;> simp [h]
  · by_cases h2 : u = 2
    · subst h2; simp (disch := omega) only [push_cast]
      by_cases h : 1 ≤ m
      · simp (disch := omega) only [push_cast] <;> simp [h]
      · simp (disch := omega) only [push_cast] <;> simp [h]
    · simp (disch := omega) only [push_cast] <;> simp [h1, h2]
def nU (k : Int) : Int := if k = 1 ∨ k = 4 ∨ k = 6 then 1 else if k = 5 then 2 else 0
theorem zkr (k : Int) (hk : 1 ≤ k ∧ k ≤ 7) : Lqdm none [.i k] = some [.b (uS k), .b (uN k), .i (nU k), .b (decide (k = 1))] := by
  rw [eqdm_i]
  have : k = 1 ∨ k = 2 ∨ k = 3 ∨ k = 4 ∨ k = 5 ∨ k = 6 ∨ k = 7 := by omega
  rcases this with h | h | h | h | h | h | h <;> rw [h] <;> rfl
theorem zj6 (k m : Int) (hk : 1 ≤ k ∧ k ≤ 7) : Lqcq none [.i m, .i (nU k)] = some [.b (numB k m)] := by
  rw [zjg]
  have : k = 1 ∨ k = 2 ∨ k = 3 ∨ k = 4 ∨ k = 5 ∨ k = 6 ∨ k = 7 := by omega
  rcases this with h | h | h | h | h | h | h <;> rw [h] <;> rfl
theorem zfi (e : Entry) (w : Int) (hn : e.name.size ≤ 4611686018427387904) : Lqw none (encE e ++ [.i w]) = some [.b (zd e w)] := by
  show Lqw none [.i e.kind, .s e.sum, .s e.name, .i e.number, .s e.thing.text, .l (encS e.thing.refs), .i w] = _
  rw [eqw_i, zo]; unfold zd
  cases ze w
  · simp (disch := omega) only [push_cast] <;> simp
  by_cases h1 : 1 ≤ e.kind
  · by_cases h7 : e.kind ≤ 7
    · rw [decide_eq_true (show 1 ≤ e.kind ∧ e.kind ≤ 7 from ⟨h1, h7⟩), Bool.true_and, Bool.true_and]
      simp (disch := omega) only [push_cast, zkr e.kind ⟨h1, h7⟩, zj6 e.kind e.number ⟨h1, h7⟩, zmn w e.kind e.number e.sum e.name e.thing _ _ rfl rfl hn]
      unfold sumB
      cases hus : uS e.kind
      · by_cases h : e.sum = E0
        · cases numB e.kind e.number <;> simp (disch := omega) only [push_cast] <;> simp [h]
        · simp (disch := omega) only [push_cast] <;> simp [h]
      · by_cases h : (e.sum.size : Int) = w
        · cases numB e.kind e.number <;> simp (disch := omega) only [push_cast] <;> simp [h]
        · simp (disch := omega) only [push_cast] <;> simp [h]
    · simp (disch := omega) only [push_cast]; rw [decide_eq_false fun h => h7 h.2]; rfl
  · simp (disch := omega) only [push_cast]; rw [decide_eq_false fun h => h1 h.1]; rfl
end KV
end
section
namespace KV
open Go Go.Eng
open Classical
theorem EntryOk.kd {e : Entry} {w : Int} (h : zd e w = true) : 1 ≤ e.kind ∧ e.kind ≤ 7 := by
  unfold zd at h; simp only [Bool.and_eq_true, decide_eq_true_eq] at h; exact h.1
theorem EntryOk.wd {e : Entry} {w : Int} (h : zd e w = true) : ze w = true := by
  unfold zd at h; simp only [Bool.and_eq_true, decide_eq_true_eq] at h; exact h.2.1
theorem EntryOk.nm {e : Entry} {w : Int} (h : zd e w = true) : e.name.size ≤ 40 := by
  unfold zd namB at h; simp only [Bool.and_eq_true, decide_eq_true_eq] at h
  have := h.2.2.2.1
  split at this
  · exact (zh7.1 this).hi
  · have := of_decide_eq_true this; rw [this]; decide
theorem EntryOk.num {e : Entry} {w : Int} (h : zd e w = true) : 0 ≤ e.number ∧ e.number ≤ 1000000000 := by
  unfold zd numB at h; simp only [Bool.and_eq_true, decide_eq_true_eq] at h
  have := h.2.2.2.2.1
  split at this
  · have := of_decide_eq_true this; omega
  · split at this
    · have := of_decide_eq_true this; omega
    · have := of_decide_eq_true this; omega
theorem EntryOk.sum {e : Entry} {w : Int} (h : zd e w = true) : e.sum.size ≤ 8 := by
  have hw := zp.1 (EntryOk.wd h)
  unfold zd sumB at h; simp only [Bool.and_eq_true, decide_eq_true_eq] at h
  have := h.2.2.1
  split at this
  · have := of_decide_eq_true this; omega
  · have := of_decide_eq_true this; rw [this]; decide
theorem EntryOk.thing {e : Entry} {w : Int} (h : zd e w = true) (hk : e.kind = 1) : ThingOk e.thing w := by
  unfold zd thgB at h; simp only [Bool.and_eq_true, decide_eq_true_eq, if_pos hk] at h
  exact zcl.1 h.2.2.2.2.2
theorem EntryOk.nothing {e : Entry} {w : Int} (h : zd e w = true) (hk : e.kind ≠ 1) : e.thing = ⟨E0, []⟩ := by
  unfold zd thgB at h; simp only [Bool.and_eq_true, decide_eq_true_eq, if_neg hk] at h
  have h1 := h.2.2.2.2.2
  have a : e.thing.text = E0 := h1.1
  have b : e.thing.refs = [] := List.eq_nil_of_length_eq_zero h1.2
  have : e.thing = ⟨e.thing.text, e.thing.refs⟩ := rfl
  rw [this, a, b]
def hd6 (k m : Int) (n : Nat) : Bs := bytesOf [[.i k], [.i (m / 16777216)], [.i (m / 65536 % 256)], [.i (m / 256 % 256)], [.i (m % 256)], [.i (n : Int)]]
theorem zdc (k m : Int) (n : Nat) : (hd6 k m n).size = 6 := by rw [hd6, zch]; rfl
def formE (e : Entry) : Bs := hd6 e.kind e.number e.name.size ++ e.name ++ e.sum ++ (if e.kind = 1 then formM e.thing else E0)
theorem zdb (s : Bs) : s ++ E0 = s := by
  apply Go.WideShapes.bytes_inj; simp [ByteArray.data_append]
theorem zde (a b c : Bs) : a ++ b ++ c = a ++ (b ++ c) := by
  apply Go.WideShapes.bytes_inj; simp [ByteArray.data_append]
theorem zew {e : Entry} {w : Int} (h : zd e w = true) : (formE e).size ≤ 2295 ∧ 6 ≤ (formE e).size := by
  unfold formE
  rw [zy, zy, zy, zdc]
  have h1 := EntryOk.nm h; have h2 := EntryOk.sum h
  split
  · rename_i hk
    have h3 := zbc (EntryOk.thing h hk)
    rw [zbh]; omega
  · have : E0.size = 0 := rfl
    omega
theorem znq {m : Int} (h : 0 ≤ m ∧ m ≤ 1000000000) : IntKind.u8.wrap ((IntKind.u32.wrap m).fdiv (2 ^ 24)) = m / 16777216 ∧ IntKind.u8.wrap ((IntKind.u32.wrap m).fdiv (2 ^ 16)) = m / 65536 % 256 ∧ IntKind.u8.wrap ((IntKind.u32.wrap m).fdiv (2 ^ 8)) = m / 256 % 256 ∧ IntKind.u8.wrap (IntKind.u32.wrap m) = m % 256 := by
  have h1 : IntKind.u32.wrap m = m := IntWalk.u32_in m (by omega)
  rw [h1, Int.fdiv_eq_ediv_of_nonneg _ (by decide), Int.fdiv_eq_ediv_of_nonneg _ (by decide), Int.fdiv_eq_ediv_of_nonneg _ (by decide)]
  simp only [IntKind.wrap_u8]
  refine ⟨?_, ?_, ?_, trivial⟩
  · show m / 16777216 % 256 = _; omega
  · rfl
  · rfl
theorem zjq (e : Entry) (w : Int) (hn : e.name.size ≤ 4611686018427387904) : Lqcx none (encE e ++ [.i w]) = some [.s (if zd e w = true then formE e else E0)] := by
  show Lqcx none [.i e.kind, .s e.sum, .s e.name, .i e.number, .s e.thing.text, .l (encS e.thing.refs), .i w] = _
  rw [eqcx_i]
  rw [show Lqh none [.i e.kind, .s e.sum, .s e.name, .i e.number, .s e.thing.text, .l (encS e.thing.refs), .i w] = _ from zfl e w hn]
  cases he : zd e w
  · simp (disch := omega) only [push_cast] <;> rfl
  have hk := EntryOk.kd he; have hnm := EntryOk.nm he; have hsm := EntryOk.sum he; have hnum := EntryOk.num he
  obtain ⟨b1, b2, b3, b4⟩ := znq hnum
  have hap : Lqdk none [.i (IntKind.u32.wrap e.number), .l [[.i (IntKind.u8.wrap e.kind)]]] = some [.l [[.i e.kind], [.i (e.number / 16777216)], [.i (e.number / 65536 % 256)], [.i (e.number / 256 % 256)], [.i (e.number % 256)]]] := by
    rw [eqdk_i, b1, b2, b3, b4, w8 (by omega)]; rfl
  rw [hap, w8 (n := (e.name.size : Int)) (by omega)]
  have h6 : bytesOf ([[C.i e.kind], [.i (e.number / 16777216)], [.i (e.number / 65536 % 256)], [.i (e.number / 256 % 256)], [.i (e.number % 256)]] ++ [[.i (e.name.size : Int)]]) = hd6 e.kind e.number e.name.size := rfl
  simp (disch := omega) only [push_cast, List.length_cons, List.length_nil, h6, mostE, zy, zdc]
  unfold formE
  by_cases h1 : e.kind = 1
  · have h3 := zbc (EntryOk.thing he h1)
    have hs := zbh e.thing
    simp (disch := omega) only [push_cast, zbg (EntryOk.thing he h1), if_pos h1]
  · simp (disch := omega) only [push_cast, if_neg h1]; rw [zdb]
theorem zi3 {m : Int} (h : 0 ≤ m ∧ m ≤ 1000000000) : IntKind.u8.wrap (IntKind.i64.wrap (m.tdiv 16777216)) = m / 16777216 ∧ IntKind.u8.wrap ((IntKind.i64.wrap (m.tdiv 65536)).tmod 256) = m / 65536 % 256 ∧ IntKind.u8.wrap ((IntKind.i64.wrap (m.tdiv 256)).tmod 256) = m / 256 % 256 ∧ IntKind.u8.wrap (m.tmod 256) = m % 256 := by
  rw [Int.tdiv_eq_ediv_of_nonneg h.1, Int.tdiv_eq_ediv_of_nonneg h.1, Int.tdiv_eq_ediv_of_nonneg h.1, Int.tmod_eq_emod_of_nonneg h.1, w64 (by omega), w64 (by omega), w64 (by omega), Int.tmod_eq_emod_of_nonneg (by omega), Int.tmod_eq_emod_of_nonneg (by omega)]
  exact ⟨w8 (by omega), w8 (by omega), w8 (by omega), w8 (by omega)⟩
theorem zc1 (e : Entry) (w : Int) (hn : e.name.size ≤ 4611686018427387904) : Lqx none (encE e ++ [.i w]) = some [.s (if zd e w = true then formE e else E0)] := by
  show Lqx none [.i e.kind, .s e.sum, .s e.name, .i e.number, .s e.thing.text, .l (encS e.thing.refs), .i w] = _
  rw [eqx_i]
  rw [show Lqw none [.i e.kind, .s e.sum, .s e.name, .i e.number, .s e.thing.text, .l (encS e.thing.refs), .i w] = _ from zfi e w hn]
  cases he : zd e w
  · simp (disch := omega) only [push_cast] <;> rfl
  have hk := EntryOk.kd he; have hnm := EntryOk.nm he; have hsm := EntryOk.sum he; have hnum := EntryOk.num he
  obtain ⟨b1, b2, b3, b4⟩ := zi3 hnum
  rw [b1, b2, b3, b4, w8 (n := (e.name.size : Int)) (by omega), w8 (n := e.kind) (by omega)]
  generalize hr : ([[C.i e.kind], [.i (e.number / 16777216)], [.i (e.number / 65536 % 256)], [.i (e.number / 256 % 256)], [.i (e.number % 256)], [.i (e.name.size : Int)]] : Rw) = r
  have h6 : bytesOf r = hd6 e.kind e.number e.name.size := by rw [← hr]; rfl
  have hl : r.length = 6 := by rw [← hr]; rfl
  simp (disch := omega) only [push_cast, mostE, List.length_append, zds, hl]
  unfold formE
  by_cases h1 : e.kind = 1
  · have h3 := zbc (EntryOk.thing he h1)
    have hs := zbh e.thing
    simp (disch := omega) only [push_cast, zb7, formT, if_pos (zcl.2 (EntryOk.thing he h1)), zds, if_pos h1]
    rw [zbl, zbl, zbl, zct, zct, zct, h6]
  · simp (disch := omega) only [push_cast, if_neg h1]; rw [zdb, zbl, zbl, zct, zct, h6]
theorem zbu (s : Bs) {a b c : Nat} (h1 : a ≤ b) (h2 : b ≤ c) : s.extract a b ++ s.extract b c = s.extract a c := by
  apply Go.WideShapes.bytes_inj
  simp only [ByteArray.data_append, ByteArray.data_extract, Array.toList_append, Array.toList_extract, List.extract_eq_take_drop]
  apply List.ext_getElem?
  intro i
  rw [List.getElem?_append]
  simp only [List.length_take, List.length_drop, Array.length_toList, List.getElem?_take, List.getElem?_drop]
  have hs : ∀ j, s.data.size ≤ j → s.data.toList[j]? = none := fun j hj => List.getElem?_eq_none (by simpa using hj)
  by_cases h : i < min (b - a) (s.data.size - a)
  · rw [if_pos h, if_pos (by omega), if_pos (by omega)]
  · rw [if_neg h]
    by_cases h3 : i < c - a
    · by_cases h4 : b - a ≤ s.data.size - a
      · rw [if_pos h3, if_pos (by omega)]; congr 1; omega
      · rw [if_pos h3, hs (a + i) (by omega)]
        split
        · exact hs _ (by omega)
        · rfl
    · by_cases h4 : b - a ≤ s.data.size - a
      · rw [if_neg h3, if_neg (by omega)]
      · rw [if_neg h3]
        split
        · exact hs _ (by omega)
        · rfl
theorem zcm (s : Bs) : s.extract 0 s.size = s := by
  apply Go.WideShapes.bytes_inj
  simp only [ByteArray.data_extract, Array.toList_extract, List.extract_eq_take_drop]
  rw [List.drop_zero, Nat.sub_zero, List.take_of_length_le]
  show s.data.toList.length ≤ s.data.size
  rw [Array.length_toList]; exact Nat.le_refl _
theorem zca (s : Bs) (i : Nat) (h : i < s.size) : s.extract i (i + 1) = bytesOf [[.i (byteAt s i)]] := by
  apply Go.WideShapes.bytes_inj
  have h' : i < s.data.toList.length := by simpa using h
  simp only [ByteArray.data_extract, Array.toList_extract, List.extract_eq_take_drop]
  rw [List.drop_eq_getElem_cons h', show i + 1 - i = 1 by omega]
  simp only [List.take_succ_cons, List.take_zero]
  show _ = [UInt8.ofNat (byteAt s i).toNat]
  have : s.data.getD i 0 = s.data.toList[i] := by simp [Array.getD]; rw [dif_pos h]
  rw [byteAt, this, Int.toNat_natCast, UInt8.ofNat_toNat]
theorem zi1 {s : Bs} {w : Int} {t : Thing} (h : readT s w = some t) : formM t = s ∧ ThingOk t w := by
  unfold readT at h
  split at h
  · rename_i hc
    split at h
    · rename_i ht
      cases h
      refine ⟨?_, zcl.1 ht⟩
      have hb := zq s 0
      obtain ⟨k, hk⟩ : ∃ k : Nat, byteAt s 0 = (k : Int) := ⟨(byteAt s 0).toNat, by omega⟩
      have hkn : (byteAt s 0).toNat = k := by rw [hk]; rfl
      obtain ⟨hw, h0, h1⟩ := hc
      rw [hkn] at h1
      unfold formM parts
      simp only [List.length_map, List.length_range, hkn]
      have hcat : ∀ i, i ≤ k → cat (hd k) ((List.range i).map (chunk s w.toNat)) = s.extract 0 (1 + i * w.toNat) := by
        intro i
        induction i with
        | zero =>
          intro _
          rw [Nat.zero_mul, zca s 0 (by omega)]
          show hd k = _
          unfold hd
          rw [hk, w8 (by omega)]
        | succ i ih =>
          intro hi
          have hm : (i + 1) * w.toNat = i * w.toNat + w.toNat := Nat.succ_mul _ _
          have hm2 : (i + 1) * w.toNat ≤ k * w.toNat := Nat.mul_le_mul_right _ hi
          unfold cat at ih ⊢
          rw [ze8, List.foldl_append, ih (by omega)]
          show _ ++ chunk s w.toNat i = _
          unfold chunk
          rw [zbu s (by omega) (by omega), hm]; congr 1; omega
      rw [hcat k (Nat.le_refl _), zbu s (by omega) h1, zcm]
    · cases h
  · cases h
theorem zg2 (a b : Bs) (i j : Nat) (h : j ≤ a.size) : (a ++ b).extract i j = a.extract i j := by
  apply Go.WideShapes.bytes_inj
  simp only [ByteArray.data_append, ByteArray.data_extract, Array.toList_append, Array.toList_extract, List.extract_eq_take_drop]
  apply List.ext_getElem?
  intro n
  simp only [List.getElem?_take, List.getElem?_drop]
  have h' : j ≤ a.data.toList.length := by simpa using h
  split
  · rw [List.getElem?_append_left (by omega)]
  · rfl
theorem zdg (a b : Bs) (i j : Nat) : (a ++ b).extract (a.size + i) (a.size + j) = b.extract i j := by
  apply Go.WideShapes.bytes_inj
  simp only [ByteArray.data_append, ByteArray.data_extract, Array.toList_append, Array.toList_extract, List.extract_eq_take_drop]
  have h' : a.data.toList.length = a.size := by simp
  rw [List.drop_append, h', List.drop_of_length_le (by omega)]
  simp only [List.nil_append]
  congr 1
  · omega
  · congr 1; omega
theorem zgh (a b : Bs) (i : Nat) (h : i < a.size) : byteAt (a ++ b) i = byteAt a i := by
  unfold byteAt
  have h1 : i < a.data.size := h
  simp [Array.getD, ByteArray.data_append, Array.getElem_append]
  rw [dif_pos (by omega), dif_pos h, dif_pos h]
theorem zd8 (xs : Rw) (i : Nat) (n : Int) (h : xs[i]? = some [.i n]) (hn : 0 ≤ n ∧ n ≤ 255) : byteAt (bytesOf xs) i = n := by
  have hi : i < xs.length := by
    rcases Nat.lt_or_ge i xs.length with h1 | h1
    · exact h1
    · rw [List.getElem?_eq_none h1] at h; cases h
  have hx : xs[i] = [C.i n] := by rw [List.getElem?_eq_getElem hi] at h; exact Option.some.inj h
  unfold byteAt bytesOf
  simp only [Array.getD, List.size_toArray, List.length_map, hi, dite_true]
  simp only [Array.getInternal_eq_getElem, List.getElem_toArray, List.getElem_map, hx]
  simp only [List.getD_cons_zero, C.int]
  rw [UInt8.toNat_ofNat']; omega
theorem zfw (a : Bs) (l : List Bs) : cat a l = a ++ cat E0 l := by
  induction l generalizing a with
  | nil => exact (zdb a).symm
  | cons x l ih =>
    show cat (a ++ x) l = a ++ cat (E0 ++ x) l
    rw [ih (a ++ x), ih (E0 ++ x), zde]
    congr 1
theorem zhm (s : Bs) : E0 ++ s = s := by apply Go.WideShapes.bytes_inj; simp [ByteArray.data_append]
theorem zgd (w : Nat) : ∀ (l : List Bs) (x : Bs), (∀ r ∈ l, r.size = w) → ∀ i, i < l.length → (cat E0 l ++ x).extract (i * w) (i * w + w) = nth .empty l i
  | [], _, _, i, h => by simp at h
  | r :: l, x, hl, i, h => by
    have hr : r.size = w := hl r (by simp)
    have e : cat E0 (r :: l) = r ++ cat E0 l := by show cat (E0 ++ r) l = _; rw [zfw, zhm]
    rw [e, zde]
    cases i with
    | zero => rw [Nat.zero_mul, Nat.zero_add, zg2 _ _ _ _ (by omega), ← hr, zcm]; rfl
    | succ i =>
      have h1 := zgd w l x (fun r hr => hl r (by simp [hr])) i (by simpa using h)
      have e3 : (i + 1) * w + w = r.size + (i * w + w) := by rw [Nat.succ_mul]; omega
      have e2 : (i + 1) * w = r.size + i * w := by rw [Nat.succ_mul]; omega
      rw [e3, e2, zdg, zcq, h1]
theorem zmz {t : Thing} {w : Int} (h : ThingOk t w) : readT (formM t) w = some t := by
  have hw := h.wd
  obtain ⟨n, rfl⟩ : ∃ n : Nat, w = (n : Int) := ⟨w.toNat, by omega⟩
  have hsz : ∀ r ∈ t.refs, r.size = n := fun r hr => by have := h.size r hr; omega
  have hrf := h.refs
  have hs := zbh t
  have hk : byteAt (formM t) 0 = (t.refs.length : Int) := by
    unfold formM
    rw [zfw, zde, zgh _ _ _ (by rw [zcg]; omega)]
    unfold hd
    exact zd8 _ _ _ (by rw [w8 (by omega)]; rfl) (by omega)
  have hszs : ∀ l : List Bs, (∀ r ∈ l, r.size = n) → szs l = l.length * n := by
    intro l
    induction l with
    | nil => intro _; simp [szs]
    | cons a l ih => intro hl; rw [zdo, List.length_cons, Nat.succ_mul, ih fun r hr => hl r (by simp [hr]), hl a (by simp)]; omega
  have hz := hszs _ hsz
  have hp : parts (formM t) n = t := by
    unfold parts
    rw [hk, Int.toNat_natCast]
    obtain ⟨x, l⟩ := t
    simp only at hs hz hsz ⊢
    have hcs : (cat (hd l.length) l).size = 1 + l.length * n := by rw [zda, zcg, hz]
    congr 1
    · unfold formM; simp only
      have := zdg (cat (hd l.length) l) x 0 x.size
      rw [zcm, hcs, Nat.add_zero] at this
      rw [zy, hcs]; exact this
    · apply List.ext_getElem
      · simp
      · intro i h1 h2
        simp only [List.getElem_map, List.getElem_range]
        rw [← zh .empty l i h2, ← zgd n l x hsz i h2]
        unfold chunk formM; simp only
        rw [zfw, zde]
        have := zdg (hd l.length) (cat E0 l ++ x) (i * n) (i * n + n)
        rw [zcg] at this
        rw [← this]; congr 1; omega
  rw [zey (n := n) (zp.2 hw) (by omega) hk (by omega), hp, if_pos (zcl.2 h)]
def num4 (s : Bs) : Int := byteAt s 1 * 16777216 + byteAt s 2 * 65536 + byteAt s 3 * 256 + byteAt s 4
def nmEnd (s : Bs) : Nat := 6 + (byteAt s 5).toNat
noncomputable def readE (s : Bs) (w : Int) : Option Entry :=
  if ze w = true ∧ 6 ≤ s.size ∧ nmEnd s ≤ s.size then
    (if byteAt s 0 = 1 then (match readT (s.extract (nmEnd s) s.size) w with
      | none => none
      | some t => if zd ⟨1, E0, s.extract 6 (nmEnd s), num4 s, t⟩ w = true then some ⟨1, E0, s.extract 6 (nmEnd s), num4 s, t⟩ else none)
    else if zd ⟨byteAt s 0, s.extract (nmEnd s) s.size, s.extract 6 (nmEnd s), num4 s, ⟨E0, []⟩⟩ w = true then some ⟨byteAt s 0, s.extract (nmEnd s) s.size, s.extract 6 (nmEnd s), num4 s, ⟨E0, []⟩⟩ else none)
  else none
theorem zk4 (s : Bs) (h : 6 ≤ s.size) : hd6 (byteAt s 0) (num4 s) (byteAt s 5).toNat = s.extract 0 6 := by
  have b0 := zq s 0; have b1 := zq s 1; have b2 := zq s 2; have b3 := zq s 3; have b4 := zq s 4; have b5 := zq s 5
  unfold hd6 num4
  have e : ∀ a b c d e f : Int, bytesOf [[.i a], [.i b], [.i c], [.i d], [.i e], [.i f]] = bytesOf [[.i a]] ++ bytesOf [[.i b]] ++ bytesOf [[.i c]] ++ bytesOf [[.i d]] ++ bytesOf [[.i e]] ++ bytesOf [[.i f]] := fun a b c d e f => by
    rw [← zbl, ← zbl, ← zbl, ← zbl, ← zbl]; rfl
  have n1 : (byteAt s 1 * 16777216 + byteAt s 2 * 65536 + byteAt s 3 * 256 + byteAt s 4) / 16777216 = byteAt s 1 := by omega
  have n2 : (byteAt s 1 * 16777216 + byteAt s 2 * 65536 + byteAt s 3 * 256 + byteAt s 4) / 65536 % 256 = byteAt s 2 := by omega
  have n3 : (byteAt s 1 * 16777216 + byteAt s 2 * 65536 + byteAt s 3 * 256 + byteAt s 4) / 256 % 256 = byteAt s 3 := by omega
  have n4 : (byteAt s 1 * 16777216 + byteAt s 2 * 65536 + byteAt s 3 * 256 + byteAt s 4) % 256 = byteAt s 4 := by omega
  have n5 : (((byteAt s 5).toNat : Nat) : Int) = byteAt s 5 := by omega
  rw [n1, n2, n3, n4, n5, e, ← zca s 0 (by omega), ← zca s 1 (by omega), ← zca s 2 (by omega), ← zca s 3 (by omega), ← zca s 4 (by omega), ← zca s 5 (by omega)]
  rw [zbu s (by omega) (by omega), zbu s (by omega) (by omega), zbu s (by omega) (by omega), zbu s (by omega) (by omega), zbu s (by omega) (by omega)]
theorem zl7 (s : Bs) : 0 ≤ num4 s ∧ num4 s < 4294967296 := by
  have b1 := zq s 1; have b2 := zq s 2; have b3 := zq s 3; have b4 := zq s 4
  unfold num4; omega
theorem zet (s : Bs) (x : Thing) (h6 : 6 ≤ s.size) (h : nmEnd s ≤ s.size) (a : Bs) (hx : (if byteAt s 0 = 1 then formM x else E0) = (if byteAt s 0 = 1 then s.extract (nmEnd s) s.size else E0)) (ha : a = if byteAt s 0 = 1 then E0 else s.extract (nmEnd s) s.size) :
    formE ⟨byteAt s 0, a, s.extract 6 (nmEnd s), num4 s, x⟩ = s := by
  unfold formE
  simp only
  have hn : (s.extract 6 (nmEnd s)).size = (byteAt s 5).toNat := by rw [size_extract]; unfold nmEnd at h ⊢; omega
  rw [hn, zk4 s h6, zbu s (by omega) (by unfold nmEnd; omega), hx, ha]
  split
  · rw [zdb, zbu s (by omega) h, zcm]
  · rw [zdb, zbu s (by omega) h, zcm]
theorem ze0 {s : Bs} {w : Int} {e : Entry} (h : readE s w = some e) : formE e = s ∧ zd e w = true := by
  unfold readE at h
  split at h
  · rename_i hc
    obtain ⟨hw, h6, hl⟩ := hc
    split at h
    · rename_i h1
      cases ht : readT (s.extract (nmEnd s) s.size) w with
      | none => rw [ht] at h; cases h
      | some t =>
        rw [ht] at h
        simp only at h
        split at h
        · rename_i he
          cases h
          refine ⟨?_, he⟩
          have := zet s t h6 hl E0 (by rw [if_pos h1, if_pos h1, (zi1 ht).1]) (by rw [if_pos h1])
          rw [h1] at this; exact this
        · cases h
    · rename_i h1
      split at h
      · rename_i he
        cases h
        exact ⟨zet s ⟨E0, []⟩ h6 hl _ (by rw [if_neg h1, if_neg h1]) (by rw [if_neg h1]), he⟩
      · cases h
  · cases h
theorem zmi {k m : Int} {n : Nat} (x : Bs) (hk : 0 ≤ k ∧ k ≤ 255) (hm : 0 ≤ m ∧ m < 4294967296) (hn : n ≤ 255) :
    byteAt (hd6 k m n ++ x) 0 = k ∧ num4 (hd6 k m n ++ x) = m ∧ byteAt (hd6 k m n ++ x) 5 = n := by
  have hs := zdc k m n
  have b : ∀ i v, i < 6 → ([[C.i k], [.i (m / 16777216)], [.i (m / 65536 % 256)], [.i (m / 256 % 256)], [.i (m % 256)], [.i (n : Int)]] : Rw)[i]? = some [.i v] → (0 ≤ v ∧ v ≤ 255) → byteAt (hd6 k m n ++ x) i = v := fun i v hi h1 h2 => by
    rw [zgh _ _ _ (by omega)]; exact zd8 _ _ _ h1 h2
  refine ⟨b 0 k (by omega) rfl hk, ?_, b 5 n (by omega) rfl (by omega)⟩
  unfold num4
  rw [b 1 (m / 16777216) (by omega) rfl (by omega), b 2 (m / 65536 % 256) (by omega) rfl (by omega), b 3 (m / 256 % 256) (by omega) rfl (by omega), b 4 (m % 256) (by omega) rfl (by omega)]
  omega
theorem ze3 {e : Entry} {w : Int} (h : zd e w = true) : readE (formE e) w = some e := by
  have hk := EntryOk.kd h; have hnm := EntryOk.nm h; have hsm := EntryOk.sum h; have hnum := EntryOk.num h
  have hform : formE e = hd6 e.kind e.number e.name.size ++ (e.name ++ (e.sum ++ (if e.kind = 1 then formM e.thing else E0))) := by unfold formE; rw [zde, zde]
  obtain ⟨c0, c1, c2⟩ := zmi (k := e.kind) (m := e.number) (n := e.name.size) (e.name ++ (e.sum ++ (if e.kind = 1 then formM e.thing else E0))) (by omega) (by omega) (by omega)
  rw [← hform] at c0 c1 c2
  have hs : (formE e).size = 6 + (e.name.size + (e.sum.size + (if e.kind = 1 then formM e.thing else E0).size)) := by rw [hform, zy, zy, zy, zdc]
  have hend : nmEnd (formE e) = 6 + e.name.size := by unfold nmEnd; rw [c2]; rfl
  have x1 : (formE e).extract 6 (6 + e.name.size) = e.name := by
    have := zdg (hd6 e.kind e.number e.name.size) (e.name ++ (e.sum ++ (if e.kind = 1 then formM e.thing else E0))) 0 e.name.size
    rw [← hform, zdc] at this
    rw [show (6 : Nat) = 6 + 0 from rfl, show 6 + 0 + e.name.size = 6 + e.name.size by omega, this, zg2 _ _ _ _ (Nat.le_refl _), zcm]
  have x2 : (formE e).extract (6 + e.name.size) (formE e).size = e.sum ++ (if e.kind = 1 then formM e.thing else E0) := by
    have h1 := zdg (hd6 e.kind e.number e.name.size) (e.name ++ (e.sum ++ (if e.kind = 1 then formM e.thing else E0))) (e.name.size + 0) (e.name.size + (e.sum ++ (if e.kind = 1 then formM e.thing else E0)).size)
    have h2 := zdg e.name (e.sum ++ (if e.kind = 1 then formM e.thing else E0)) 0 (e.sum ++ (if e.kind = 1 then formM e.thing else E0)).size
    rw [zcm] at h2
    rw [h2, ← hform, zdc] at h1
    rw [hs, ← h1, zy]; congr 1
  unfold readE
  rw [if_pos ⟨EntryOk.wd h, by omega, by rw [hend]; omega⟩, hend, x1, x2, c0, c1]
  obtain ⟨k, sm, nm, m, t⟩ := e
  simp only at *
  by_cases h1 : k = 1
  · have hsum : sm = E0 := by
      unfold zd sumB uS at h; simp only [Bool.and_eq_true, decide_eq_true_eq] at h
      have := h.2.2.1
      rw [if_neg (by omega)] at this
      exact of_decide_eq_true this
    rw [if_pos h1, if_pos h1, hsum, zhm, zmz (EntryOk.thing h h1)]
    subst h1; subst hsum
    simp only
    rw [if_pos h]
  · have ht : t = ⟨E0, []⟩ := EntryOk.nothing h h1
    subst ht
    rw [if_neg h1, if_neg h1, zdb, if_pos h]
end KV
end
section
namespace KV
open Go Go.Eng
open Classical
def encOE : Option Entry → Lv
  | none => [.i 0, .s E0, .s E0, .i 0, .s E0, .b false, .l []]
  | some e => [.i e.kind, .s e.sum, .s e.name, .i e.number, .s e.thing.text, .b true, .l (encS e.thing.refs)]
theorem or32 {x y k : Nat} (hx : x < 2 ^ k) (hy : 2 ^ k * y < 4294967296) (hk : 2 ^ k ≤ 4294967296) :
    IntKind.u32.wrap ((BitVec.ofInt IntKind.u32.bits ((x : Nat) : Int) ||| BitVec.ofInt IntKind.u32.bits ((2 ^ k * y : Nat) : Int)).toNat : Int) = ((2 ^ k * y + x : Nat) : Int) := by
  show IntKind.u32.wrap ((BitVec.ofInt 32 ((x : Nat) : Int) ||| BitVec.ofInt 32 ((2 ^ k * y : Nat) : Int)).toNat : Int) = _
  rw [BitVec.toNat_or, BitVec.toNat_ofInt, BitVec.toNat_ofInt]
  have e1 : (((x : Nat) : Int) % ((2 ^ 32 : Nat) : Int)).toNat = x := by
    rw [Int.emod_eq_of_lt (by omega) (by have : (2 ^ 32 : Nat) = 4294967296 := rfl; omega)]; rfl
  have e2 : (((2 ^ k * y : Nat) : Int) % ((2 ^ 32 : Nat) : Int)).toNat = 2 ^ k * y := by
    rw [Int.emod_eq_of_lt (by omega) (by have : (2 ^ 32 : Nat) = 4294967296 := rfl; omega)]; rfl
  rw [e1, e2, Nat.or_comm, ← Nat.two_pow_add_eq_or_of_lt hx]
  have hor := Nat.two_pow_add_eq_or_of_lt hx y
  have : 2 ^ k * y + x < 4294967296 := by
    have h1 : 2 ^ k * y ||| x < 2 ^ 32 := Nat.or_lt_two_pow (by simpa using hy) (by simpa using Nat.lt_of_lt_of_le hx hk)
    rw [← hor] at h1; simpa using h1
  exact IntWalk.u32_in _ (by omega)
theorem zju (s : Bs) (i : Nat) (h : i < s.size) : (rd (rowsOf s) i 0).int = byteAt s i := by
  unfold rowsOf
  rw [zfs _ (0 : UInt8) _ _ _ (by simpa using h)]
  unfold byteAt nth
  simp only [List.getD_cons_zero, C.int]
  congr 2
  rw [List.getD_eq_getElem?_getD]; simp [Array.getD]
  rw [dif_pos h, Array.getElem?_eq_getElem h]; rfl
theorem zn3 (s : Bs) (a b i : Nat) (h : a + i < b) (hb : b ≤ s.size) : byteAt (s.extract a b) i = byteAt s (a + i) := by
  have e1 := zca (s.extract a b) i (by rw [size_extract]; omega)
  have e2 := zca s (a + i) (by omega)
  rw [zdk, show a + (i + 1) = a + i + 1 by omega, Nat.min_eq_left (by omega), e2] at e1
  have r1 := zq s (a + i); have r2 := zq (s.extract a b) i
  have h1 := zd8 [[.i (byteAt s (a + i))]] 0 _ rfl (by omega)
  have h2 := zd8 [[.i (byteAt (s.extract a b) i)]] 0 _ rfl (by omega)
  rw [← h1, ← h2, e1]
theorem zfm (s : Bs) (h : 6 ≤ s.size) : Lqdf none [.l (rowsOf (s.extract 1 5))] = some [.i (num4 s)] := by
  rw [eqdf_i]
  have hl : (rowsOf (s.extract 1 5)).length = 4 := by rw [zds, size_extract]; omega
  have hz : (s.extract 1 5).size = 4 := by rw [size_extract]; omega
  have c : ∀ i, i < 4 → (rd (rowsOf (s.extract 1 5)) i 0).int = byteAt s (1 + i) := fun i hi => by
    rw [zju _ _ (by omega), zn3 s 1 5 i (by omega) (by omega)]
  have b1 := zq s 1; have b2 := zq s 2; have b3 := zq s 3; have b4 := zq s 4
  rw [c 0 (by omega), c 1 (by omega), c 2 (by omega), c 3 (by omega)]
  unfold num4
  simp only [Nat.add_zero, show 1 + 1 = 2 from rfl, show 1 + 2 = 3 from rfl, show 1 + 3 = 4 from rfl]
  obtain ⟨x1, h1⟩ : ∃ x : Nat, byteAt s 1 = (x : Int) := ⟨(byteAt s 1).toNat, by omega⟩
  obtain ⟨x2, h2⟩ : ∃ x : Nat, byteAt s 2 = (x : Int) := ⟨(byteAt s 2).toNat, by omega⟩
  obtain ⟨x3, h3⟩ : ∃ x : Nat, byteAt s 3 = (x : Int) := ⟨(byteAt s 3).toNat, by omega⟩
  obtain ⟨x4, h4⟩ : ∃ x : Nat, byteAt s 4 = (x : Int) := ⟨(byteAt s 4).toNat, by omega⟩
  rw [h1] at b1 ⊢; rw [h2] at b2 ⊢; rw [h3] at b3 ⊢; rw [h4] at b4 ⊢
  have u : ∀ n : Int, 0 ≤ n ∧ n ≤ 4294967295 → IntKind.u32.wrap n = n := IntWalk.u32_in
  rw [u (x1 : Int) (by omega), u (x2 : Int) (by omega), u (x3 : Int) (by omega), u (x4 : Int) (by omega)]
  rw [show ((x3 : Int) * 2 ^ 8) = ((2 ^ 8 * x3 : Nat) : Int) by omega, show ((x2 : Int) * 2 ^ 16) = ((2 ^ 16 * x2 : Nat) : Int) by omega, show ((x1 : Int) * 2 ^ 24) = ((2 ^ 24 * x1 : Nat) : Int) by omega]
  rw [u ((2 ^ 8 * x3 : Nat) : Int) (by omega), u ((2 ^ 16 * x2 : Nat) : Int) (by omega), u ((2 ^ 24 * x1 : Nat) : Int) (by omega)]
  rw [or32 (x := x4) (y := x3) (k := 8) (by omega) (by omega) (by omega), or32 (x := 2 ^ 8 * x3 + x4) (y := x2) (k := 16) (by omega) (by omega) (by omega), or32 (x := 2 ^ 16 * x2 + (2 ^ 8 * x3 + x4)) (y := x1) (k := 24) (by omega) (by omega) (by omega)]
  simp only [hl, show inb 3 4 = true from rfl, show inb 2 4 = true from rfl, show inb 1 4 = true from rfl, show inb 0 4 = true from rfl, cond_true]
  congr 3; omega
theorem zez {s : Bs} {w : Int} (h : ze w = false) : readE s w = none := by unfold readE; rw [if_neg fun h1 => by rw [h] at h1; cases h1.1]
theorem zhr {s : Bs} {w : Int} (h : ¬ 6 ≤ s.size) : readE s w = none := by unfold readE; rw [if_neg fun h1 => h h1.2.1]
theorem zh0 {s : Bs} {w : Int} (h : ¬ nmEnd s ≤ s.size) : readE s w = none := by unfold readE; rw [if_neg fun h1 => h h1.2.2]
theorem zl6 (s : Bs) (w : Int) (hs : s.size ≤ 1099511627776) : Lqdg none [.s s, .i w] = some (encOE (readE s w)) := by
  rw [eqdg_i, zbe]
  by_cases h6 : 6 ≤ s.size
  · cases hw : ze w
    · simp (disch := omega) only [push_cast, zez hw] <;> rfl
    have b5 := zq s 5; have b0 := zq s 0
    have hz : (s.extract 6 s.size).size = s.size - 6 := by rw [size_extract]; omega
    have hnm := zl7 s
    by_cases hn : nmEnd s ≤ s.size
    · have hn' : 6 + byteAt s 5 ≤ s.size := by unfold nmEnd at hn; omega
      have x1 : (s.extract 6 s.size).extract 0 (byteAt s 5).toNat = s.extract 6 (nmEnd s) := by rw [zdk]; unfold nmEnd; congr 1; omega
      have x2 : (s.extract 6 s.size).extract (byteAt s 5).toNat (s.size - 6) = s.extract (nmEnd s) s.size := by rw [zdk]; unfold nmEnd; congr 1; omega
      have hsz : (s.extract 6 (nmEnd s)).size ≤ 4611686018427387904 := by rw [size_extract]; omega
      unfold readE
      rw [if_pos ⟨hw, h6, hn⟩]
      by_cases h1 : byteAt s 0 = 1
      · simp (disch := omega) only [push_cast, hz, zfm s h6, x1, x2, if_pos h1]
        rw [zm6 _ _ (by rw [size_extract]; omega)]
        cases ht : readT (s.extract (nmEnd s) s.size) w with
        | none => simp (disch := omega) only [push_cast, encOT] <;> rfl
        | some t =>
          have := zfl ⟨1, E0, s.extract 6 (nmEnd s), num4 s, t⟩ w hsz
          rw [← h1] at this
          simp (disch := omega) only [push_cast, encOT, show Lqh none [.i (byteAt s 0), .s E0, .s (s.extract 6 (nmEnd s)), .i (num4 s), .s t.text, .l (encS t.refs), .i w] = _ from this]
          rw [h1]
          cases zd ⟨1, E0, s.extract 6 (nmEnd s), num4 s, t⟩ w <;> rfl
      · have := zfl ⟨byteAt s 0, s.extract (nmEnd s) s.size, s.extract 6 (nmEnd s), num4 s, ⟨E0, []⟩⟩ w hsz
        simp (disch := omega) only [push_cast, hz, zfm s h6, x1, x2, if_neg h1, show Lqh none [.i (byteAt s 0), .s (s.extract (nmEnd s) s.size), .s (s.extract 6 (nmEnd s)), .i (num4 s), .s E0, .l [], .i w] = _ from this]
        cases zd ⟨byteAt s 0, s.extract (nmEnd s) s.size, s.extract 6 (nmEnd s), num4 s, ⟨E0, []⟩⟩ w <;> rfl
    · have hn' : ¬ 6 + byteAt s 5 ≤ s.size := by unfold nmEnd at hn; omega
      simp (disch := omega) only [push_cast, hz, zfm s h6, zh0 hn] <;> rfl
  · simp (disch := omega) only [push_cast, zhr h6] <;> rfl
theorem ze1 (s : Bs) (w k : Int) (a nm : Bs) (m : Int) (t : Thing) (z1 z2 : Int) (y1 y2 y3 : Bs) (y4 : Rw) (hn : nm.size ≤ 4611686018427387904) :
    Lqcf (some 9) [.s s, .i w, .i z1, .s y1, .s y2, .i z2, .s y3, .i k, .s a, .s nm, .i m, .s t.text, .l (encS t.refs), .l y4] = some (if zd ⟨k, a, nm, m, t⟩ w = true ∧ formE ⟨k, a, nm, m, t⟩ = s then encOE (some ⟨k, a, nm, m, t⟩) else encOE none) := by
  rw [eqcf_9]
  have h1 := zfi ⟨k, a, nm, m, t⟩ w hn
  have h2 := zc1 ⟨k, a, nm, m, t⟩ w hn
  simp (disch := omega) only [push_cast, show Lqw none [.i k, .s a, .s nm, .i m, .s t.text, .l (encS t.refs), .i w] = _ from h1, show Lqx none [.i k, .s a, .s nm, .i m, .s t.text, .l (encS t.refs), .i w] = _ from h2]
  cases he : zd ⟨k, a, nm, m, t⟩ w
  · simp (disch := omega) only [push_cast]
    rw [if_neg fun h => by cases h.1]; rfl
  · by_cases hf : formE ⟨k, a, nm, m, t⟩ = s
    · simp (disch := omega) only [push_cast]; rw [if_pos ⟨trivial, hf⟩]; rfl
    · simp (disch := omega) only [push_cast]; rw [if_neg fun h => hf h.2]; rfl
theorem zmc (s : Bs) (w : Int) (hs : s.size ≤ 1099511627776) : Lqcf none [.s s, .i w] = some (encOE (readE s w)) := by
  rw [eqcf_i, zo]
  cases hw : ze w
  · simp (disch := omega) only [push_cast, zez hw] <;> rfl
  by_cases h6 : 6 ≤ s.size
  · have b5 := zq s 5; have b0 := zq s 0; have b1 := zq s 1; have b2 := zq s 2; have b3 := zq s 3; have b4 := zq s 4
    by_cases hn : nmEnd s ≤ s.size
    · have hn' : 6 + byteAt s 5 ≤ s.size := by unfold nmEnd at hn; omega
      have hne : (6 + byteAt s 5).toNat = nmEnd s := by unfold nmEnd; omega
      have hsz : (s.extract 6 (nmEnd s)).size ≤ 4611686018427387904 := by rw [size_extract]; omega
      have hnum : byteAt s 1 * 16777216 + byteAt s 2 * 65536 + byteAt s 3 * 256 + byteAt s 4 = num4 s := rfl
      have hnn : (6 : Int) ≤ (nmEnd s : Int) := by unfold nmEnd; omega
      unfold readE
      rw [if_pos ⟨hw, h6, hn⟩]
      by_cases h1 : byteAt s 0 = 1
      · simp (disch := omega) only [push_cast, hne, hnum, if_pos h1]
        rw [zlp _ _ (by rw [size_extract]; omega)]
        cases ht : readT (s.extract (nmEnd s) s.size) w with
        | none =>
          simp (disch := omega) only [push_cast, encOT]
          have := ze1 s w (byteAt s 0) E0 (s.extract 6 (nmEnd s)) (num4 s) ⟨E0, []⟩ 0 0 E0 E0 E0 [] hsz
          rw [show Lqcf (some 9) [.s s, .i w, .i 0, .s E0, .s E0, .i 0, .s E0, .i (byteAt s 0), .s E0, .s (s.extract 6 (nmEnd s)), .i (num4 s), .s E0, .l [], .l []] = _ from this]
          rw [if_neg]
          rintro ⟨he, hf⟩
          have h2 := ze3 he
          rw [hf] at h2
          unfold readE at h2
          rw [if_pos ⟨hw, h6, hn⟩, if_pos h1, ht] at h2
          cases h2
        | some t =>
          simp (disch := omega) only [push_cast, encOT]
          rw [ze1 _ _ _ _ _ _ t _ _ _ _ _ _ hsz, h1]
          by_cases he : zd ⟨1, E0, s.extract 6 (nmEnd s), num4 s, t⟩ w = true
          · have hf := zet s t h6 hn E0 (by rw [if_pos h1, if_pos h1, (zi1 ht).1]) (by rw [if_pos h1])
            rw [h1] at hf
            rw [if_pos ⟨he, hf⟩, if_pos he]
          · rw [if_neg fun h => he h.1, if_neg he]
      · simp (disch := omega) only [push_cast, hne, hnum, if_neg h1]
        have := ze1 s w (byteAt s 0) (s.extract (nmEnd s) s.size) (s.extract 6 (nmEnd s)) (num4 s) ⟨E0, []⟩ 0 0 E0 E0 E0 [] hsz
        rw [show Lqcf (some 9) [.s s, .i w, .i 0, .s E0, .s E0, .i 0, .s E0, .i (byteAt s 0), .s (s.extract (nmEnd s) s.size), .s (s.extract 6 (nmEnd s)), .i (num4 s), .s E0, .l [], .l []] = _ from this]
        by_cases he : zd ⟨byteAt s 0, s.extract (nmEnd s) s.size, s.extract 6 (nmEnd s), num4 s, ⟨E0, []⟩⟩ w = true
        · have hf := zet s ⟨E0, []⟩ h6 hn (s.extract (nmEnd s) s.size) (by rw [if_neg h1, if_neg h1]) (by rw [if_neg h1])
          rw [if_pos ⟨he, hf⟩, if_pos he]
        · rw [if_neg fun h => he h.1, if_neg he]
    · have hn' : ¬ 6 + byteAt s 5 ≤ s.size := by unfold nmEnd at hn; omega
      simp (disch := omega) only [push_cast, zh0 hn] <;> rfl
  · simp (disch := omega) only [push_cast, zhr h6] <;> rfl
end KV
end
section
namespace KV
open Go Go.Eng
open Classical
structure Kept where
  sum : Bs
  born : Int
  thing : Thing
structure Pin where
  name : Bs
  sum : Bs
structure Lease where
  number : Int
  sum : Bs
  till : Int
structure State where
  width : Int
  now : Int
  given : Int
  births : Int
  things : List Kept
  pins : List Pin
  leases : List Lease
def K0 : Kept := ⟨.empty, 0, ⟨.empty, []⟩⟩
def P0 : Pin := ⟨.empty, .empty⟩
def L0 : Lease := ⟨0, .empty, 0⟩
def cK (k : Kept) : List C := [.s k.sum, .i k.born, .s k.thing.text, .l (encS k.thing.refs)]
def cP (p : Pin) : List C := [.s p.name, .s p.sum]
def cL (l : Lease) : List C := [.i l.number, .s l.sum, .i l.till]
def encK (l : List Kept) : Rw := l.map cK
def encP (l : List Pin) : Rw := l.map cP
def encL (l : List Lease) : Rw := l.map cL
def encSt (s : State) : Lv := [.i s.width, .i s.now, .i s.given, .i s.births, .l (encK s.things), .l (encP s.pins), .l (encL s.leases)]
@[push_cast] theorem zcv (l : List Kept) : (encK l).length = l.length := by simp [encK]
@[push_cast] theorem zbp (l : List Pin) : (encP l).length = l.length := by simp [encP]
@[push_cast] theorem zbv (l : List Lease) : (encL l).length = l.length := by simp [encL]
theorem zit {α : Type} (d : α) (l : List α) (i : Nat) (h : l.length ≤ i) : nth d l i = d := by
  rw [nth, List.getD_eq_getElem?_getD, List.getElem?_eq_none h]; rfl
theorem zbb {α β : Type} (f : α → List C) (d : α) (l : List α) (i o : Nat) (g : C → β) (h : g (.i 0) = g ((f d).getD o (.i 0))) : g (rd (l.map f) i o) = g ((f (nth d l i)).getD o (.i 0)) := by
  rcases Nat.lt_or_ge i l.length with h1 | h1
  · rw [zfs f d _ _ _ h1]
  · rw [zfx _ _ _ _ h1, zit d l i h1, h]
@[push_cast] theorem zo3 (l : List Kept) (i : Nat) : (rd (encK l) i 0).str = (nth K0 l i).sum := zbb cK K0 l i 0 C.str rfl
@[push_cast] theorem zoy (l : List Kept) (i : Nat) : (rd (encK l) i 1).int = (nth K0 l i).born := zbb cK K0 l i 1 C.int rfl
@[push_cast] theorem zou (l : List Kept) (i : Nat) : (rd (encK l) i 2).str = (nth K0 l i).thing.text := zbb cK K0 l i 2 C.str rfl
@[push_cast] theorem zoq (l : List Kept) (i : Nat) : (rd (encK l) i 3).list = encS (nth K0 l i).thing.refs := zbb cK K0 l i 3 C.list rfl
@[push_cast] theorem zg9 (l : List Pin) (i : Nat) : (rd (encP l) i 0).str = (nth P0 l i).name := zbb cP P0 l i 0 C.str rfl
@[push_cast] theorem zie (l : List Pin) (i : Nat) : (rd (encP l) i 1).str = (nth P0 l i).sum := zbb cP P0 l i 1 C.str rfl
@[push_cast] theorem zgz (l : List Lease) (i : Nat) : (rd (encL l) i 0).int = (nth L0 l i).number := zbb cL L0 l i 0 C.int rfl
@[push_cast] theorem zhg (l : List Lease) (i : Nat) : (rd (encL l) i 1).str = (nth L0 l i).sum := zbb cL L0 l i 1 C.str rfl
@[push_cast] theorem zhd (l : List Lease) (i : Nat) : (rd (encL l) i 2).int = (nth L0 l i).till := zbb cL L0 l i 2 C.int rfl
theorem z5 (l m : List Kept) : encK l ++ encK m = encK (l ++ m) := by simp [encK]
theorem zb8 (l m : List Pin) : encP l ++ encP m = encP (l ++ m) := by simp [encP]
theorem zcy (l m : List Lease) : encL l ++ encL m = encL (l ++ m) := by simp [encL]
theorem zcn (a : Bs) (b : Int) (c : Bs) (r : List Bs) : ([[.s a, .i b, .s c, .l (encS r)]] : Rw) = encK [⟨a, b, ⟨c, r⟩⟩] := rfl
theorem zdm (a b : Bs) : ([[.s a, .s b]] : Rw) = encP [⟨a, b⟩] := rfl
theorem zbw (l : List Kept) (a b : Nat) : Eng.sub (encK l) a b = encK ((l.drop a).take (b - a)) := zei _ _ _ _
theorem zec (l : List Pin) (a b : Nat) : Eng.sub (encP l) a b = encP ((l.drop a).take (b - a)) := zei _ _ _ _
theorem zic (l : List Lease) (a b : Nat) : Eng.sub (encL l) a b = encL ((l.drop a).take (b - a)) := zei _ _ _ _
theorem wrP (l : List Pin) (i : Nat) (x : Bs) (h : i < l.length) : wrs (encP l) i 1 [.s x] = encP (l.set i ⟨(nth P0 l i).name, x⟩) := by
  unfold wrs wrs wr encP
  rw [List.map_set]
  congr 1
  have : (l.map cP).getD i [] = cP (nth P0 l i) := by rw [zh P0 l i h, List.getD_eq_getElem?_getD]; simp [h]
  rw [this]; rfl
theorem ze2 {f : Nat → Nat → Option Lv} {q : Nat → Bool} {n r : Nat} (hr : r ≤ n) (h1 : ∀ j, j < r → q j = true) (h2 : ∀ j, r ≤ j → j < n → q j = false)
    (step : ∀ lo hi, lo < hi → hi ≤ n → f lo hi = cond (q ((lo + hi) / 2)) (f ((lo + hi) / 2 + 1) hi) (f lo ((lo + hi) / 2))) (last : ∀ lo, lo ≤ n → f lo lo = some [.i (lo : Int)]) : f 0 n = some [.i (r : Int)] := by
  have : ∀ m lo hi, hi - lo = m → lo ≤ r → r ≤ hi → hi ≤ n → f lo hi = some [.i (r : Int)] := by
    intro m
    induction m using Nat.strongRecOn with
    | ind m ih =>
      intro lo hi hm hlo hhi hn
      rcases Nat.lt_or_ge lo hi with hlt | hge
      · rw [step lo hi hlt hn]
        rcases Nat.lt_or_ge ((lo + hi) / 2) r with h | h
        · rw [h1 _ h]; exact ih _ (by omega) _ _ rfl (by omega) hhi hn
        · rw [h2 _ h (by omega)]; exact ih _ (by omega) _ _ rfl hlo h (by omega)
      · have e1 : lo = r := by omega
        have e2 : hi = r := by omega
        subst e1; subst e2; exact last _ hn
  exact this n 0 n (by omega) (by omega) hr (Nat.le_refl _)
theorem zgt {α : Type} {f : Nat → Option Lv} {l : List α} {d : α} {p : α → Bool} {ret : Nat → Option Lv} {e : Option Lv} (step : ∀ i, i < l.length → f i = cond (p (nth d l i)) (ret i) (f (i + 1))) (last : f l.length = e) :
    f 0 = match l.findIdx? p with | some i => ret i | none => e := by
  have : ∀ m i, l.length - i = m → i ≤ l.length → f i = match (l.drop i).findIdx? p with | some j => ret (i + j) | none => e := by
    intro m
    induction m with
    | zero =>
      intro i hm hi
      have : i = l.length := by omega
      subst this; rw [last, List.drop_length]; rfl
    | succ m ih =>
      intro i hm hi
      rw [step i (by omega), zcp d (show i < l.length by omega), List.findIdx?_cons]
      cases p (nth d l i)
      · rw [cond_false, ih (i + 1) (by omega) (by omega)]
        cases (l.drop (i + 1)).findIdx? p with
        | none => rfl
        | some j => simp only [Option.map_some]; rw [show i + 1 + j = i + (j + 1) by omega]; rfl
      · rfl
  have h := this l.length 0 (by omega) (by omega)
  rw [List.drop_zero] at h
  rw [h]
  cases l.findIdx? p with
  | none => rfl
  | some j => simp
def lb {α : Type} (q : α → Bool) (l : List α) : Nat := (l.takeWhile q).length
theorem lb_le {α : Type} (q : α → Bool) (l : List α) : lb q l ≤ l.length := by
  unfold lb
  induction l with
  | nil => simp
  | cons a l ih => rw [List.takeWhile_cons]; split <;> simp <;> omega
theorem lb_lt {α : Type} (q : α → Bool) (d : α) : ∀ (l : List α) j, j < lb q l → q (nth d l j) = true
  | [], j, h => by simp [lb] at h
  | a :: l, j, h => by
    unfold lb at h
    rw [List.takeWhile_cons] at h
    split at h
    · rename_i hq
      cases j with
      | zero => exact hq
      | succ j => rw [zcq]; exact lb_lt q d l j (by simpa [lb] using h)
    · simp at h
theorem lb_at {α : Type} (q : α → Bool) (d : α) : ∀ (l : List α), lb q l < l.length → q (nth d l (lb q l)) = false
  | [], h => by simp at h
  | a :: l, h => by
    unfold lb at h ⊢
    rw [List.takeWhile_cons] at h ⊢
    split
    · rename_i hq
      rw [if_pos hq] at h
      simp only [List.length_cons, zcq] at h ⊢
      exact lb_at q d l (by unfold lb; omega)
    · rename_i hq; simp only [List.length_nil, zft]; simpa using hq
end KV
end
section
namespace KV
open Go Go.Eng
open Classical
theorem zd7 {α : Type} {R : α → α → Prop} (d : α) {l : List α} (h : l.Pairwise R) {i j : Nat} (hij : i < j) (hj : j < l.length) : R (nth d l i) (nth d l j) := by
  rw [zh d l i (by omega), zh d l j hj]
  exact List.pairwise_iff_getElem.1 h i j (by omega) hj hij
theorem lb_hi {α : Type} {R : α → α → Prop} {q : α → Bool} (d : α) {l : List α} (h : l.Pairwise R) (mono : ∀ a b, R a b → q b = true → q a = true) : ∀ j, lb q l ≤ j → j < l.length → q (nth d l j) = false := by
  intro j h1 h2
  cases hq : q (nth d l j)
  · rfl
  · rcases Nat.eq_or_lt_of_le h1 with e | h3
    · rw [← e] at hq; rw [lb_at q d l (by omega)] at hq; exact hq.symm
    · have := mono _ _ (zd7 d h h3 h2) hq
      rw [lb_at q d l (by omega)] at this; cases this
theorem zb0 {α : Type} {R : α → α → Prop} {q : α → Bool} {p : α → Prop} (d : α) {l : List α} (h : l.Pairwise R) (hp : ∀ a, p a → q a = false) (hR : ∀ a b, R a b → p b → q a = true) {j : Nat} (hj : j < l.length) (hk : p (nth d l j)) : j = lb q l := by
  have h1 : lb q l ≤ j := by
    rcases Nat.lt_or_ge j (lb q l) with h3 | h3
    · have := lb_lt q d l j h3; rw [hp _ hk] at this; cases this
    · exact h3
  rcases Nat.eq_or_lt_of_le h1 with e | h3
  · exact e.symm
  · have := hR _ _ (zd7 d h h3 hj) hk
    rw [lb_at q d l (by omega)] at this; cases this
theorem zcr {α : Type} {R : α → α → Prop} {q : α → Bool} {p : α → Prop} (d : α) {l : List α} (h : l.Pairwise R) (hp : ∀ a, p a → q a = false) (hR : ∀ a b, R a b → p b → q a = true) :
    (∃ a ∈ l, p a) ↔ lb q l < l.length ∧ p (nth d l (lb q l)) := by
  constructor
  · rintro ⟨a, ha, hpa⟩
    obtain ⟨j, hj, rfl⟩ := zu d ha
    have := zb0 d h hp hR hj hpa
    rw [← this]; exact ⟨hj, hpa⟩
  · rintro ⟨h1, h2⟩; exact ⟨_, zb h1, h2⟩
theorem zk6 {α : Type} {R : α → α → Prop} {q : α → Bool} {p : α → Prop} [DecidablePred p] (d : α) {l : List α} (h : l.Pairwise R) (hp : ∀ a, p a → q a = false) (hR : ∀ a b, R a b → p b → q a = true) :
    l.findIdx? (fun a => decide (p a)) = if ∃ a ∈ l, p a then some (lb q l) else none := by
  split
  · rename_i he
    obtain ⟨h1, h2⟩ := (zcr d h hp hR).1 he
    rw [List.findIdx?_eq_some_iff_getElem]
    refine ⟨h1, ?_, fun j hj => ?_⟩
    · rw [← zh d l _ h1]; exact decide_eq_true h2
    · rw [← zh d l j (by omega)]
      simp only [decide_eq_true_eq]
      intro hpj
      have := zb0 d h hp hR (show j < l.length by omega) hpj
      omega
  · rename_i he
    rw [List.findIdx?_eq_none_iff]
    intro a ha
    exact decide_eq_false fun hpa => he ⟨a, ha, hpa⟩
theorem ze5 {α : Type} {R : α → α → Prop} {q : α → Bool} {p : α → Prop} [DecidablePred p] (d : α) {l : List α} (h : l.Pairwise R) (hp : ∀ a, p a → q a = false) (hR : ∀ a b, R a b → p b → q a = true) (he : ∃ a ∈ l, p a) :
    l.filter (fun a => !decide (p a)) = l.take (lb q l) ++ l.drop (lb q l + 1) := by
  obtain ⟨h1, h2⟩ := (zcr d h hp hR).1 he
  conv => lhs; rw [← List.take_append_drop (lb q l) l, List.filter_append, zcp d h1, List.filter_cons]
  rw [if_neg (by simp [h2])]
  congr 1
  · apply List.filter_eq_self.2
    intro a ha
    obtain ⟨j, hj, rfl⟩ := List.mem_iff_getElem.1 ha
    simp only [List.getElem_take, Bool.not_eq_true', decide_eq_false_iff_not]
    rw [List.length_take] at hj
    rw [← zh d l j (by omega)]
    intro hpj; have := zb0 d h hp hR (show j < l.length by omega) hpj; omega
  · apply List.filter_eq_self.2
    intro a ha
    obtain ⟨j, hj, rfl⟩ := List.mem_iff_getElem.1 ha
    simp only [List.getElem_drop, Bool.not_eq_true', decide_eq_false_iff_not]
    rw [List.length_drop] at hj
    rw [← zh d l _ (by omega)]
    intro hpj; have := zb0 d h hp hR (show lb q l + 1 + j < l.length by omega) hpj; omega
def SrtK (l : List Kept) : Prop := l.Pairwise fun a b => slt a.sum b.sum = true
def SrtP (l : List Pin) : Prop := l.Pairwise fun a b => slt a.name b.name = true
def SrtL (l : List Lease) : Prop := l.Pairwise fun a b => a.number < b.number
def qK (x : Bs) (k : Kept) : Bool := slt k.sum x
def qP (x : Bs) (k : Pin) : Bool := slt k.name x
def qL (x : Int) (k : Lease) : Bool := decide (k.number < x)
def hasT (l : List Kept) (x : Bs) : Prop := ∃ k ∈ l, k.sum = x
def hasP (l : List Pin) (x : Bs) : Prop := ∃ k ∈ l, k.name = x
def hasL (l : List Lease) (x : Int) : Prop := ∃ k ∈ l, k.number = x
theorem kp (x : Bs) (a : Kept) (h : a.sum = x) : qK x a = false := by unfold qK; rw [h, zcf]
theorem kR (x : Bs) (a b : Kept) (h : slt a.sum b.sum = true) (hb : b.sum = x) : qK x a = true := by unfold qK; rw [← hb]; exact h
theorem pp (x : Bs) (a : Pin) (h : a.name = x) : qP x a = false := by unfold qP; rw [h, zcf]
theorem pR (x : Bs) (a b : Pin) (h : slt a.name b.name = true) (hb : b.name = x) : qP x a = true := by unfold qP; rw [← hb]; exact h
theorem lp (x : Int) (a : Lease) (h : a.number = x) : qL x a = false := by unfold qL; simp; omega
theorem lR (x : Int) (a b : Lease) (h : a.number < b.number) (hb : b.number = x) : qL x a = true := by unfold qL; simp; omega
theorem z9 {l : List Kept} (h : SrtK l) (x : Bs) : hasT l x ↔ lb (qK x) l < l.length ∧ (nth K0 l (lb (qK x) l)).sum = x := zcr K0 h (kp x) (kR x)
theorem zc6 {l : List Pin} (h : SrtP l) (x : Bs) : hasP l x ↔ lb (qP x) l < l.length ∧ (nth P0 l (lb (qP x) l)).name = x := zcr P0 h (pp x) (pR x)
theorem zgj {l : List Lease} (h : SrtL l) (x : Int) : hasL l x ↔ lb (qL x) l < l.length ∧ (nth L0 l (lb (qL x) l)).number = x := zcr L0 h (lp x) (lR x)
structure VS (s : State) : Prop where
  wd : 1 ≤ s.width ∧ s.width ≤ 8
  now : 0 ≤ s.now ∧ s.now ≤ 1000000000
  given : 0 ≤ s.given ∧ s.given ≤ 1000000000
  births : 0 ≤ s.births ∧ s.births ≤ 1000000000
  nT : s.things.length ≤ 600
  nP : s.pins.length ≤ 100
  nL : s.leases.length ≤ 200
  srtT : SrtK s.things
  okT : ∀ k ∈ s.things, ThingOk k.thing s.width ∧ k.sum = sumM (formM k.thing) s.width ∧ 1 ≤ k.born ∧ k.born ≤ s.births
  ndT : (s.things.map (·.born)).Nodup
  refs : ∀ k ∈ s.things, ∀ r ∈ k.thing.refs, ∃ j ∈ s.things, j.sum = r ∧ j.born < k.born
  srtP : SrtP s.pins
  okP : ∀ p ∈ s.pins, NameOk p.name ∧ hasT s.things p.sum
  srtL : SrtL s.leases
  okL : ∀ l ∈ s.leases, 1 ≤ l.number ∧ l.number ≤ s.given ∧ hasT s.things l.sum ∧ s.now < l.till ∧ l.till ≤ s.now + 100000
structure Out where
  code : Int
  st : State
  sum : Bs
  lease : Int
  a : Bs
  b : Bs
def fail (s : State) (c : Int) : Out := ⟨c, s, E0, 0, E0, E0⟩
def done (s : State) : Out := ⟨0, s, E0, 0, E0, E0⟩
def lent (s : State) (x : Bs) (hold : Int) : State := { s with given := s.given + 1, leases := s.leases ++ [⟨s.given + 1, x, s.now + hold⟩] }
def insK (k : Kept) (l : List Kept) : List Kept := l.take (lb (qK k.sum) l) ++ k :: l.drop (lb (qK k.sum) l)
noncomputable def delK (x : Bs) (l : List Kept) : List Kept := l.filter fun k => !decide (k.sum = x)
noncomputable def putP (n x : Bs) (l : List Pin) : List Pin := if hasP l n then l.set (lb (qP n) l) ⟨n, x⟩ else l.take (lb (qP n) l) ++ ⟨n, x⟩ :: l.drop (lb (qP n) l)
noncomputable def delP (n : Bs) (l : List Pin) : List Pin := l.filter fun k => !decide (k.name = n)
noncomputable def delL (n : Int) (l : List Lease) : List Lease := l.filter fun k => !decide (k.number = n)
def held (s : State) (x : Bs) : Prop := (∃ p ∈ s.pins, p.sum = x) ∨ ∃ l ∈ s.leases, l.sum = x
def isRef (l : List Kept) (x : Bs) : Prop := ∃ k ∈ l, x ∈ k.thing.refs
def room (s : State) : Prop := s.leases.length < 200 ∧ s.given < 1000000000
noncomputable def putS (s : State) (e : Entry) : Out :=
  if ∃ r ∈ e.thing.refs, ¬ hasT s.things r then fail s 2
  else if hasT s.things (sumM (formM e.thing) s.width) then
    (if formM (nth K0 s.things (lb (qK (sumM (formM e.thing) s.width)) s.things)).thing = formM e.thing then
      (if room s then { done (lent s (sumM (formM e.thing) s.width) e.number) with sum := sumM (formM e.thing) s.width, lease := s.given + 1 } else fail s 4)
    else { fail s 3 with a := formM (nth K0 s.things (lb (qK (sumM (formM e.thing) s.width)) s.things)).thing, b := formM e.thing })
  else if room s ∧ s.things.length < 600 ∧ s.births < 1000000000 then
    { done (lent { s with births := s.births + 1, things := insK ⟨sumM (formM e.thing) s.width, s.births + 1, e.thing⟩ s.things } (sumM (formM e.thing) s.width) e.number) with sum := sumM (formM e.thing) s.width, lease := s.given + 1 }
  else fail s 4
noncomputable def chg (s : State) (e : Entry) : Out :=
  if e.kind = 1 then putS s e
  else if e.kind = 2 then
    (if hasT s.things e.sum then (if hasP s.pins e.name ∨ s.pins.length < 100 then done { s with pins := putP e.name e.sum s.pins } else fail s 4) else fail s 2)
  else if e.kind = 3 then (if hasP s.pins e.name then done { s with pins := delP e.name s.pins } else fail s 5)
  else if e.kind = 4 then
    (if hasT s.things e.sum then (if room s then { done (lent s e.sum e.number) with lease := s.given + 1 } else fail s 4) else fail s 2)
  else if e.kind = 5 then (if hasL s.leases e.number then done { s with leases := delL e.number s.leases } else fail s 5)
  else if e.kind = 6 then (if s.now + e.number ≤ 1000000000 then done { s with now := s.now + e.number, leases := s.leases.filter fun l => decide (s.now + e.number < l.till) } else fail s 4)
  else (if hasT s.things e.sum then (if held s e.sum ∨ isRef s.things e.sum then fail s 6 else done { s with things := delK e.sum s.things }) else fail s 2)
end KV
end
section
namespace KV
open Go Go.Eng
open Classical
theorem zfz {lo hi : Nat} (h : lo + hi ≤ 4294967296) : IntKind.i64.wrap ((IntKind.u64.wrap (IntKind.i64.wrap ((lo : Int) + (hi : Int)))).fdiv (2 ^ 1)) = (((lo + hi) / 2 : Nat) : Int) := by
  rw [w64 (n := (lo : Int) + (hi : Int)) (by omega), zfo, Int.fdiv_eq_ediv_of_nonneg _ (by decide), w64 (by omega)]
  omega
theorem zjy (w now g b : Int) (T : List Kept) (P L : Rw) (x : Bs) (h : SrtK T) (hn : T.length ≤ 1000000) :
    Lqb3 none [.i (T.length : Int), .i w, .i now, .i g, .i b, .l (encK T), .l P, .l L, .s x] = some [.i (lb (qK x) T : Int)] := by
  rw [eqb3_i]
  refine ze2 (f := fun lo hi => Lqb3 (some 2) [.i (lo : Int), .i (hi : Int), .s x, .i w, .i now, .i g, .i b, .l (encK T), .l P, .l L]) (q := fun j => qK x (nth K0 T j)) (lb_le _ _) (fun j hj => lb_lt _ K0 _ _ hj) (fun j h1 h2 => lb_hi K0 h (fun a c hac hc => zbj hac hc) j h1 h2) (fun lo hi hl hh => ?_) (fun lo hl => ?_)
  · show Lqb3 _ _ = _
    rw [eqb3_2, zfz (by omega), eqdw_i]
    have : (lo + hi) / 2 < hi := by omega
    generalize (lo + hi) / 2 = m at this
    simp (disch := omega) only [push_cast]
    unfold qK
    cases slt (nth K0 T m).sum x <;> rfl
  · show Lqb3 _ _ = _
    rw [eqb3_2]; simp (disch := omega) only [push_cast]
theorem zkz (w now g b : Int) (T L : Rw) (P : List Pin) (x : Bs) (h : SrtP P) (hn : P.length ≤ 1000000) :
    Lqb4 none [.i (P.length : Int), .i w, .i now, .i g, .i b, .l T, .l (encP P), .l L, .s x] = some [.i (lb (qP x) P : Int)] := by
  rw [eqb4_i]
  refine ze2 (f := fun lo hi => Lqb4 (some 2) [.i (lo : Int), .i (hi : Int), .s x, .i w, .i now, .i g, .i b, .l T, .l (encP P), .l L]) (q := fun j => qP x (nth P0 P j)) (lb_le _ _) (fun j hj => lb_lt _ P0 _ _ hj) (fun j h1 h2 => lb_hi P0 h (fun a c hac hc => zbj hac hc) j h1 h2) (fun lo hi hl hh => ?_) (fun lo hl => ?_)
  · show Lqb4 _ _ = _
    rw [eqb4_2, zfz (by omega), eqdx_i]
    have : (lo + hi) / 2 < hi := by omega
    generalize (lo + hi) / 2 = m at this
    simp (disch := omega) only [push_cast]
    unfold qP
    cases slt (nth P0 P m).name x <;> rfl
  · show Lqb4 _ _ = _
    rw [eqb4_2]; simp (disch := omega) only [push_cast]
theorem zk1 (w now g b : Int) (T P : Rw) (L : List Lease) (x : Int) (h : SrtL L) (hn : L.length ≤ 1000000) :
    Lqb5 none [.i (L.length : Int), .i w, .i now, .i g, .i b, .l T, .l P, .l (encL L), .i x] = some [.i (lb (qL x) L : Int)] := by
  rw [eqb5_i]
  refine ze2 (f := fun lo hi => Lqb5 (some 2) [.i (lo : Int), .i (hi : Int), .i x, .i w, .i now, .i g, .i b, .l T, .l P, .l (encL L)]) (q := fun j => qL x (nth L0 L j)) (lb_le _ _) (fun j hj => lb_lt _ L0 _ _ hj) (fun j h1 h2 => lb_hi L0 h (fun a c hac hc => by unfold qL at hc ⊢; simp at hc ⊢; omega) j h1 h2) (fun lo hi hl hh => ?_) (fun lo hl => ?_)
  · show Lqb5 _ _ = _
    rw [eqb5_2, zfz (by omega), eqdy_i]
    have : (lo + hi) / 2 < hi := by omega
    generalize (lo + hi) / 2 = m at this
    simp (disch := omega) only [push_cast]
    unfold qL
    by_cases hq : (nth L0 L m).number < x
    · rw [show decide (x ≤ (nth L0 L m).number) = false by simp; omega, show decide ((nth L0 L m).number < x) = true by simp; omega]; rfl
    · rw [show decide (x ≤ (nth L0 L m).number) = true by simp; omega, show decide ((nth L0 L m).number < x) = false by simp; omega]; rfl
  · show Lqb5 _ _ = _
    rw [eqb5_2]; simp (disch := omega) only [push_cast]
theorem zba (w now g b : Int) (T : List Kept) (P L : Rw) (x : Bs) (h : SrtK T) (hn : T.length ≤ 1000000) :
    Lqbd none [.s x, .i w, .i now, .i g, .i b, .l (encK T), .l P, .l L] = some [.i (lb (qK x) T : Int), .b (decide (hasT T x))] := by
  have hl := lb_le (qK x) T
  have hi := z9 h x
  rw [eqbd_i, zcv, zjy w now g b T P L x h hn]
  by_cases h1 : lb (qK x) T < T.length
  · simp (disch := omega) only [push_cast]
    by_cases h2 : (nth K0 T (lb (qK x) T)).sum = x
    · rw [decide_eq_true h2, decide_eq_true (hi.2 ⟨h1, h2⟩)]
    · rw [decide_eq_false h2, decide_eq_false fun h3 => h2 (hi.1 h3).2]
  · simp (disch := omega) only [push_cast]
    rw [decide_eq_false fun h3 => h1 (hi.1 h3).1]
theorem zf6 (w now g b : Int) (T L : Rw) (P : List Pin) (x : Bs) (h : SrtP P) (hn : P.length ≤ 1000000) :
    Lqdc none [.s x, .i w, .i now, .i g, .i b, .l T, .l (encP P), .l L] = some [.i (lb (qP x) P : Int), .b (decide (hasP P x))] := by
  have hl := lb_le (qP x) P
  have hi := zc6 h x
  rw [eqdc_i, zbp, zkz w now g b T L P x h hn]
  by_cases h1 : lb (qP x) P < P.length
  · simp (disch := omega) only [push_cast]
    by_cases h2 : (nth P0 P (lb (qP x) P)).name = x
    · rw [decide_eq_true h2, decide_eq_true (hi.2 ⟨h1, h2⟩)]
    · rw [decide_eq_false h2, decide_eq_false fun h3 => h2 (hi.1 h3).2]
  · simp (disch := omega) only [push_cast]
    rw [decide_eq_false fun h3 => h1 (hi.1 h3).1]
theorem zkw (w now g b : Int) (T P : Rw) (L : List Lease) (x : Int) (h : SrtL L) (hn : L.length ≤ 1000000) :
    Lqde none [.i x, .i w, .i now, .i g, .i b, .l T, .l P, .l (encL L)] = some [.i (lb (qL x) L : Int), .b (decide (hasL L x))] := by
  have hl := lb_le (qL x) L
  have hi := zgj h x
  rw [eqde_i, zbv, zk1 w now g b T P L x h hn]
  by_cases h1 : lb (qL x) L < L.length
  · simp (disch := omega) only [push_cast]
    by_cases h2 : (nth L0 L (lb (qL x) L)).number = x
    · rw [decide_eq_true h2, decide_eq_true (hi.2 ⟨h1, h2⟩)]
    · rw [decide_eq_false h2, decide_eq_false fun h3 => h2 (hi.1 h3).2]
  · simp (disch := omega) only [push_cast]
    rw [decide_eq_false fun h3 => h1 (hi.1 h3).1]
theorem zbs {α : Type} {f : Nat → Option Lv} {l : List α} (d : α) {p : α → Prop} [DecidablePred p] {T E : Option Lv} (step : ∀ i, i < l.length → f i = cond (decide (p (nth d l i))) T (f (i + 1))) (last : f l.length = E) : f 0 = if (∃ a ∈ l, p a) then T else E := by
  have := zgt (f := f) (l := l) (d := d) (p := fun a => decide (p a)) (ret := fun _ => T) (e := E) step last
  rw [this]
  by_cases h : ∃ a ∈ l, p a
  · rw [if_pos h]
    cases hf : l.findIdx? (fun a => decide (p a)) with
    | none =>
      rw [List.findIdx?_eq_none_iff] at hf
      obtain ⟨a, ha, hp⟩ := h
      have := hf a ha; simp [hp] at this
    | some i => rfl
  · rw [if_neg h]
    cases hf : l.findIdx? (fun a => decide (p a)) with
    | none => rfl
    | some i =>
      obtain ⟨h1, h2, _⟩ := List.findIdx?_eq_some_iff_getElem.1 hf
      exact absurd ⟨_, List.getElem_mem h1, of_decide_eq_true h2⟩ h
theorem zho (s : State) (x : Bs) (h1 : s.pins.length ≤ 1000000) (h2 : s.leases.length ≤ 1000000) : Lq3 none (.s x :: encSt s) = some [.b (decide (held s x))] := by
  unfold encSt
  rw [eq3_i]
  have a1 := zbs (f := fun i : Nat => Lq3 (some 8) [.s x, .l (encL s.leases), .i (s.leases.length : Int), .i (i : Int)]) L0 (l := s.leases) (p := fun l => l.sum = x) (T := some [.b true]) (E := some [.b false]) (fun i hi => by
    show Lq3 _ _ = cond _ _ (Lq3 _ _)
    rw [eq3_8]; simp (disch := omega) only [push_cast]) (by show Lq3 _ _ = _; rw [eq3_8]; simp (disch := omega) only [push_cast])
  have a2 := zbs (f := fun i : Nat => Lq3 (some 2) [.s x, .l (encP s.pins), .i (s.pins.length : Int), .i (i : Int), .i s.width, .i s.now, .i s.given, .i s.births, .l (encK s.things), .l (encP s.pins), .l (encL s.leases)]) P0 (l := s.pins) (p := fun l => l.sum = x) (T := some [.b true]) (E := Lq3 (some 8) [.s x, .l (encL s.leases), .i (s.leases.length : Int), .i 0]) (fun i hi => by
    show Lq3 _ _ = cond _ _ (Lq3 _ _)
    rw [eq3_2]; simp (disch := omega) only [push_cast]) (by show Lq3 _ _ = _; rw [eq3_2]; simp (disch := omega) only [push_cast])
  rw [zbp]
  refine a2.trans ?_
  by_cases h : ∃ p ∈ s.pins, p.sum = x
  · rw [if_pos h, decide_eq_true (p := held s x) (Or.inl h)]
  · rw [if_neg h]
    refine a1.trans ?_
    by_cases h3 : ∃ l ∈ s.leases, l.sum = x
    · rw [if_pos h3, decide_eq_true (p := held s x) (Or.inr h3)]
    · rw [if_neg h3, decide_eq_false (p := held s x) (by rintro (h4 | h4); exact h h4; exact h3 h4)]
theorem zga (a b c d : Int) (T : List Kept) (P L : Rw) (x : Bs) (h1 : T.length ≤ 1000000) (h2 : ∀ k ∈ T, k.thing.refs.length ≤ 1000000) : Lq4 none [.s x, .i a, .i b, .i c, .i d, .l (encK T), .l P, .l L] = some [.b (decide (isRef T x))] := by
  rw [eq4_i]
  have a2 := zbs (f := fun i : Nat => Lq4 (some 2) [.s x, .l (encK T), .i (T.length : Int), .i (i : Int)]) K0 (l := T) (p := fun k => x ∈ k.thing.refs) (T := some [.b true]) (E := some [.b false]) (fun i hi => by
    show Lq4 _ _ = cond _ _ (Lq4 _ _)
    have hr := h2 _ (zb (d := K0) hi)
    rw [eq4_2]; simp (disch := omega) only [push_cast]
    have a1 := zbs (f := fun j : Nat => Lq4 (some 5) [.s x, .l (encK T), .i (T.length : Int), .i (i : Int), .l (encS (nth K0 T i).thing.refs), .i ((nth K0 T i).thing.refs.length : Int), .i (j : Int)]) .empty (l := (nth K0 T i).thing.refs) (p := fun r => r = x) (T := some [.b true]) (E := Lq4 (some 2) [.s x, .l (encK T), .i (T.length : Int), .i ((i : Int) + 1)]) (fun j hj => by
      show Lq4 _ _ = cond _ _ (Lq4 _ _)
      rw [eq4_5]; simp (disch := omega) only [push_cast]) (by show Lq4 _ _ = _; rw [eq4_5]; simp (disch := omega) only [push_cast])
    refine a1.trans ?_
    by_cases h : ∃ r ∈ (nth K0 T i).thing.refs, r = x
    · rw [if_pos h, decide_eq_true (p := x ∈ (nth K0 T i).thing.refs) (by obtain ⟨r, hr, rfl⟩ := h; exact hr), cond_true]
    · rw [if_neg h, decide_eq_false (p := x ∈ (nth K0 T i).thing.refs) (fun h3 => h ⟨x, h3, rfl⟩), cond_false]) (by show Lq4 _ _ = _; rw [eq4_2]; simp (disch := omega) only [push_cast])
  rw [zcv]
  refine a2.trans ?_
  by_cases h : ∃ k ∈ T, x ∈ k.thing.refs
  · rw [if_pos h, decide_eq_true (p := isRef T x) h]
  · rw [if_neg h, decide_eq_false (p := isRef T x) h]
end KV
end
section
namespace KV
open Go Go.Eng
open Classical
def z4 (o : Out) : Lv := [.i o.code, .i 0, .i 0, .i 0, .i 0, .l [], .l [], .l [], .s o.sum, .i o.lease, .s o.a, .s o.b] ++ encSt o.st
theorem zbi (c : Int) : Lqbt none [.i c] = some [.i c, .i 0, .i 0, .i 0, .i 0, .l [], .l [], .l [], .s E0, .i 0, .s E0, .s E0] := by rw [eqbt_i]
theorem zdn (a b c d e f g h i : Int) (j : Bs) (k : Int) (l m : Bs) (T P L x y z : Rw) : Lqa (some 78) [.i a, .i b, .i c, .i d, .i e, .i f, .i g, .i h, .i i, .s j, .i k, .s l, .s m, .l T, .l P, .l L, .l x, .l y, .l z] =
    some [.i 0, .i 0, .i 0, .i 0, .i 0, .l [], .l [], .l [], .s E0, .i 0, .s E0, .s E0, .i a, .i b, .i c, .i d, .l T, .l P, .l L] := by
  rw [eqa_78, zbi]; simp (disch := omega) only [push_cast]
theorem zif (a b c d e f g h i : Int) (j : Bs) (k : Int) (l m : Bs) (T P L x y z : Rw) : Lqa (some 76) [.i a, .i b, .i c, .i d, .i e, .i f, .i g, .i h, .i i, .s j, .i k, .s l, .s m, .l T, .l P, .l L, .l x, .l y, .l z] =
    some [.i 6, .i 0, .i 0, .i 0, .i 0, .l [], .l [], .l [], .s E0, .i 0, .s E0, .s E0, .i a, .i b, .i c, .i d, .l T, .l P, .l L] := by
  rw [eqa_76, zbi]; simp (disch := omega) only [push_cast]
theorem zd9 (a b c d e f g h i : Int) (j : Bs) (k : Int) (l m : Bs) (T P L x y z : Rw) : Lqa (some 21) [.i a, .i b, .i c, .i d, .i e, .i f, .i g, .i h, .i i, .s j, .i k, .s l, .s m, .l T, .l P, .l L, .l x, .l y, .l z] =
    some [.i 4, .i 0, .i 0, .i 0, .i 0, .l [], .l [], .l [], .s E0, .i 0, .s E0, .s E0, .i a, .i b, .i c, .i d, .l T, .l P, .l L] := by
  rw [eqa_21, zbi]; simp (disch := omega) only [push_cast]
theorem ziv (x : Bs) (w now gv b k : Int) (s n : Bs) (m : Int) (t : Bs) (r T P : Rw) (L : List Lease) (hl : L.length ≤ 1000000) (hg : 0 ≤ gv ∧ gv ≤ 1000000000) (hn : 0 ≤ now ∧ now ≤ 1000000000) (hm : 0 ≤ m ∧ m ≤ 1000000000) :
    Lqdb none [.s x, .i w, .i now, .i gv, .i b, .i k, .s s, .s n, .i m, .s t, .l r, .l T, .l P, .l (encL L)] =
      some [.i 0, .i 0, .i 0, .i 0, .i 0, .l [], .l [], .l [], .s E0, .i (gv + 1), .s E0, .s E0, .i w, .i now, .i (gv + 1), .i b, .i k, .s s, .s n, .i m, .s t, .l r, .l T, .l P, .l (encL (L ++ [⟨gv + 1, x, now + m⟩]))] := by
  rw [eqdb_i, ← zcy, mostE]; simp (disch := omega) only [push_cast] <;> rfl
theorem zdi {α : Type} (l : List α) (i : Nat) : (l.drop 0).take (i - 0) = l.take i := by simp
theorem zdq {α : Type} (l : List α) (i : Nat) : (l.drop i).take (l.length - i) = l.drop i := List.take_of_length_le (by simp)
def args4 (s : State) (e : Entry) : Lv := [.i s.width, .i s.now, .i s.given, .i s.births, .i e.kind, .s e.sum, .s e.name, .i e.number, .s e.thing.text, .l (encS e.thing.refs), .i 0, .i 0, .i 0, .i 0, .i 0, .s E0, .i 0, .s E0, .s E0, .l (encK s.things), .l (encP s.pins), .l (encL s.leases), .l [], .l [], .l []]
section
variable {s : State} {e : Entry} (V : VS s)
include V
theorem zi4 (hk : e.kind = 2) (r : Bool) : Lqa (some 4) (.b r :: args4 s e) = some (z4 (chg s e)) := by
  unfold args4 chg
  have h1 := V.nT; have h2 := V.nP
  rw [eqa_4, if_neg (by omega), if_pos hk, hk]
  by_cases hT : hasT s.things e.sum
  · have hl := lb_le (qP e.name) s.pins
    rw [if_pos hT]
    simp (disch := omega) only [push_cast, zba _ _ _ _ s.things _ _ e.sum V.srtT (by omega), decide_eq_true hT, zf6 _ _ _ _ _ _ s.pins e.name V.srtP (by omega)]
    by_cases hP : hasP s.pins e.name
    · have hi := (zc6 V.srtP e.name).1 hP
      rw [if_pos (Or.inl hP), decide_eq_true hP]
      simp (disch := omega) only [push_cast, zbi]
      rw [wrP _ _ _ hi.1, hi.2]
      unfold z4 done encSt putP
      rw [if_pos hP]; rfl
    · rw [decide_eq_false hP]
      by_cases hc : s.pins.length = 100
      · rw [if_neg (by rintro (h | h); exact hP h; omega)]
        simp (disch := omega) only [push_cast, zbi]; rfl
      · rw [if_pos (Or.inr (by omega))]
        have hs1 : Eng.sub (encP s.pins) 0 (lb (qP e.name) s.pins) = encP (s.pins.take (lb (qP e.name) s.pins)) := by rw [zec, zdi]
        have hs2 : Eng.sub (encP s.pins) (lb (qP e.name) s.pins) s.pins.length = encP (s.pins.drop (lb (qP e.name) s.pins)) := by rw [zec, zdq]
        simp (disch := omega) only [push_cast, hs1, hs2, mostE, List.length_append, List.length_take, List.length_drop]
        rw [zdn, zdm, zb8, zb8]
        unfold z4 done encSt putP
        rw [if_neg hP, List.append_assoc]; rfl
  · rw [if_neg hT]
    simp (disch := omega) only [push_cast, zba _ _ _ _ s.things _ _ e.sum V.srtT (by omega), decide_eq_false hT, zbi]; rfl
theorem zkv (hk : e.kind = 3) (r : Bool) : Lqa (some 4) (.b r :: args4 s e) = some (z4 (chg s e)) := by
  unfold args4 chg
  have h1 := V.nT; have h2 := V.nP
  rw [eqa_4, if_neg (by omega), if_neg (by omega), if_pos hk, hk]
  have hl := lb_le (qP e.name) s.pins
  simp (disch := omega) only [push_cast, zf6 _ _ _ _ _ _ s.pins e.name V.srtP (by omega)]
  by_cases hP : hasP s.pins e.name
  · have hi := (zc6 V.srtP e.name).1 hP
    rw [if_pos hP, decide_eq_true hP]
    have hs1 : Eng.sub (encP s.pins) 0 (lb (qP e.name) s.pins) = encP (s.pins.take (lb (qP e.name) s.pins)) := by rw [zec, zdi]
    have hs2 : Eng.sub (encP s.pins) (lb (qP e.name) s.pins + 1) s.pins.length = encP (s.pins.drop (lb (qP e.name) s.pins + 1)) := by rw [zec, zdq]
    simp (disch := omega) only [push_cast, hs1, hs2, mostE, List.length_append, List.length_take, List.length_drop]
    rw [zdn, zb8]
    unfold z4 done encSt delP
    rw [ze5 P0 V.srtP (pp e.name) (pR e.name) hP]; rfl
  · rw [if_neg hP, decide_eq_false hP]
    simp (disch := omega) only [push_cast, zbi]; rfl
theorem zjm (hk : e.kind = 4) (hm : 0 ≤ e.number ∧ e.number ≤ 1000000000) : Lqa (some 4) (.b (decide (room s)) :: args4 s e) = some (z4 (chg s e)) := by
  unfold args4 chg
  have h1 := V.nT; have h2 := V.nL
  rw [eqa_4, if_neg (by omega), if_neg (by omega), if_neg (by omega), if_pos hk, hk]
  by_cases hT : hasT s.things e.sum
  · rw [if_pos hT]
    simp (disch := omega) only [push_cast, zba _ _ _ _ s.things _ _ e.sum V.srtT (by omega), decide_eq_true hT]
    by_cases hr : room s
    · rw [if_pos hr, decide_eq_true hr]
      simp (disch := omega) only [push_cast, ziv e.sum s.width s.now s.given s.births 4 e.sum e.name e.number e.thing.text (encS e.thing.refs) (encK s.things) (encP s.pins) s.leases (by omega) V.given V.now hm]; rfl
    · rw [if_neg hr, decide_eq_false hr]
      simp (disch := omega) only [push_cast, zbi]; rfl
  · rw [if_neg hT]
    simp (disch := omega) only [push_cast, zba _ _ _ _ s.things _ _ e.sum V.srtT (by omega), decide_eq_false hT, zbi]; rfl
theorem zjp (hk : e.kind = 5) (r : Bool) : Lqa (some 4) (.b r :: args4 s e) = some (z4 (chg s e)) := by
  unfold args4 chg
  have h1 := V.nT; have h2 := V.nL
  rw [eqa_4, if_neg (by omega), if_neg (by omega), if_neg (by omega), if_neg (by omega), if_pos hk, hk]
  have hl := lb_le (qL e.number) s.leases
  simp (disch := omega) only [push_cast, zkw _ _ _ _ _ _ s.leases e.number V.srtL (by omega)]
  by_cases hP : hasL s.leases e.number
  · have hi := (zgj V.srtL e.number).1 hP
    rw [if_pos hP, decide_eq_true hP]
    have hs1 : Eng.sub (encL s.leases) 0 (lb (qL e.number) s.leases) = encL (s.leases.take (lb (qL e.number) s.leases)) := by rw [zic, zdi]
    have hs2 : Eng.sub (encL s.leases) (lb (qL e.number) s.leases + 1) s.leases.length = encL (s.leases.drop (lb (qL e.number) s.leases + 1)) := by rw [zic, zdq]
    simp (disch := omega) only [push_cast, hs1, hs2, mostE, List.length_append, List.length_take, List.length_drop]
    rw [zdn, zcy]
    unfold z4 done encSt delL
    rw [ze5 L0 V.srtL (lp e.number) (lR e.number) hP]; rfl
  · rw [if_neg hP, decide_eq_false hP]
    simp (disch := omega) only [push_cast, zbi]; rfl
theorem zme (hk : e.kind = 6) (hm : 0 ≤ e.number ∧ e.number ≤ 1000000000) (r : Bool) : Lqa (some 4) (.b r :: args4 s e) = some (z4 (chg s e)) := by
  unfold args4 chg
  have h2 := V.nL; have h3 := V.now
  rw [eqa_4, if_neg (by omega), if_neg (by omega), if_neg (by omega), if_neg (by omega), if_neg (by omega), if_pos hk, hk]
  by_cases hn : s.now + e.number ≤ 1000000000
  · rw [if_pos hn]
    simp (disch := omega) only [push_cast]
    have := zt (f := fun (i : Nat) (a : List Lease) => Lqa (some 65) [.i (s.leases.length : Int), .i (i : Int), .i s.width, .i (s.now + e.number), .i s.given, .i s.births, .i 0, .i 0, .i 0, .i 0, .i 0, .s E0, .i 0, .s E0, .s E0, .l (encL a), .l (encL s.leases), .l (encK s.things), .l (encP s.pins), .l [], .l [], .l []]) (n := s.leases.length)
      (T := some (z4 (done { s with now := s.now + e.number, leases := s.leases.filter fun l => decide (s.now + e.number < l.till) })))
      (I := fun i a => a = (s.leases.take i).filter fun l => decide (s.now + e.number < l.till)) (fun i a hi hI => by
        have hle : a.length ≤ i := by rw [hI]; exact Nat.le_trans (List.length_filter_le _ _) (by simp; omega)
        by_cases ht : s.now + e.number < (nth L0 s.leases i).till
        · refine ⟨a ++ [nth L0 s.leases i], ?_, ?_⟩
          · show Lqa _ _ = Lqa _ _
            rw [eqa_65, mostE, ← zcy]; simp (disch := omega) only [push_cast] <;> rfl
          · show a ++ [nth L0 s.leases i] = _
            rw [zz L0 hi, List.filter_append, ← hI]; simp [ht]
        · refine ⟨a, ?_, ?_⟩
          · show Lqa _ _ = Lqa _ _
            rw [eqa_65]; simp (disch := omega) only [push_cast]
          · show a = _
            rw [zz L0 hi, List.filter_append, ← hI]; simp [ht]) (fun a hI => by
        show Lqa _ _ = _
        rw [eqa_65]; simp (disch := omega) only [push_cast, zdn]
        rw [hI, List.take_length]; rfl) 0 [] (Nat.zero_le _) rfl
    exact this
  · rw [if_neg hn]
    simp (disch := omega) only [push_cast, zbi]; rfl
theorem zj8 (hk : e.kind = 7) (r : Bool) : Lqa (some 4) (.b r :: args4 s e) = some (z4 (chg s e)) := by
  unfold args4 chg
  have h1 := V.nT; have h2 := V.nP; have h3 := V.nL
  rw [eqa_4, if_neg (by omega), if_neg (by omega), if_neg (by omega), if_neg (by omega), if_neg (by omega), if_neg (by omega), hk]
  have hl := lb_le (qK e.sum) s.things
  by_cases hT : hasT s.things e.sum
  · have hi := (z9 V.srtT e.sum).1 hT
    have hh := zho s e.sum (by omega) (by omega)
    have hr := zga s.width s.now s.given s.births s.things (encP s.pins) (encL s.leases) e.sum (by omega) (fun k hk => by have := (V.okT k hk).1.refs; omega)
    rw [if_pos hT]
    unfold encSt at hh
    simp (disch := omega) only [push_cast, zba _ _ _ _ s.things _ _ e.sum V.srtT (by omega), decide_eq_true hT, hh]
    by_cases c1 : held s e.sum
    · rw [if_pos (Or.inl c1), decide_eq_true c1]
      simp (disch := omega) only [push_cast, zif]; rfl
    · rw [decide_eq_false c1]
      by_cases c2 : isRef s.things e.sum
      · rw [if_pos (Or.inr c2)]
        simp (disch := omega) only [push_cast, hr, decide_eq_true c2, zif]; rfl
      · rw [if_neg (by rintro (h | h); exact c1 h; exact c2 h)]
        have hs1 : Eng.sub (encK s.things) 0 (lb (qK e.sum) s.things) = encK (s.things.take (lb (qK e.sum) s.things)) := by rw [zbw, zdi]
        have hs2 : Eng.sub (encK s.things) (lb (qK e.sum) s.things + 1) s.things.length = encK (s.things.drop (lb (qK e.sum) s.things + 1)) := by rw [zbw, zdq]
        simp (disch := omega) only [push_cast, hr, decide_eq_false c2, hs1, hs2, mostE, List.length_append, List.length_take, List.length_drop]
        rw [zdn, z5]
        unfold z4 done encSt delK
        rw [ze5 K0 V.srtT (kp e.sum) (kR e.sum) hT]; rfl
  · rw [if_neg hT]
    simp (disch := omega) only [push_cast, zba _ _ _ _ s.things _ _ e.sum V.srtT (by omega), decide_eq_false hT, zbi]; rfl
end
end KV
end
section
namespace KV
open Go Go.Eng
open Classical
section
variable {s : State} {e : Entry} (V : VS s)
include V
theorem zii (x : Bs) (b : Int) (T : Rw) (hm : 0 ≤ e.number ∧ e.number ≤ 1000000000) :
    Lqa (some 27) [.s x, .i s.width, .i s.now, .i s.given, .i b, .i 0, .i 0, .i 0, .i 0, .i 0, .s E0, .i 0, .s E0, .s E0, .i e.kind, .s e.sum, .s e.name, .i e.number, .s e.thing.text, .l (encS e.thing.refs), .l T, .l (encP s.pins), .l (encL s.leases), .l [], .l [], .l []] =
      some [.i 0, .i 0, .i 0, .i 0, .i 0, .l [], .l [], .l [], .s x, .i (s.given + 1), .s E0, .s E0, .i s.width, .i s.now, .i (s.given + 1), .i b, .l T, .l (encP s.pins), .l (encL (s.leases ++ [⟨s.given + 1, x, s.now + e.number⟩]))] := by
  have h2 := V.nL
  rw [eqa_27]
  simp (disch := omega) only [push_cast, ziv x s.width s.now s.given b e.kind e.sum e.name e.number e.thing.text (encS e.thing.refs) T (encP s.pins) s.leases (by omega) V.given V.now hm]
theorem znn (h : ThingOk e.thing s.width) (hm : 0 ≤ e.number ∧ e.number ≤ 1000000000) (hr : ∀ r ∈ e.thing.refs, hasT s.things r) :
    Lqa (some 7) [.b (decide (room s)), .l (encS e.thing.refs), .i (e.thing.refs.length : Int), .i (e.thing.refs.length : Int), .i s.width, .i s.now, .i s.given, .i s.births, .i e.kind, .s e.sum, .s e.name, .i e.number, .s e.thing.text, .l (encS e.thing.refs), .i 0, .i 0, .i 0, .i 0, .i 0, .s E0, .i 0, .s E0, .s E0, .l (encK s.things), .l (encP s.pins), .l (encL s.leases), .l [], .l [], .l []] = some (z4 (putS s e)) := by
  have h1 := V.nT; have h2 := V.nL; have h3 := V.births
  have hw : ze s.width = true := zp.2 V.wd
  have hz := zbc h
  have hfs := zbh e.thing
  unfold putS
  rw [eqa_7, if_neg (by rintro ⟨r, h4, h5⟩; exact h5 (hr r h4))]
  have hl := lb_le (qK (sumM (formM e.thing) s.width)) s.things
  generalize hx : sumM (formM e.thing) s.width = x at hl
  simp (disch := omega) only [push_cast, zbg h, zbt (formM e.thing) s.width (by omega), hx, zba _ _ _ _ s.things _ _ x V.srtT (by omega)]
  by_cases hT : hasT s.things x
  · have hi := (z9 V.srtT x).1 hT
    have hk := (V.okT _ (zb (d := K0) hi.1)).1
    rw [if_pos hT, decide_eq_true hT]
    simp (disch := omega) only [push_cast, zbg hk]
    by_cases hf : formM (nth K0 s.things (lb (qK x) s.things)).thing = formM e.thing
    · rw [if_pos hf, decide_eq_true hf]
      by_cases hro : room s
      · rw [if_pos hro, decide_eq_true hro]
        simp (disch := omega) only [push_cast]
        rw [eqa_22]
        simp (disch := omega) only [push_cast, zii V x s.births (encK s.things) hm]; rfl
      · rw [if_neg hro, decide_eq_false hro]
        simp (disch := omega) only [push_cast, zd9]; rfl
    · rw [if_neg hf, decide_eq_false hf]
      simp (disch := omega) only [push_cast] <;> rfl
  · rw [if_neg hT, decide_eq_false hT]
    by_cases hro : room s
    · rw [decide_eq_true hro]
      by_cases c1 : s.things.length = 600
      · rw [if_neg (by omega)]
        simp (disch := omega) only [push_cast, zd9]; rfl
      · by_cases c2 : s.births = 1000000000
        · rw [if_neg (by omega)]
          simp (disch := omega) only [push_cast, zd9]; rfl
        · rw [if_pos ⟨hro, by omega, by omega⟩]
          simp (disch := omega) only [push_cast]
          have hs1 : Eng.sub (encK s.things) 0 (lb (qK x) s.things) = encK (s.things.take (lb (qK x) s.things)) := by rw [zbw, zdi]
          have hs2 : Eng.sub (encK s.things) (lb (qK x) s.things) s.things.length = encK (s.things.drop (lb (qK x) s.things)) := by rw [zbw, zdq]
          rw [eqa_22]
          simp (disch := omega) only [push_cast, hs1, hs2, mostE, List.length_append, List.length_take, List.length_drop, zb9 (encS e.thing.refs) (by rw [zr]; omega)]
          rw [zcn, z5, z5, List.append_assoc]
          rw [zii V x (s.births + 1) _ hm]; rfl
    · rw [decide_eq_false hro, if_neg (by rintro ⟨h4, _⟩; exact hro h4)]
      simp (disch := omega) only [push_cast, zd9]; rfl
theorem zoc (hk : e.kind = 1) (h : ThingOk e.thing s.width) (hm : 0 ≤ e.number ∧ e.number ≤ 1000000000) : Lqa (some 4) (.b (decide (room s)) :: args4 s e) = some (z4 (chg s e)) := by
  have h1 := V.nT; have h4 := h.refs
  unfold args4 chg
  rw [eqa_4, if_pos hk]
  simp (disch := omega) only [push_cast]
  have := zbs (f := fun i : Nat => Lqa (some 7) [.b (decide (room s)), .l (encS e.thing.refs), .i (e.thing.refs.length : Int), .i (i : Int), .i s.width, .i s.now, .i s.given, .i s.births, .i e.kind, .s e.sum, .s e.name, .i e.number, .s e.thing.text, .l (encS e.thing.refs), .i 0, .i 0, .i 0, .i 0, .i 0, .s E0, .i 0, .s E0, .s E0, .l (encK s.things), .l (encP s.pins), .l (encL s.leases), .l [], .l [], .l []])
    .empty (l := e.thing.refs) (p := fun r => ¬ hasT s.things r) (T := some (z4 (fail s 2))) (E := Lqa (some 7) [.b (decide (room s)), .l (encS e.thing.refs), .i (e.thing.refs.length : Int), .i (e.thing.refs.length : Int), .i s.width, .i s.now, .i s.given, .i s.births, .i e.kind, .s e.sum, .s e.name, .i e.number, .s e.thing.text, .l (encS e.thing.refs), .i 0, .i 0, .i 0, .i 0, .i 0, .s E0, .i 0, .s E0, .s E0, .l (encK s.things), .l (encP s.pins), .l (encL s.leases), .l [], .l [], .l []]) (fun i hi => by
      show Lqa _ _ = cond _ _ (Lqa _ _)
      rw [eqa_7]
      simp (disch := omega) only [push_cast, zba _ _ _ _ s.things _ _ (nth .empty e.thing.refs i) V.srtT (by omega), zbi]
      by_cases hT : hasT s.things (nth .empty e.thing.refs i)
      · rw [decide_eq_true hT, decide_eq_false (not_not_intro hT)]; rfl
      · rw [decide_eq_false hT, decide_eq_true hT]; rfl) rfl
  refine this.trans ?_
  by_cases hr : ∃ r ∈ e.thing.refs, ¬ hasT s.things r
  · rw [if_pos hr]; unfold putS; rw [if_pos hr]
  · rw [if_neg hr, znn V h hm fun r hr2 => Classical.byContradiction fun h5 => hr ⟨r, hr2, h5⟩]
theorem zig (he : zd e s.width = true) : Lqa none (encE e ++ encSt s) = some (z4 (chg s e)) := by
  have h2 := V.nL; have hg := V.given
  have hnum := EntryOk.num he; have hk := EntryOk.kd he
  show Lqa none [.i e.kind, .s e.sum, .s e.name, .i e.number, .s e.thing.text, .l (encS e.thing.refs), .i s.width, .i s.now, .i s.given, .i s.births, .l (encK s.things), .l (encP s.pins), .l (encL s.leases)] = _
  have : Lqa none [.i e.kind, .s e.sum, .s e.name, .i e.number, .s e.thing.text, .l (encS e.thing.refs), .i s.width, .i s.now, .i s.given, .i s.births, .l (encK s.things), .l (encP s.pins), .l (encL s.leases)] = Lqa (some 4) (.b (decide (room s)) :: args4 s e) := by
    rw [eqa_i]
    by_cases hl : s.leases.length < 200
    · have : decide (room s) = decide (s.given < 1000000000) := decide_eq_decide.2 ⟨fun h => h.2, fun h => ⟨hl, h⟩⟩
      simp (disch := omega) only [push_cast, this]; rfl
    · rw [decide_eq_false fun h : room s => hl h.1]; simp (disch := omega) only [push_cast]; rfl
  rw [this]
  have hc : e.kind = 1 ∨ e.kind = 2 ∨ e.kind = 3 ∨ e.kind = 4 ∨ e.kind = 5 ∨ e.kind = 6 ∨ e.kind = 7 := by omega
  rcases hc with h | h | h | h | h | h | h
  · exact zoc V h (EntryOk.thing he h) hnum
  · exact zi4 V h _
  · exact zkv V h _
  · exact zjm V h hnum
  · exact zjp V h _
  · exact zme V h hnum _
  · exact zj8 V h _
end
end KV
end
section
namespace KV
open Go Go.Eng
open Classical
noncomputable def findT (T : List Kept) (x : Bs) : Int := if hasT T x then (lb (qK x) T : Int) else -1
theorem zb1 (w now g b : Int) (T : List Kept) (P L : Rw) (x : Bs) (h : SrtK T) (hn : T.length ≤ 1000000) : Lqe none [.i w, .i now, .i g, .i b, .l (encK T), .l P, .l L, .s x] = some [.i (findT T x)] := by
  rw [eqe_i]
  have := zgt (f := fun i : Nat => Lqe (some 2) [.s x, .i (i : Int), .i w, .i now, .i g, .i b, .l (encK T), .l P, .l L]) (l := T) (d := K0) (p := fun k => decide (k.sum = x)) (ret := fun i => some [.i (i : Int)]) (e := some [.i (-1)]) (fun i hi => by
    show Lqe _ _ = cond _ _ (Lqe _ _)
    rw [eqe_2]; simp (disch := omega) only [push_cast]) (by show Lqe _ _ = _; rw [eqe_2]; simp (disch := omega) only [push_cast])
  refine this.trans ?_
  rw [zk6 K0 h (kp x) (kR x)]
  unfold findT
  by_cases hT : hasT T x
  · rw [if_pos hT, if_pos (show ∃ a ∈ T, a.sum = x from hT)]
  · rw [if_neg hT, if_neg (show ¬ ∃ a ∈ T, a.sum = x from hT)]
theorem zbf {T : List Kept} {x : Bs} : findT T x < 0 ↔ ¬ hasT T x := by
  unfold findT; split
  · rename_i h; simp [h]
  · rename_i h; simp [h]
def zm (o : Out) : Lv := if o.code = 0 then [.i 0, .i o.st.width, .i o.st.now, .i o.st.given, .i o.st.births, .l (encK o.st.things), .l (encP o.st.pins), .s o.sum, .i o.lease, .s o.a, .s o.b, .l (encL o.st.leases)]
  else [.i o.code, .i 0, .i 0, .i 0, .i 0, .l [], .l [], .s o.sum, .i o.lease, .s o.a, .s o.b, .l []]
theorem zl (l : List Bs) (x : Bs) (h : l.length ≤ 4611686018427387904) : Lqi none [.l (encS l), .s x] = some [.b (decide (x ∈ l))] := by
  rw [eqi_i]
  have := zbs (f := fun i : Nat => Lqi (some 2) [.l (encS l), .s x, .i (i : Int)]) .empty (l := l) (p := fun r => r = x) (T := some [.b true]) (E := some [.b false]) (fun i hi => by
    show Lqi _ _ = cond _ _ (Lqi _ _)
    rw [eqi_2]; simp (disch := omega) only [push_cast]) (by show Lqi _ _ = _; rw [eqi_2]; simp (disch := omega) only [push_cast])
  refine this.trans ?_
  by_cases h : ∃ r ∈ l, r = x
  · rw [if_pos h, decide_eq_true (p := x ∈ l) (by obtain ⟨r, hr, rfl⟩ := h; exact hr)]
  · rw [if_neg h, decide_eq_false (p := x ∈ l) (fun h3 => h ⟨x, h3, rfl⟩)]
theorem zib (s : State) (x : Bs) (h1 : s.pins.length ≤ 1000000) (h2 : s.leases.length ≤ 1000000) : Lqy none (encSt s ++ [.s x]) = some [.b (decide (held s x))] := by
  show Lqy none [.i s.width, .i s.now, .i s.given, .i s.births, .l (encK s.things), .l (encP s.pins), .l (encL s.leases), .s x] = _
  rw [eqy_i]
  have a1 := zbs (f := fun i : Nat => Lqy (some 7) [.s x, .i (i : Int), .i s.width, .i s.now, .i s.given, .i s.births, .l (encK s.things), .l (encP s.pins), .l (encL s.leases)]) L0 (l := s.leases) (p := fun l => l.sum = x) (T := some [.b true]) (E := some [.b false]) (fun i hi => by
    show Lqy _ _ = cond _ _ (Lqy _ _)
    rw [eqy_7]; simp (disch := omega) only [push_cast]) (by show Lqy _ _ = _; rw [eqy_7]; simp (disch := omega) only [push_cast])
  have a2 := zbs (f := fun i : Nat => Lqy (some 2) [.s x, .i (i : Int), .i s.width, .i s.now, .i s.given, .i s.births, .l (encK s.things), .l (encP s.pins), .l (encL s.leases)]) P0 (l := s.pins) (p := fun l => l.sum = x) (T := some [.b true]) (E := Lqy (some 7) [.s x, .i 0, .i s.width, .i s.now, .i s.given, .i s.births, .l (encK s.things), .l (encP s.pins), .l (encL s.leases)]) (fun i hi => by
    show Lqy _ _ = cond _ _ (Lqy _ _)
    rw [eqy_2]; simp (disch := omega) only [push_cast]) (by show Lqy _ _ = _; rw [eqy_2]; simp (disch := omega) only [push_cast])
  refine a2.trans ?_
  by_cases h : ∃ p ∈ s.pins, p.sum = x
  · rw [if_pos h, decide_eq_true (p := held s x) (Or.inl h)]
  · rw [if_neg h]
    refine a1.trans ?_
    by_cases h3 : ∃ l ∈ s.leases, l.sum = x
    · rw [if_pos h3, decide_eq_true (p := held s x) (Or.inr h3)]
    · rw [if_neg h3, decide_eq_false (p := held s x) (by rintro (h4 | h4); exact h h4; exact h3 h4)]
theorem zdu (w now gv b : Int) (T P : Rw) (x : Bs) (m : Int) (L : List Lease) (hl : L.length ≤ 1000000) (hg : 0 ≤ gv ∧ gv ≤ 1000000000) (hn : 0 ≤ now ∧ now ≤ 1000000000) (hm : 0 ≤ m ∧ m ≤ 1000000000) :
    Lqcl none [.i w, .i now, .i gv, .i b, .l T, .l P, .s x, .i m, .l (encL L)] = some (if L.length < 200 ∧ gv < 1000000000 then [.i 0, .i w, .i now, .i (gv + 1), .i b, .l T, .l P, .s E0, .i (gv + 1), .s E0, .s E0, .l (encL (L ++ [⟨gv + 1, x, now + m⟩]))] else [.i 4, .i 0, .i 0, .i 0, .i 0, .l [], .l [], .s E0, .i 0, .s E0, .s E0, .l []]) := by
  rw [eqcl_i, ← zcy, mostE]
  by_cases h1 : L.length < 200
  · by_cases h2 : gv < 1000000000
    · rw [if_pos ⟨h1, h2⟩]; simp (disch := omega) only [push_cast] <;> rfl
    · rw [if_neg fun h => h2 h.2]; simp (disch := omega) only [push_cast]
  · rw [if_neg fun h => h1 h.1]; simp (disch := omega) only [push_cast]
theorem zck (w now g b : Int) (T : List Kept) (P L : Rw) (hT : T.length ≤ 1000000) (hr : ∀ k ∈ T, k.thing.refs.length ≤ 1000000) (hP : P.length ≤ 1000000) (hL : L.length ≤ 1000000) :
    Lqr none [.i w, .i now, .i g, .i b, .l (encK T), .l P, .l L] = some [.i w, .i now, .i g, .i b, .l (encK T), .l P, .l L] := by
  rw [eqr_i]
  have := zt (f := fun (i : Nat) (a : List Kept) => Lqr (some 4) [.i (i : Int), .i w, .i now, .i g, .i b, .l (encK T), .l P, .l L, .i 0, .i 0, .i 0, .i 0, .i w, .i now, .i g, .i b, .l P, .l L, .l [], .l [], .l [], .l (encK a)]) (n := T.length) (T := some [.i w, .i now, .i g, .i b, .l (encK T), .l P, .l L])
    (I := fun i a => a = T.take i) (fun i a hi hI => ⟨a ++ [nth K0 T i], by
      show Lqr _ _ = Lqr _ _
      have hk := hr _ (zb (d := K0) hi)
      have hl : a.length ≤ i := by rw [hI]; simp; omega
      rw [eqr_4, mostE, ← z5]
      simp (disch := omega) only [push_cast, zdx _ (encS (nth K0 T i).thing.refs) (by rw [zr]; omega)] <;> rfl, by show a ++ [nth K0 T i] = _; rw [zz K0 hi, hI]⟩) (fun a hI => by
      show Lqr _ _ = _
      rw [eqr_4, mostE]
      simp (disch := omega) only [push_cast, List.nil_append]
      rw [hI, List.take_length]) 0 [] (Nat.zero_le _) rfl
  exact this
section
variable {s : State} {e : Entry} (V : VS s)
include V
theorem zbq : ∀ k ∈ s.things, k.thing.refs.length ≤ 1000000 := fun k hk => by have := (V.okT k hk).1.refs; omega
theorem zjw (x : Bs) (bn : Int) (t : Thing) (hx : ¬ hasT s.things x) (hb : 0 ≤ bn ∧ bn ≤ 1000000000) (hm : 0 ≤ e.number ∧ e.number ≤ 1000000000) :
    Lqv (some 20) [.s x, .b false, .i 0, .i s.width, .i s.now, .i s.given, .i bn, .l (encK s.things), .l (encP s.pins), .i e.kind, .s e.sum, .s e.name, .i e.number, .s e.thing.text, .l (encS e.thing.refs), .i 0, .i 0, .i 0, .i 0, .i 0, .s E0, .i 0, .s E0, .s E0, .l [], .s x, .i bn, .s t.text, .l (encS t.refs), .l (encL s.leases), .l [], .l [], .l []] =
      some (if room s then [.i 0, .i s.width, .i s.now, .i (s.given + 1), .i bn, .l (encK (insK ⟨x, bn, t⟩ s.things)), .l (encP s.pins), .s x, .i (s.given + 1), .s E0, .s E0, .l (encL (s.leases ++ [⟨s.given + 1, x, s.now + e.number⟩]))] else [.i 4, .i 0, .i 0, .i 0, .i 0, .l [], .l [], .s E0, .i 0, .s E0, .s E0, .l []]) := by
  have h1 := V.nT; have h2 := V.nL
  have hl := lb_le (qK x) s.things
  have := zt (f := fun (i : Nat) (a : Bool × List Kept) => Lqv (some 20) [.s x, .b a.1, .i (i : Int), .i s.width, .i s.now, .i s.given, .i bn, .l (encK s.things), .l (encP s.pins), .i e.kind, .s e.sum, .s e.name, .i e.number, .s e.thing.text, .l (encS e.thing.refs), .i 0, .i 0, .i 0, .i 0, .i 0, .s E0, .i 0, .s E0, .s E0, .l (encK a.2), .s x, .i bn, .s t.text, .l (encS t.refs), .l (encL s.leases), .l [], .l [], .l []]) (n := s.things.length)
    (T := some (if room s then [.i 0, .i s.width, .i s.now, .i (s.given + 1), .i bn, .l (encK (insK ⟨x, bn, t⟩ s.things)), .l (encP s.pins), .s x, .i (s.given + 1), .s E0, .s E0, .l (encL (s.leases ++ [⟨s.given + 1, x, s.now + e.number⟩]))] else [.i 4, .i 0, .i 0, .i 0, .i 0, .l [], .l [], .s E0, .i 0, .s E0, .s E0, .l []]))
    (I := fun i a => (i ≤ lb (qK x) s.things ∧ a = (false, s.things.take i)) ∨ (lb (qK x) s.things < i ∧ a = (true, s.things.take (lb (qK x) s.things) ++ ⟨x, bn, t⟩ :: (s.things.drop (lb (qK x) s.things)).take (i - lb (qK x) s.things)))) (fun i a hi hI => by
      rcases hI with ⟨hi2, rfl⟩ | ⟨hi2, rfl⟩
      · rcases Nat.eq_or_lt_of_le hi2 with he | hlt
        · refine ⟨(true, (s.things.take i ++ [⟨x, bn, t⟩]) ++ [nth K0 s.things i]), ?_, .inr ⟨by omega, ?_⟩⟩
          · show Lqv _ _ = Lqv _ _
            have c1 : slt (nth K0 s.things i).sum x = false := by rw [he]; exact lb_at (qK x) K0 s.things (by omega)
            have c2 : ¬ (nth K0 s.things i).sum = x := fun h => hx ⟨_, zb hi, h⟩
            rw [eqv_20, mostE, ← z5, ← z5]
            simp (disch := omega) only [push_cast, c1, Bool.false_or, decide_eq_false c2, List.length_append, List.length_take]
            rw [zcn, zcn]
          · rw [← he, Nat.add_sub_cancel_left, zcp K0 hi]; simp
        · refine ⟨(false, s.things.take i ++ [nth K0 s.things i]), ?_, .inl ⟨hlt, by rw [zz K0 hi]⟩⟩
          show Lqv _ _ = Lqv _ _
          have c1 : slt (nth K0 s.things i).sum x = true := lb_lt (qK x) K0 s.things i hlt
          rw [eqv_20, mostE, ← z5]
          simp (disch := omega) only [push_cast, c1, Bool.true_or, List.length_append, List.length_take]
          rw [zcn]
      · refine ⟨(true, (s.things.take (lb (qK x) s.things) ++ ⟨x, bn, t⟩ :: (s.things.drop (lb (qK x) s.things)).take (i - lb (qK x) s.things)) ++ [nth K0 s.things i]), ?_, .inr ⟨by omega, ?_⟩⟩
        · show Lqv _ _ = Lqv _ _
          rw [eqv_20, mostE]
          conv => rhs; rw [← z5]
          simp (disch := omega) only [push_cast, List.length_append, List.length_take, List.length_drop]
          rw [zcn]
        · congr 1
          have hd : nth K0 s.things i = nth K0 (s.things.drop (lb (qK x) s.things)) (i - lb (qK x) s.things) := by
            rw [zh _ _ _ hi, zh _ _ _ (by simp; omega)]; simp; congr 1; omega
          rw [hd, show i + 1 - lb (qK x) s.things = (i - lb (qK x) s.things) + 1 by omega, zz K0 (by simp; omega)]
          simp) (fun a hI => by
      show Lqv _ _ = _
      rw [eqv_20]
      rcases hI with ⟨hi2, rfl⟩ | ⟨hi2, rfl⟩
      · have hlb : lb (qK x) s.things = s.things.length := by omega
        have hins : insK ⟨x, bn, t⟩ s.things = s.things ++ [⟨x, bn, t⟩] := by
          unfold insK; simp only; rw [hlb, List.take_length, List.drop_length]
        rw [List.take_length, zcn, z5, hins, mostE]
        simp (disch := omega) only [push_cast, zdu s.width s.now s.given bn _ (encP s.pins) x e.number s.leases (by omega) V.given V.now hm, List.length_append]
        by_cases hr : room s
        · rw [if_pos hr, if_pos (show s.leases.length < 200 ∧ s.given < 1000000000 from hr)]; simp (disch := omega) only [push_cast] <;> rfl
        · rw [if_neg hr, if_neg (show ¬ (s.leases.length < 200 ∧ s.given < 1000000000) from hr)]; simp (disch := omega) only [push_cast] <;> rfl
      · have hins : s.things.take (lb (qK x) s.things) ++ ⟨x, bn, t⟩ :: (s.things.drop (lb (qK x) s.things)).take (s.things.length - lb (qK x) s.things) = insK ⟨x, bn, t⟩ s.things := by
          unfold insK; simp only; rw [List.take_of_length_le (l := s.things.drop _) (by simp)]
        rw [hins]
        simp (disch := omega) only [push_cast, zdu s.width s.now s.given bn _ (encP s.pins) x e.number s.leases (by omega) V.given V.now hm]
        by_cases hr : room s
        · rw [if_pos hr, if_pos (show s.leases.length < 200 ∧ s.given < 1000000000 from hr)]; simp (disch := omega) only [push_cast] <;> rfl
        · rw [if_neg hr, if_neg (show ¬ (s.leases.length < 200 ∧ s.given < 1000000000) from hr)]; simp (disch := omega) only [push_cast] <;> rfl) 0 (false, []) (Nat.zero_le _) (.inl ⟨Nat.zero_le _, rfl⟩)
  exact this
theorem zc0 (x : Bs) (P L : Rw) : Lqe none [.i s.width, .i s.now, .i s.given, .i s.births, .l (encK s.things), .l P, .l L, .s x] = some [.i (findT s.things x)] := by
  have h1 := V.nT
  exact zb1 _ _ _ _ _ _ _ _ V.srtT (by omega)
def zb4 (s : State) (e : Entry) : Lv := [.i s.width, .i s.now, .i s.given, .i s.births, .l (encK s.things), .l (encP s.pins), .i e.kind, .s e.sum, .s e.name, .i e.number, .s e.thing.text, .l (encS e.thing.refs), .l (encL s.leases)]
theorem zmw (h : ThingOk e.thing s.width) (hm : 0 ≤ e.number ∧ e.number ≤ 1000000000) : Lqv none (zb4 s e) = some (zm (putS s e)) := by
  have h1 := V.nT; have h2 := V.nL; have h3 := V.births
  have hz := zbc h
  have hfs := zbh e.thing
  unfold zb4
  rw [eqv_i]
  simp (disch := omega) only [push_cast, zb7, formT, if_pos (zcl.2 h), zbk (formM e.thing) s.width (by omega)]
  have hput := putS.eq_1 s e
  have hl := lb_le (qK (sumM (formM e.thing) s.width)) s.things
  generalize hx : sumM (formM e.thing) s.width = x at hl hput ⊢
  have := zbs (f := fun i : Nat => Lqv (some 4) [.s (formM e.thing), .s x, .i (i : Int), .i s.width, .i s.now, .i s.given, .i s.births, .l (encK s.things), .l (encP s.pins), .i e.kind, .s e.sum, .s e.name, .i e.number, .s e.thing.text, .l (encS e.thing.refs), .i 0, .i 0, .i 0, .i 0, .i 0, .s E0, .i 0, .s E0, .s E0, .l (encL s.leases), .l [], .l [], .l []])
    .empty (l := e.thing.refs) (p := fun r => ¬ hasT s.things r) (T := some (zm (fail s 2))) (E := Lqv (some 4) [.s (formM e.thing), .s x, .i (e.thing.refs.length : Int), .i s.width, .i s.now, .i s.given, .i s.births, .l (encK s.things), .l (encP s.pins), .i e.kind, .s e.sum, .s e.name, .i e.number, .s e.thing.text, .l (encS e.thing.refs), .i 0, .i 0, .i 0, .i 0, .i 0, .s E0, .i 0, .s E0, .s E0, .l (encL s.leases), .l [], .l [], .l []]) (fun i hi => by
      show Lqv _ _ = cond _ _ (Lqv _ _)
      rw [eqv_4]
      simp (disch := omega) only [push_cast, zc0 V]
      by_cases hT : hasT s.things (nth .empty e.thing.refs i)
      · rw [decide_eq_false (show ¬ findT s.things (nth .empty e.thing.refs i) < 0 from fun h => zbf.1 h hT), decide_eq_false (not_not_intro hT)]; rfl
      · rw [decide_eq_true (zbf.2 hT), decide_eq_true hT]; rfl) rfl
  refine this.trans ?_
  by_cases hr : ∃ r ∈ e.thing.refs, ¬ hasT s.things r
  · rw [if_pos hr]; unfold putS; rw [if_pos hr]
  rw [if_neg hr, hput, if_neg hr, eqv_4]
  simp (disch := omega) only [push_cast, zc0 V]
  unfold findT
  by_cases hT : hasT s.things x
  · have hi := (z9 V.srtT x).1 hT
    have hk := (V.okT _ (zb (d := K0) hi.1)).1
    rw [if_pos hT, if_pos hT]
    simp (disch := omega) only [push_cast, zb7, formT, if_pos (zcl.2 hk)]
    by_cases hf : formM (nth K0 s.things (lb (qK x) s.things)).thing = formM e.thing
    · rw [if_pos hf, decide_eq_true hf]
      simp (disch := omega) only [push_cast, zdu s.width s.now s.given s.births (encK s.things) (encP s.pins) x e.number s.leases (by omega) V.given V.now hm]
      by_cases hro : room s
      · rw [if_pos hro, if_pos (show s.leases.length < 200 ∧ s.given < 1000000000 from hro)]; simp (disch := omega) only [push_cast] <;> rfl
      · rw [if_neg hro, if_neg (show ¬ (s.leases.length < 200 ∧ s.given < 1000000000) from hro)]; simp (disch := omega) only [push_cast] <;> rfl
    · rw [if_neg hf, decide_eq_false hf]; simp (disch := omega) only [push_cast] <;> rfl
  · rw [if_neg hT, if_neg hT]
    by_cases c1 : s.things.length < 600
    · by_cases c2 : s.births < 1000000000
      · simp (disch := omega) only [push_cast, zdx _ (encS e.thing.refs) (by rw [zr]; omega)]
        have := zjw (e := e) V x (s.births + 1) e.thing hT (by omega) hm
        rw [this]
        by_cases hro : room s
        · rw [if_pos hro, if_pos ⟨hro, c1, c2⟩]; rfl
        · rw [if_neg hro, if_neg fun h => hro h.1]; rfl
      · simp (disch := omega) only [push_cast]
        rw [if_neg fun h => c2 h.2.2]; rfl
    · simp (disch := omega) only [push_cast]
      rw [if_neg fun h => c1 h.2.1]; rfl
end
end KV
end
section
namespace KV
open Go Go.Eng
open Classical
theorem zkj {α : Type} {R : α → α → Prop} {q : α → Bool} {p : α → Prop} [DecidablePred p] (d : α) {l : List α} (h : l.Pairwise R) (hp : ∀ a, p a → q a = false) (hR : ∀ a b, R a b → p b → q a = true) :
    (l.drop (lb q l)).filter (fun a => !decide (p a)) = if ∃ a ∈ l, p a then l.drop (lb q l + 1) else l.drop (lb q l) := by
  have tail : ∀ k, lb q l < k → (l.drop k).filter (fun a => !decide (p a)) = l.drop k := fun k hk => by
    apply List.filter_eq_self.2
    intro a ha
    obtain ⟨j, hj, rfl⟩ := List.mem_iff_getElem.1 ha
    simp only [List.getElem_drop, Bool.not_eq_true', decide_eq_false_iff_not]
    rw [List.length_drop] at hj
    rw [← zh d l _ (by omega)]
    intro hpj; have := zb0 d h hp hR (show k + j < l.length by omega) hpj; omega
  split
  · rename_i he
    obtain ⟨h1, h2⟩ := (zcr d h hp hR).1 he
    rw [zcp d h1, List.filter_cons, if_neg (by simp [h2]), tail _ (by omega)]
  · rename_i he
    apply List.filter_eq_self.2
    intro a ha
    simp only [Bool.not_eq_true', decide_eq_false_iff_not]
    exact fun hpa => he ⟨a, List.mem_of_mem_drop ha, hpa⟩
theorem zhu {l : List Pin} (h : SrtP l) (n x : Bs) : l.take (lb (qP n) l) ++ ⟨n, x⟩ :: (l.drop (lb (qP n) l)).filter (fun k => !decide (k.name = n)) = putP n x l := by
  rw [zkj P0 h (pp n) (pR n)]
  unfold putP
  by_cases hP : hasP l n
  · rw [if_pos (show ∃ a ∈ l, a.name = n from hP), if_pos hP, List.set_eq_take_append_cons_drop, if_pos ((zc6 h n).1 hP).1]
  · rw [if_neg (show ¬ ∃ a ∈ l, a.name = n from hP), if_neg hP]
theorem zml (l : List Pin) (n x : Bs) : (putP n x l).length = if hasP l n then l.length else l.length + 1 := by
  have := lb_le (qP n) l
  unfold putP; split
  · rw [List.length_set]
  · simp; omega
theorem zdl {α : Type} (d : α) {l : List α} {p : α → Bool} {f : Nat → List α → Option Lv} {T : Option Lv} (step : ∀ i a, i < l.length → a.length ≤ i → f i a = f (i + 1) (if p (nth d l i) = true then a ++ [nth d l i] else a)) (last : f l.length (l.filter p) = T) : f 0 [] = T := by
  refine zt (f := f) (n := l.length) (T := T) (I := fun i a => a = (l.take i).filter p) (fun i a hi hI => ?_) (fun a hI => ?_) 0 [] (Nat.zero_le _) rfl
  · refine ⟨_, step i a hi ?_, ?_⟩
    · rw [hI]; exact Nat.le_trans (List.length_filter_le _ _) (by simp; omega)
    · rw [zz d hi, List.filter_append, ← hI]
      by_cases h : p (nth d l i) = true
      · rw [if_pos h]; simp [h]
      · rw [if_neg h]; simp [h]
  · rw [hI, List.take_length]; exact last
theorem zim {α : Type} {l : List α} {p : α → Prop} [DecidablePred p] : (l.filter fun a => !decide (p a)).length = l.length ↔ ¬ ∃ a ∈ l, p a := by
  rw [List.length_filter_eq_length_iff]
  simp
def z8 (o : Out) : Lv := if o.code = 0 then [.i 0, .i o.st.width, .i o.st.now, .i o.st.given, .i o.st.births, .l (encK o.st.things), .s o.sum, .i o.lease, .s o.a, .s o.b, .l (encP o.st.pins), .l (encL o.st.leases)]
  else [.i o.code, .i 0, .i 0, .i 0, .i 0, .l [], .s o.sum, .i o.lease, .s o.a, .s o.b, .l [], .l []]
theorem zj1 {o : Out} (h : o.code = 0) : zm o = [.i 0, .i o.st.width, .i o.st.now, .i o.st.given, .i o.st.births, .l (encK o.st.things), .l (encP o.st.pins), .s o.sum, .i o.lease, .s o.a, .s o.b, .l (encL o.st.leases)] := by unfold zm; rw [if_pos h]
theorem zmk {o : Out} (h : ¬ o.code = 0) : zm o = [.i o.code, .i 0, .i 0, .i 0, .i 0, .l [], .l [], .s o.sum, .i o.lease, .s o.a, .s o.b, .l []] := by unfold zm; rw [if_neg h]
section
variable {s : State} {e : Entry} (V : VS s)
include V
theorem zkx (hk : e.kind = 2) : Lq5 none (zb4 s e) = some (z8 (chg s e)) := by
  have h2 := V.nP
  have hl := lb_le (qP e.name) s.pins
  unfold zb4 chg
  rw [eq5_i, if_neg (by omega), if_pos hk]
  simp (disch := omega) only [push_cast, zc0 V]
  by_cases hT : hasT s.things e.sum
  · rw [if_pos hT, decide_eq_false (show ¬ findT s.things e.sum < 0 from fun h => zbf.1 h hT)]
    simp (disch := omega) only [push_cast]
    have := zt (f := fun (i : Nat) (a : Bool × List Pin) => Lq5 (some 6) [.b a.1, .i (i : Int), .i s.width, .i s.now, .i s.given, .i s.births, .l (encK s.things), .l (encP s.pins), .i e.kind, .s e.sum, .s e.name, .i e.number, .s e.thing.text, .l (encS e.thing.refs), .i 0, .i 0, .i 0, .i 0, .i 0, .s E0, .i 0, .s E0, .s E0, .l (encP a.2), .l (encL s.leases), .l [], .l [], .l []]) (n := s.pins.length)
      (T := some (z8 (if hasP s.pins e.name ∨ s.pins.length < 100 then done { s with pins := putP e.name e.sum s.pins } else fail s 4)))
      (I := fun i a => (i ≤ lb (qP e.name) s.pins ∧ a = (false, s.pins.take i)) ∨ (lb (qP e.name) s.pins < i ∧ a = (true, s.pins.take (lb (qP e.name) s.pins) ++ ⟨e.name, e.sum⟩ :: ((s.pins.drop (lb (qP e.name) s.pins)).take (i - lb (qP e.name) s.pins)).filter (fun k => !decide (k.name = e.name))))) (fun i a hi hI => by
        have step11 : ∀ (b : Bool) (l : List Pin), l.length ≤ 1000 → Lq5 (some 11) [.b b, .i (i : Int), .i s.width, .i s.now, .i s.given, .i s.births, .l (encK s.things), .l (encP s.pins), .i e.kind, .s e.sum, .s e.name, .i e.number, .s e.thing.text, .l (encS e.thing.refs), .i 0, .i 0, .i 0, .i 0, .i 0, .s E0, .i 0, .s E0, .s E0, .l (encP l), .l (encL s.leases), .l [], .l [], .l []] =
            Lq5 (some 6) [.b b, .i ((i + 1 : Nat) : Int), .i s.width, .i s.now, .i s.given, .i s.births, .l (encK s.things), .l (encP s.pins), .i e.kind, .s e.sum, .s e.name, .i e.number, .s e.thing.text, .l (encS e.thing.refs), .i 0, .i 0, .i 0, .i 0, .i 0, .s E0, .i 0, .s E0, .s E0, .l (encP (if (nth P0 s.pins i).name = e.name then l else l ++ [nth P0 s.pins i])), .l (encL s.leases), .l [], .l [], .l []] := fun b l hll => by
          rw [eq5_11, mostE]
          by_cases hc : (nth P0 s.pins i).name = e.name
          · rw [if_pos hc]; simp (disch := omega) only [push_cast]
          · rw [if_neg hc, ← zb8]; simp (disch := omega) only [push_cast]; rfl
        rcases hI with ⟨hi2, rfl⟩ | ⟨hi2, rfl⟩
        · rcases Nat.eq_or_lt_of_le hi2 with he | hlt
          · refine ⟨_, ?_, .inr ⟨by omega, rfl⟩⟩
            show Lq5 _ _ = Lq5 _ _
            have c1 : slt (nth P0 s.pins i).name e.name = false := by rw [he]; exact lb_at (qP e.name) P0 s.pins (by omega)
            rw [eq5_6, mostE]
            simp (disch := omega) only [push_cast, c1, List.length_append, List.length_take]
            rw [zdm, zb8, step11 true _ (by simp; omega)]
            rw [← he, Nat.add_sub_cancel_left, zcp P0 hi]
            by_cases hc : (nth P0 s.pins i).name = e.name
            · simp [hc]
            · simp [hc]
          · refine ⟨(false, s.pins.take (i + 1)), ?_, .inl ⟨hlt, rfl⟩⟩
            show Lq5 _ _ = Lq5 _ _
            have c1 : slt (nth P0 s.pins i).name e.name = true := lb_lt (qP e.name) P0 s.pins i hlt
            have c2 : ¬ (nth P0 s.pins i).name = e.name := zn4 c1
            rw [eq5_6, mostE]
            simp (disch := omega) only [push_cast, c1]
            rw [step11 false _ (by simp; omega), if_neg c2, zz P0 hi]; simp (disch := omega) only [push_cast]
        · have hfl := List.length_filter_le (fun k : Pin => !decide (k.name = e.name)) ((s.pins.drop (lb (qP e.name) s.pins)).take (i - lb (qP e.name) s.pins))
          simp only [List.length_take, List.length_drop] at hfl
          refine ⟨_, ?_, .inr ⟨by omega, rfl⟩⟩
          show Lq5 _ _ = Lq5 _ _
          rw [eq5_6]
          simp (disch := omega) only [push_cast]
          rw [step11 true _ (by simp; omega)]
          have hd : nth P0 s.pins i = nth P0 (s.pins.drop (lb (qP e.name) s.pins)) (i - lb (qP e.name) s.pins) := by
            rw [zh _ _ _ hi, zh _ _ _ (by simp; omega)]; simp; congr 1; omega
          rw [show i + 1 - lb (qP e.name) s.pins = (i - lb (qP e.name) s.pins) + 1 by omega, zz P0 (by simp; omega), ← hd]
          by_cases hc : (nth P0 s.pins i).name = e.name
          · simp [hc, List.filter_append]
          · simp [hc, List.filter_append]) (fun a hI => by
        show Lq5 _ _ = _
        have hpl := zml s.pins e.name e.sum
        rw [eq5_6]
        rcases hI with ⟨hi2, rfl⟩ | ⟨hi2, rfl⟩
        · have hlb : lb (qP e.name) s.pins = s.pins.length := by omega
          have hnP : ¬ hasP s.pins e.name := fun h => by have := ((zc6 V.srtP e.name).1 h).1; omega
          have hF : s.pins ++ [⟨e.name, e.sum⟩] = putP e.name e.sum s.pins := by
            rw [← zhu V.srtP, hlb, List.take_length, List.drop_length]; rfl
          rw [List.take_length, zdm, zb8, hF, mostE]
          rw [if_neg hnP] at hpl
          by_cases hc : s.pins.length < 100
          · rw [if_pos (Or.inr hc)]
            simp (disch := omega) only [push_cast, hpl, List.length_append] <;> rfl
          · rw [if_neg (by rintro (h | h); exact hnP h; exact hc h)]
            simp (disch := omega) only [push_cast, hpl, List.length_append] <;> rfl
        · rw [List.take_of_length_le (l := s.pins.drop _) (by simp), zhu V.srtP]
          by_cases hP : hasP s.pins e.name
          · rw [if_pos hP] at hpl
            rw [if_pos (Or.inl hP)]
            simp (disch := omega) only [push_cast, hpl] <;> rfl
          · rw [if_neg hP] at hpl
            by_cases hc : s.pins.length < 100
            · rw [if_pos (Or.inr hc)]
              simp (disch := omega) only [push_cast, hpl] <;> rfl
            · rw [if_neg (by rintro (h | h); exact hP h; exact hc h)]
              simp (disch := omega) only [push_cast, hpl] <;> rfl) 0 (false, []) (Nat.zero_le _) (.inl ⟨Nat.zero_le _, rfl⟩)
    exact this
  · rw [if_neg hT, decide_eq_true (zbf.2 hT)]; simp (disch := omega) only [push_cast] <;> rfl
theorem zku (hk : e.kind = 3) : Lqbz none [.i s.width, .i s.now, .i s.given, .i s.births, .l (encK s.things), .l (encP s.pins), .s e.name, .l (encL s.leases)] = some (z8 (chg s e)) := by
  have h2 := V.nP
  unfold chg
  rw [eqbz_i, if_neg (by omega), if_neg (by omega), if_pos hk]
  refine zdl P0 (l := s.pins) (p := fun k => !decide (k.name = e.name)) (f := fun i a => Lqbz (some 3) [.s e.name, .i (i : Int), .i s.width, .i s.now, .i s.given, .i s.births, .l (encK s.things), .l (encP s.pins), .i 0, .i 0, .i 0, .i 0, .i 0, .s E0, .i 0, .s E0, .s E0, .l (encP a), .l (encL s.leases), .l [], .l [], .l []]) (fun i a hi ha => ?_) ?_
  · show Lqbz _ _ = Lqbz _ _
    rw [eqbz_3, mostE]
    by_cases hc : (nth P0 s.pins i).name = e.name
    · rw [if_neg (by simp [hc])]; simp (disch := omega) only [push_cast]
    · rw [if_pos (by simp [hc]), ← zb8]; simp (disch := omega) only [push_cast] <;> rfl
  · show Lqbz _ _ = _
    rw [eqbz_3]
    have hfl := zim (l := s.pins) (p := fun k => k.name = e.name)
    by_cases hP : hasP s.pins e.name
    · rw [if_pos hP]
      have : ¬ (s.pins.filter fun a => !decide (a.name = e.name)).length = s.pins.length := fun h => hfl.1 h hP
      simp (disch := omega) only [push_cast] <;> rfl
    · rw [if_neg hP]
      have : (s.pins.filter fun a => !decide (a.name = e.name)).length = s.pins.length := hfl.2 hP
      simp (disch := omega) only [push_cast] <;> rfl
theorem zm9 (hk : e.kind = 5) : Lqb0 none [.i s.width, .i s.now, .i s.given, .i s.births, .l (encK s.things), .l (encP s.pins), .i e.number, .l (encL s.leases)] = some (zm (chg s e)) := by
  have h2 := V.nL
  unfold chg
  rw [eqb0_i, if_neg (by omega), if_neg (by omega), if_neg (by omega), if_neg (by omega), if_pos hk]
  refine zdl L0 (l := s.leases) (p := fun k => !decide (k.number = e.number)) (f := fun i a => Lqb0 (some 3) [.i e.number, .i (i : Int), .i s.width, .i s.now, .i s.given, .i s.births, .l (encK s.things), .l (encP s.pins), .i 0, .i 0, .i 0, .i 0, .i 0, .s E0, .i 0, .s E0, .s E0, .l (encL a), .l (encL s.leases), .l [], .l [], .l []]) (fun i a hi ha => ?_) ?_
  · show Lqb0 _ _ = Lqb0 _ _
    rw [eqb0_3, mostE]
    by_cases hc : (nth L0 s.leases i).number = e.number
    · rw [if_neg (by simp [hc])]; simp (disch := omega) only [push_cast]
    · rw [if_pos (by simp [hc]), ← zcy]; simp (disch := omega) only [push_cast] <;> rfl
  · show Lqb0 _ _ = _
    rw [eqb0_3]
    have hfl := zim (l := s.leases) (p := fun k => k.number = e.number)
    by_cases hP : hasL s.leases e.number
    · rw [if_pos hP]
      have : ¬ (s.leases.filter fun a => !decide (a.number = e.number)).length = s.leases.length := fun h => hfl.1 h hP
      simp (disch := omega) only [push_cast] <;> rfl
    · rw [if_neg hP]
      have : (s.leases.filter fun a => !decide (a.number = e.number)).length = s.leases.length := hfl.2 hP
      simp (disch := omega) only [push_cast] <;> rfl
theorem zlv (hk : e.kind = 6) (hm : 0 ≤ e.number ∧ e.number ≤ 1000000000) : Lqb1 none [.i s.width, .i s.now, .i s.given, .i s.births, .l (encK s.things), .l (encP s.pins), .i e.number, .l (encL s.leases)] = some (zm (chg s e)) := by
  have h2 := V.nL; have h3 := V.now
  unfold chg
  rw [eqb1_i, if_neg (by omega), if_neg (by omega), if_neg (by omega), if_neg (by omega), if_neg (by omega), if_pos hk]
  by_cases hn : s.now + e.number ≤ 1000000000
  · rw [if_pos hn]
    simp (disch := omega) only [push_cast]
    refine zdl L0 (l := s.leases) (p := fun l => decide (s.now + e.number < l.till)) (f := fun i a => Lqb1 (some 6) [.i (i : Int), .i s.width, .i (s.now + e.number), .i s.given, .i s.births, .l (encK s.things), .l (encP s.pins), .i 0, .i 0, .i 0, .i 0, .i 0, .s E0, .i 0, .s E0, .s E0, .l (encL a), .l (encL s.leases), .l [], .l [], .l []]) (fun i a hi ha => ?_) ?_
    · show Lqb1 _ _ = Lqb1 _ _
      rw [eqb1_6, mostE]
      by_cases hc : s.now + e.number < (nth L0 s.leases i).till
      · rw [if_pos (by simp [hc]), ← zcy]; simp (disch := omega) only [push_cast] <;> rfl
      · rw [if_neg (by simp [hc])]; simp (disch := omega) only [push_cast]
    · show Lqb1 _ _ = _
      rw [eqb1_6]; simp (disch := omega) only [push_cast] <;> rfl
  · rw [if_neg hn]; simp (disch := omega) only [push_cast] <;> rfl
theorem zmt (hr : ¬ isRef s.things e.sum) : Lqba (some 7) [.s e.sum, .i 0, .i s.width, .i s.now, .i s.given, .i s.births, .l (encK s.things), .l (encP s.pins), .i 0, .i 0, .i 0, .i 0, .i 0, .s E0, .i 0, .s E0, .s E0, .l (encK []), .l (encL s.leases), .l [], .l [], .l []] =
    some [.i 0, .i s.width, .i s.now, .i s.given, .i s.births, .l (encP s.pins), .s E0, .i 0, .s E0, .s E0, .l (encK (delK e.sum s.things)), .l (encL s.leases)] := by
  have h1 := V.nT
  refine zdl K0 (l := s.things) (p := fun k => !decide (k.sum = e.sum)) (f := fun i a => Lqba (some 7) [.s e.sum, .i (i : Int), .i s.width, .i s.now, .i s.given, .i s.births, .l (encK s.things), .l (encP s.pins), .i 0, .i 0, .i 0, .i 0, .i 0, .s E0, .i 0, .s E0, .s E0, .l (encK a), .l (encL s.leases), .l [], .l [], .l []]) (fun i a hi ha => ?_) ?_
  · show Lqba _ _ = Lqba _ _
    have hm := zb (d := K0) hi
    have hrl := zbq V _ hm
    have hn : ¬ e.sum ∈ (nth K0 s.things i).thing.refs := fun h => hr ⟨_, hm, h⟩
    rw [eqba_7, mostE]
    by_cases hc : (nth K0 s.things i).sum = e.sum
    · rw [if_neg (by simp [hc])]; simp (disch := omega) only [push_cast, zl _ e.sum (show (nth K0 s.things i).thing.refs.length ≤ 4611686018427387904 by omega), decide_eq_false hn]
    · rw [if_pos (by simp [hc]), ← z5]; simp (disch := omega) only [push_cast, zl _ e.sum (show (nth K0 s.things i).thing.refs.length ≤ 4611686018427387904 by omega), decide_eq_false hn] <;> rfl
  · show Lqba _ _ = _
    rw [eqba_7]; simp (disch := omega) only [push_cast] <;> rfl
theorem zlk (hr : isRef s.things e.sum) : ∀ (i : Nat) (a : List Kept), i ≤ s.things.length → (a.length ≤ i ∧ ∃ j, i ≤ j ∧ j < s.things.length ∧ e.sum ∈ (nth K0 s.things j).thing.refs) → Lqba (some 7) [.s e.sum, .i (i : Int), .i s.width, .i s.now, .i s.given, .i s.births, .l (encK s.things), .l (encP s.pins), .i 0, .i 0, .i 0, .i 0, .i 0, .s E0, .i 0, .s E0, .s E0, .l (encK a), .l (encL s.leases), .l [], .l [], .l []] =
    some [.i 6, .i 0, .i 0, .i 0, .i 0, .l [], .s E0, .i 0, .s E0, .s E0, .l [], .l []] := by
  have h1 := V.nT
  intro i a hi hI
  refine zfp (f := fun i a => Lqba (some 7) [.s e.sum, .i (i : Int), .i s.width, .i s.now, .i s.given, .i s.births, .l (encK s.things), .l (encP s.pins), .i 0, .i 0, .i 0, .i 0, .i 0, .s E0, .i 0, .s E0, .s E0, .l (encK a), .l (encL s.leases), .l [], .l [], .l []]) (n := s.things.length) (I := fun i a => a.length ≤ i ∧ ∃ j, i ≤ j ∧ j < s.things.length ∧ e.sum ∈ (nth K0 s.things j).thing.refs)
    (T := fun r => r = some [.i 6, .i 0, .i 0, .i 0, .i 0, .l [], .s E0, .i 0, .s E0, .s E0, .l [], .l []]) (fun i a hi hI => ?_) (fun a hI => ?_) i a hi hI
  · obtain ⟨ha, j, hj1, hj2, hj3⟩ := hI
    have hm := zb (d := K0) hi
    have hrl := zbq V _ hm
    by_cases hn : e.sum ∈ (nth K0 s.things i).thing.refs
    · right
      show Lqba _ _ = _
      rw [eqba_7]
      simp (disch := omega) only [push_cast, zl _ e.sum (show (nth K0 s.things i).thing.refs.length ≤ 4611686018427387904 by omega), decide_eq_true hn]
    · left
      have hj : i + 1 ≤ j := by
        rcases Nat.eq_or_lt_of_le hj1 with h | h
        · rw [h] at hn; exact absurd hj3 hn
        · exact h
      by_cases hc : (nth K0 s.things i).sum = e.sum
      · refine ⟨a, ?_, by omega, j, hj, hj2, hj3⟩
        show Lqba _ _ = Lqba _ _
        rw [eqba_7]
        simp (disch := omega) only [push_cast, zl _ e.sum (show (nth K0 s.things i).thing.refs.length ≤ 4611686018427387904 by omega), decide_eq_false hn]
      · refine ⟨a ++ [nth K0 s.things i], ?_, by simp; omega, j, hj, hj2, hj3⟩
        show Lqba _ _ = Lqba _ _
        rw [eqba_7, mostE, ← z5]
        simp (disch := omega) only [push_cast, zl _ e.sum (show (nth K0 s.things i).thing.refs.length ≤ 4611686018427387904 by omega), decide_eq_false hn] <;> rfl
  · obtain ⟨_, j, h1, h2, _⟩ := hI; omega
theorem zne (hk : e.kind = 7) : (Lqba none [.i s.width, .i s.now, .i s.given, .i s.births, .l (encK s.things), .l (encP s.pins), .s e.sum, .l (encL s.leases)]).bind (fun y9 => some [.i ((g y9 0).int), .i ((g y9 1).int), .i ((g y9 2).int), .i ((g y9 3).int), .i ((g y9 4).int), .l ((g y9 10).list), .l ((g y9 5).list), .s ((g y9 6).str), .i ((g y9 7).int), .s ((g y9 8).str), .s ((g y9 9).str), .l ((g y9 11).list)]) = some (zm (chg s e)) := by
  have h2 := V.nP; have h3 := V.nL
  have hh := zib s e.sum (by omega) (by omega)
  unfold encSt at hh
  unfold chg
  rw [eqba_i, if_neg (by omega), if_neg (by omega), if_neg (by omega), if_neg (by omega), if_neg (by omega), if_neg (by omega)]
  simp (disch := omega) only [push_cast, zc0 V, show Lqy none [.i s.width, .i s.now, .i s.given, .i s.births, .l (encK s.things), .l (encP s.pins), .l (encL s.leases), .s e.sum] = _ from hh]
  by_cases hT : hasT s.things e.sum
  · rw [if_pos hT, decide_eq_false (show ¬ findT s.things e.sum < 0 from fun h => zbf.1 h hT)]
    by_cases c1 : held s e.sum
    · rw [if_pos (Or.inl c1), decide_eq_true c1]; simp (disch := omega) only [push_cast] <;> rfl
    · rw [decide_eq_false c1]
      by_cases c2 : isRef s.things e.sum
      · rw [if_pos (Or.inr c2)]
        have := zlk V c2 0 [] (Nat.zero_le _) ⟨Nat.le_refl _, by
          obtain ⟨k, hk1, hk2⟩ := c2
          obtain ⟨j, hj, rfl⟩ := zu K0 hk1
          exact ⟨j, Nat.zero_le _, hj, hk2⟩⟩
        simp (disch := omega) only [push_cast]
        rw [show Lqba (some 7) [.s e.sum, .i 0, .i s.width, .i s.now, .i s.given, .i s.births, .l (encK s.things), .l (encP s.pins), .i 0, .i 0, .i 0, .i 0, .i 0, .s E0, .i 0, .s E0, .s E0, .l [], .l (encL s.leases), .l [], .l [], .l []] = _ from this]
        rfl
      · rw [if_neg (by rintro (h | h); exact c1 h; exact c2 h)]
        have := zmt V c2
        simp (disch := omega) only [push_cast]
        rw [show Lqba (some 7) [.s e.sum, .i 0, .i s.width, .i s.now, .i s.given, .i s.births, .l (encK s.things), .l (encP s.pins), .i 0, .i 0, .i 0, .i 0, .i 0, .s E0, .i 0, .s E0, .s E0, .l [], .l (encL s.leases), .l [], .l [], .l []] = _ from this]
        rfl
  · rw [if_neg hT, decide_eq_true (zbf.2 hT)]; simp (disch := omega) only [push_cast] <;> rfl
theorem zfd (o : Out) : [Lf.i ((g (zm o) 0).int), .i ((g (zm o) 1).int), .i ((g (zm o) 2).int), .i ((g (zm o) 3).int), .i ((g (zm o) 4).int), .l ((g (zm o) 5).list), .l ((g (zm o) 6).list), .s ((g (zm o) 7).str), .i ((g (zm o) 8).int), .s ((g (zm o) 9).str), .s ((g (zm o) 10).str), .l ((g (zm o) 11).list)] = zm o := by
  unfold zm; split <;> rfl
theorem zio (o : Out) : [Lf.i ((g (z8 o) 0).int), .i ((g (z8 o) 1).int), .i ((g (z8 o) 2).int), .i ((g (z8 o) 3).int), .i ((g (z8 o) 4).int), .l ((g (z8 o) 5).list), .l ((g (z8 o) 10).list), .s ((g (z8 o) 6).str), .i ((g (z8 o) 7).int), .s ((g (z8 o) 8).str), .s ((g (z8 o) 9).str), .l ((g (z8 o) 11).list)] = zm o := by
  unfold zm z8; split <;> rfl
theorem zgp (he : zd e s.width = true) : Lqcn none (zb4 s e) = some (zm (chg s e)) := by
  have h1 := V.nT; have h2 := V.nL; have h4 := V.nP
  have hnum := EntryOk.num he; have hk := EntryOk.kd he
  have hc : e.kind = 1 ∨ e.kind = 2 ∨ e.kind = 3 ∨ e.kind = 4 ∨ e.kind = 5 ∨ e.kind = 6 ∨ e.kind = 7 := by omega
  unfold zb4
  rw [eqcn_i]
  rcases hc with h | h | h | h | h | h | h
  · have := zmw V (EntryOk.thing he h) hnum
    unfold zb4 at this
    have hp : chg s e = putS s e := by unfold chg; rw [if_pos h]
    simp (disch := omega) only [push_cast]
    rw [this, Option.bind_some, zfd V, hp]
  · have := zkx V h
    unfold zb4 at this
    simp (disch := omega) only [push_cast]
    rw [this, Option.bind_some, zio V]
  · have := zku V h
    simp (disch := omega) only [push_cast]
    rw [this, Option.bind_some, zio V]
  · simp (disch := omega) only [push_cast, zc0 V]
    unfold chg
    rw [if_neg (by omega), if_neg (by omega), if_neg (by omega), if_pos h]
    by_cases hT : hasT s.things e.sum
    · rw [if_pos hT, decide_eq_false (show ¬ findT s.things e.sum < 0 from fun h => zbf.1 h hT)]
      simp (disch := omega) only [push_cast, zck s.width s.now s.given s.births s.things (encP s.pins) (encL s.leases) (by omega) (zbq V) (by rw [zbp]; omega) (by rw [zbv]; omega), zdu s.width s.now s.given s.births (encK s.things) (encP s.pins) e.sum e.number s.leases (by omega) V.given V.now hnum]
      by_cases hro : room s
      · rw [if_pos hro, if_pos (show s.leases.length < 200 ∧ s.given < 1000000000 from hro)]; simp (disch := omega) only [push_cast] <;> rfl
      · rw [if_neg hro, if_neg (show ¬ (s.leases.length < 200 ∧ s.given < 1000000000) from hro)]; simp (disch := omega) only [push_cast] <;> rfl
    · rw [if_neg hT, decide_eq_true (zbf.2 hT)]; simp (disch := omega) only [push_cast] <;> rfl
  · have := zm9 V h
    simp (disch := omega) only [push_cast]
    rw [this, Option.bind_some, zfd V]
  · have := zlv V h hnum
    simp (disch := omega) only [push_cast]
    rw [this, Option.bind_some, zfd V]
  · have := zne V h
    simp (disch := omega) only [push_cast]
    exact this
end
end KV
end
section
namespace KV
open Go Go.Eng
open Classical
theorem EntryOk.hold {e : Entry} {w : Int} (h : zd e w = true) (hk : e.kind = 1 ∨ e.kind = 4 ∨ e.kind = 6) : 1 ≤ e.number ∧ e.number ≤ 100000 := by
  unfold zd numB at h; simp only [Bool.and_eq_true, decide_eq_true_eq] at h
  have := h.2.2.2.2.1
  rw [if_pos hk] at this
  exact of_decide_eq_true this
theorem EntryOk.name {e : Entry} {w : Int} (h : zd e w = true) (hk : e.kind = 2) : NameOk e.name := by
  unfold zd namB at h; simp only [Bool.and_eq_true, decide_eq_true_eq] at h
  have := h.2.2.2.1
  rw [if_pos (by unfold uN; simp [hk])] at this
  exact zh7.1 this
theorem zcb {k a : Kept} {l : List Kept} : a ∈ insK k l ↔ a = k ∨ a ∈ l := by
  unfold insK
  rw [List.mem_append, List.mem_cons]
  conv => rhs; rw [← List.take_append_drop (lb (qK k.sum) l) l, List.mem_append]
  constructor
  · rintro (h | h | h)
    · exact .inr (.inl h)
    · exact .inl h
    · exact .inr (.inr h)
  · rintro (h | h | h)
    · exact .inr (.inl h)
    · exact .inl h
    · exact .inr (.inr h)
theorem zge {α : Type} {l : List α} {i : Nat} {a : α} (d : α) (h : a ∈ l.take i) : ∃ j, j < i ∧ j < l.length ∧ nth d l j = a := by
  obtain ⟨j, hj, rfl⟩ := List.mem_iff_getElem.1 h
  rw [List.length_take] at hj
  exact ⟨j, by omega, by omega, by rw [zh d l j (by omega), List.getElem_take]⟩
theorem zms {α : Type} {l : List α} {i : Nat} {a : α} (d : α) (h : a ∈ l.drop i) : ∃ j, i ≤ j ∧ j < l.length ∧ nth d l j = a := by
  obtain ⟨j, hj, rfl⟩ := List.mem_iff_getElem.1 h
  rw [List.length_drop] at hj
  exact ⟨i + j, by omega, by omega, by rw [zh d l _ (by omega), List.getElem_drop]⟩
theorem zgm {α : Type} {R : α → α → Prop} {q : α → Bool} (d k : α) {l : List α} (h : l.Pairwise R) (mono : ∀ a b, R a b → q b = true → q a = true) (h1 : ∀ a, a ∈ l → q a = true → R a k) (h2 : ∀ a, a ∈ l → q a = false → R k a) (tr : ∀ a b c, R a b → R b c → R a c) : (l.take (lb q l) ++ k :: l.drop (lb q l)).Pairwise R := by
  have hd : ∀ a ∈ l.drop (lb q l), R k a := fun a ha => by
    obtain ⟨j, hj1, hj2, rfl⟩ := zms d ha
    exact h2 _ (zb hj2) (lb_hi d h mono j hj1 hj2)
  have ht : ∀ a ∈ l.take (lb q l), R a k := fun a ha => by
    obtain ⟨j, hj1, hj2, rfl⟩ := zge d ha
    exact h1 _ (zb hj2) (lb_lt q d l j hj1)
  rw [List.pairwise_append, List.pairwise_cons]
  refine ⟨h.sublist (List.take_sublist _ _), ⟨hd, h.sublist (List.drop_sublist _ _)⟩, fun a ha b hb => ?_⟩
  rcases List.mem_cons.1 hb with rfl | hb
  · exact ht a ha
  · exact tr _ _ _ (ht a ha) (hd b hb)
theorem zj3 {k : Kept} {l : List Kept} (h : SrtK l) (hk : ¬ hasT l k.sum) : SrtK (insK k l) :=
  zgm (R := fun (a b : Kept) => slt a.sum b.sum = true) (q := qK k.sum) K0 k h (fun a b hab hb => zbj hab hb) (fun a _ ha => ha) (fun a hm ha => by
    rcases zfq.1 (show slt a.sum k.sum = false from ha) with h1 | h1
    · exact absurd ⟨a, hm, h1⟩ hk
    · exact h1) (fun a b c h1 h2 => zbj h1 h2)
theorem zlh (k : Kept) (l : List Kept) : (insK k l).length = l.length + 1 := by
  have := lb_le (qK k.sum) l
  unfold insK; simp; omega
theorem zhj {k : Kept} {l : List Kept} {x : Bs} (h : hasT l x) : hasT (insK k l) x := by
  obtain ⟨j, h1, h2⟩ := h; exact ⟨j, zcb.2 (.inr h1), h2⟩
theorem zol {l : List Pin} (h : SrtP l) (n x : Bs) : SrtP (putP n x l) := by
  unfold putP
  split
  · rename_i hP
    have hi := (zc6 h n).1 hP
    unfold SrtP at h ⊢
    rw [List.pairwise_iff_getElem] at h ⊢
    intro i j hi' hj' hij
    rw [List.length_set] at hi' hj'
    have key : ∀ i (hi' : i < l.length), ((l.set (lb (qP n) l) ⟨n, x⟩)[i]'(by rw [List.length_set]; exact hi')).name = l[i].name := fun i hi' => by
      rw [List.getElem_set]
      split
      · rename_i he
        subst he
        rw [← zh P0 l _ hi']; exact hi.2.symm
      · rfl
    rw [key i hi', key j hj']
    exact h i j hi' hj' hij
  · rename_i hP
    exact zgm (R := fun (a b : Pin) => slt a.name b.name = true) (q := qP n) P0 ⟨n, x⟩ h (fun a b hab hb => zbj hab hb) (fun a _ ha => ha) (fun a hm ha => by
      rcases zfq.1 (show slt a.name n = false from ha) with h1 | h1
      · exact absurd ⟨a, hm, h1⟩ hP
      · exact h1) (fun a b c h1 h2 => zbj h1 h2)
theorem zg6 {l : List Pin} {n x : Bs} {a : Pin} (h : a ∈ putP n x l) : a = ⟨n, x⟩ ∨ a ∈ l := by
  unfold putP at h
  split at h
  · rcases List.mem_or_eq_of_mem_set h with h | h
    · exact .inr h
    · exact .inl h
  · rw [List.mem_append, List.mem_cons] at h
    rcases h with h | h | h
    · exact .inr (List.mem_of_mem_take h)
    · exact .inl h
    · exact .inr (List.mem_of_mem_drop h)
theorem zky (l : List Pin) (n x : Bs) : (putP n x l).length ≤ l.length + 1 ∧ (hasP l n → (putP n x l).length = l.length) := by
  have := lb_le (qP n) l
  unfold putP; split
  · simp
  · rename_i h; exact ⟨by simp; omega, fun h1 => absurd h1 h⟩
theorem ze9 {s : State} (V : VS s) {x : Bs} {m : Int} (hr : room s) (hx : hasT s.things x) (hm : 1 ≤ m ∧ m ≤ 100000) : VS (lent s x m) := by
  have hg := V.given
  obtain ⟨r1, r2⟩ := hr
  refine ⟨V.wd, V.now, ?_, V.births, V.nT, V.nP, ?_, V.srtT, V.okT, V.ndT, V.refs, V.srtP, V.okP, ?_, ?_⟩
  · show 0 ≤ s.given + 1 ∧ s.given + 1 ≤ 1000000000; omega
  · show (s.leases ++ [_]).length ≤ 200; simp; omega
  · show (s.leases ++ [_]).Pairwise _
    rw [List.pairwise_append]
    refine ⟨V.srtL, List.pairwise_singleton _ _, fun a ha b hb => ?_⟩
    rw [List.mem_singleton] at hb
    subst hb
    have := (V.okL a ha).2.1
    show a.number < s.given + 1; omega
  · intro l hl
    show 1 ≤ l.number ∧ l.number ≤ s.given + 1 ∧ hasT s.things l.sum ∧ s.now < l.till ∧ l.till ≤ s.now + 100000
    rcases List.mem_append.1 hl with h | h
    · obtain ⟨a, b, c, d⟩ := V.okL l h; exact ⟨a, by omega, c, d⟩
    · rw [List.mem_singleton] at h
      subst h
      refine ⟨?_, ?_, hx, ?_, ?_⟩ <;> simp only <;> omega
theorem zd5 {s : Bs} {w : Int} (hw : 1 ≤ w ∧ w ≤ 8) : ((sumM s w).size : Int) = w := zgx (zp.2 hw)
theorem zmj {s : State} (V : VS s) {t : Thing} (ht : ThingOk t s.width) (hx : ¬ hasT s.things (sumM (formM t) s.width)) (hr : ∀ r ∈ t.refs, hasT s.things r) (h1 : s.things.length < 600) (h2 : s.births < 1000000000) :
    VS { s with births := s.births + 1, things := insK ⟨sumM (formM t) s.width, s.births + 1, t⟩ s.things } := by
  have hb := V.births
  refine ⟨V.wd, V.now, V.given, ?_, ?_, V.nP, V.nL, zj3 V.srtT hx, ?_, ?_, ?_, V.srtP, ?_, V.srtL, ?_⟩
  · show 0 ≤ s.births + 1 ∧ s.births + 1 ≤ 1000000000; omega
  · show (insK _ _).length ≤ 600; rw [zlh]; omega
  · intro k hk
    show ThingOk k.thing s.width ∧ k.sum = sumM (formM k.thing) s.width ∧ 1 ≤ k.born ∧ k.born ≤ s.births + 1
    rcases zcb.1 hk with rfl | hk
    · exact ⟨ht, rfl, by simp only; omega, by simp only; omega⟩
    · obtain ⟨a, b, c, d⟩ := V.okT k hk; exact ⟨a, b, c, by omega⟩
  · show ((insK _ _).map (·.born)).Nodup
    unfold insK
    rw [List.map_append, List.map_cons]
    have hp : (List.map (·.born) (s.things.take (lb (qK (sumM (formM t) s.width)) s.things)) ++ (s.births + 1) :: List.map (·.born) (s.things.drop (lb (qK (sumM (formM t) s.width)) s.things))).Perm ((s.births + 1) :: s.things.map (·.born)) := by
      refine List.perm_middle.trans ?_
      rw [← List.map_append, List.take_append_drop]
    rw [hp.nodup_iff, List.nodup_cons]
    refine ⟨fun hm => ?_, V.ndT⟩
    obtain ⟨k, hk, he⟩ := List.mem_map.1 hm
    have := (V.okT k hk).2.2.2; omega
  · intro k hk r hkr
    rcases zcb.1 hk with rfl | hk
    · obtain ⟨j, h3, h4⟩ := hr r hkr
      refine ⟨j, zcb.2 (.inr h3), h4, ?_⟩
      have := (V.okT j h3).2.2.2
      simp only; omega
    · obtain ⟨j, h3, h4, h5⟩ := V.refs k hk r hkr
      exact ⟨j, zcb.2 (.inr h3), h4, h5⟩
  · intro p hp; exact ⟨(V.okP p hp).1, zhj (V.okP p hp).2⟩
  · intro l hl; obtain ⟨a, b, c, d⟩ := V.okL l hl; exact ⟨a, b, zhj c, d⟩
theorem zbo {x : Bs} {l : List Kept} {a : Kept} : a ∈ delK x l ↔ a ∈ l ∧ a.sum ≠ x := by unfold delK; simp
theorem zn5 {s : State} (V : VS s) {x : Bs} (hh : ¬ held s x) (hr : ¬ isRef s.things x) : VS { s with things := delK x s.things } := by
  have hs : (delK x s.things).Sublist s.things := List.filter_sublist
  have keep : ∀ y, y ≠ x → hasT s.things y → hasT (delK x s.things) y := fun y hy ⟨j, h1, h2⟩ => ⟨j, zbo.2 ⟨h1, by rw [h2]; exact hy⟩, h2⟩
  refine ⟨V.wd, V.now, V.given, V.births, Nat.le_trans hs.length_le V.nT, V.nP, V.nL, V.srtT.sublist hs, fun k hk => V.okT k (zbo.1 hk).1, (V.ndT.sublist (hs.map _)), ?_, V.srtP, ?_, V.srtL, ?_⟩
  · intro k hk r hkr
    obtain ⟨j, h3, h4, h5⟩ := V.refs k (zbo.1 hk).1 r hkr
    refine ⟨j, zbo.2 ⟨h3, ?_⟩, h4, h5⟩
    rw [h4]; rintro rfl; exact hr ⟨k, (zbo.1 hk).1, hkr⟩
  · intro p hp; exact ⟨(V.okP p hp).1, keep _ (fun h => hh (.inl ⟨p, hp, h⟩)) (V.okP p hp).2⟩
  · intro l hl; obtain ⟨a, b, c, d⟩ := V.okL l hl; exact ⟨a, b, keep _ (fun h => hh (.inr ⟨l, hl, h⟩)) c, d⟩
theorem zcx {s : State} (V : VS s) {e : Entry} (he : zd e s.width = true) (hc : (chg s e).code = 0) : VS (chg s e).st := by
  have hk := EntryOk.kd he
  unfold chg at hc ⊢
  split at hc
  · rename_i h1
    rw [if_pos h1]
    have hh := EntryOk.hold he (.inl h1)
    have ht := EntryOk.thing he h1
    unfold putS at hc ⊢
    split at hc
    · cases hc
    · rename_i hr
      rw [if_neg hr]
      have hr' : ∀ r ∈ e.thing.refs, hasT s.things r := fun r hr2 => Classical.byContradiction fun h5 => hr ⟨r, hr2, h5⟩
      split at hc
      · rename_i hT
        rw [if_pos hT]
        split at hc
        · rename_i hf
          rw [if_pos hf]
          split at hc
          · rename_i hro; rw [if_pos hro]; exact ze9 V hro hT hh
          · cases hc
        · cases hc
      · rename_i hT
        rw [if_neg hT]
        split at hc
        · rename_i hro
          rw [if_pos hro]
          exact ze9 (zmj V ht hT hr' hro.2.1 hro.2.2) hro.1 ⟨_, zcb.2 (.inl rfl), rfl⟩ hh
        · cases hc
  · rename_i h1
    rw [if_neg h1]
    split at hc
    · rename_i h2
      rw [if_pos h2]
      split at hc
      · rename_i hT
        rw [if_pos hT]
        split at hc
        · rename_i hP
          rw [if_pos hP]
          have hpl := zky s.pins e.name e.sum
          have hn := V.nP
          refine ⟨V.wd, V.now, V.given, V.births, V.nT, ?_, V.nL, V.srtT, V.okT, V.ndT, V.refs, zol V.srtP _ _, ?_, V.srtL, V.okL⟩
          · show (putP e.name e.sum s.pins).length ≤ 100
            rcases hP with hP | hP
            · rw [hpl.2 hP]; exact hn
            · omega
          · intro p hp
            rcases zg6 hp with rfl | hp
            · exact ⟨EntryOk.name he h2, hT⟩
            · exact V.okP p hp
        · cases hc
      · cases hc
    · rename_i h2
      rw [if_neg h2]
      split at hc
      · rename_i h3
        rw [if_pos h3]
        split at hc
        · rename_i hP
          rw [if_pos hP]
          have hs : (delP e.name s.pins).Sublist s.pins := List.filter_sublist
          exact ⟨V.wd, V.now, V.given, V.births, V.nT, Nat.le_trans hs.length_le V.nP, V.nL, V.srtT, V.okT, V.ndT, V.refs, V.srtP.sublist hs, fun p hp => V.okP p (hs.subset hp), V.srtL, V.okL⟩
        · cases hc
      · rename_i h3
        rw [if_neg h3]
        split at hc
        · rename_i h4
          rw [if_pos h4]
          split at hc
          · rename_i hT
            rw [if_pos hT]
            split at hc
            · rename_i hro; rw [if_pos hro]; exact ze9 V hro hT (EntryOk.hold he (.inr (.inl h4)))
            · cases hc
          · cases hc
        · rename_i h4
          rw [if_neg h4]
          split at hc
          · rename_i h5
            rw [if_pos h5]
            split at hc
            · rename_i hP
              rw [if_pos hP]
              have hs : (delL e.number s.leases).Sublist s.leases := List.filter_sublist
              exact ⟨V.wd, V.now, V.given, V.births, V.nT, V.nP, Nat.le_trans hs.length_le V.nL, V.srtT, V.okT, V.ndT, V.refs, V.srtP, V.okP, V.srtL.sublist hs, fun l hl => V.okL l (hs.subset hl)⟩
            · cases hc
          · rename_i h5
            rw [if_neg h5]
            split at hc
            · rename_i h6
              rw [if_pos h6]
              split at hc
              · rename_i hn
                rw [if_pos hn]
                have hh := EntryOk.hold he (.inr (.inr h6))
                have hnow := V.now
                have hs : (s.leases.filter fun l => decide (s.now + e.number < l.till)).Sublist s.leases := List.filter_sublist
                refine ⟨V.wd, ?_, V.given, V.births, V.nT, V.nP, Nat.le_trans hs.length_le V.nL, V.srtT, V.okT, V.ndT, V.refs, V.srtP, V.okP, V.srtL.sublist hs, fun l hl => ?_⟩
                · show 0 ≤ s.now + e.number ∧ s.now + e.number ≤ 1000000000; omega
                · obtain ⟨a, b, c, d, f⟩ := V.okL l (hs.subset hl)
                  have hl2 := (List.mem_filter.1 hl).2
                  simp only [decide_eq_true_eq] at hl2
                  exact ⟨a, b, c, hl2, by show l.till ≤ s.now + e.number + 100000; omega⟩
              · cases hc
            · rename_i h6
              rw [if_neg h6]
              split at hc
              · rename_i hT
                rw [if_pos hT]
                split at hc
                · cases hc
                · rename_i hn
                  rw [if_neg hn]
                  exact zn5 V (fun h => hn (.inl h)) (fun h => hn (.inr h))
              · cases hc
theorem zep (s : State) (e : Entry) : (chg s e).st.width = s.width := by
  unfold chg putS fail done lent
  repeat' split
  all_goals rfl
theorem zb6 {w : Int} (hw : 1 ≤ w ∧ w ≤ 8) : VS ⟨w, 0, 0, 0, [], [], []⟩ := by
  refine ⟨hw, by simp, by simp, by simp, by simp, by simp, by simp, List.Pairwise.nil, (fun k hk => by cases hk), List.nodup_nil, (fun k hk => by cases hk), List.Pairwise.nil, (fun k hk => by cases hk), List.Pairwise.nil, (fun k hk => by cases hk)⟩
end KV
end
section
namespace KV
open Go Go.Eng
open Classical
def empty (w : Int) : State := ⟨w, 0, 0, 0, [], [], []⟩
noncomputable def runL (w : Int) : State → List Bs → Nat → State ⊕ Nat
  | s, [], _ => .inl s
  | s, x :: l, i => match readE x w with
    | none => .inr (i + 1)
    | some e => if (chg s e).code = 0 then runL w (chg s e).st l (i + 1) else .inr (i + 1)
theorem zcc {w : Int} : ∀ (l : List Bs) (s : State) (i : Nat) (s' : State), VS s → s.width = w → runL w s l i = .inl s' → VS s' ∧ s'.width = w
  | [], s, i, s', V, hw, h => by simp only [runL] at h; cases h; exact ⟨V, hw⟩
  | x :: l, s, i, s', V, hw, h => by
    simp only [runL] at h
    split at h
    · cases h
    · rename_i e he
      split at h
      · rename_i hc
        have hE := (ze0 he).2
        rw [← hw] at hE
        exact zcc l _ _ _ (zcx V hE hc) ((zep s e).trans hw) h
      · cases h
theorem zd6 {w : Int} : ∀ (l m : List Bs) (s : State) (i : Nat), runL w s (l ++ m) i = match runL w s l i with | .inl s' => runL w s' m (i + l.length) | .inr n => .inr n
  | [], m, s, i => by simp [runL]
  | x :: l, m, s, i => by
    simp only [List.cons_append, runL]
    cases readE x w with
    | none => rfl
    | some e =>
      simp only
      split
      · rw [zd6 l m]; simp only [List.length_cons]; rw [show i + 1 + l.length = i + (l.length + 1) by omega]
      · rfl
theorem zf3 {w : Int} : ∀ (l : List Bs) (s : State) (i n : Nat), runL w s l i = .inr n → i < n ∧ n ≤ i + l.length
  | [], s, i, n, h => by simp [runL] at h
  | x :: l, s, i, n, h => by
    simp only [runL] at h
    rw [List.length_cons]
    split at h
    · cases h; omega
    · split at h
      · have := zf3 l _ _ _ h; omega
      · cases h; omega
def zef : State ⊕ Nat → Lv
  | .inl s => [.i s.width, .i s.now, .i s.given, .i s.births, .i 0, .l (encK s.things), .l (encP s.pins), .l (encL s.leases)]
  | .inr n => [.i 0, .i 0, .i 0, .i 0, .i (n : Int), .l [], .l [], .l []]
def Small (l : List Bs) : Prop := l.length ≤ 1099511627776 ∧ ∀ x ∈ l, x.size ≤ 1099511627776
theorem zl8 (w : Int) (l : List Bs) (hl : Small l) : ∀ (m i : Nat) (s : State), l.length - i = m → i ≤ l.length → VS s → s.width = w →
    Lqch (some 3) [.i w, .l (encS l), .i (l.length : Int), .i (i : Int), .i 0, .i 0, .i 0, .i 0, .i s.width, .i s.now, .i s.given, .i s.births, .l [], .l [], .l [], .l (encK s.things), .l (encP s.pins), .l (encL s.leases)] = some (zef (runL w s (l.drop i) i)) := by
  intro m
  induction m with
  | zero =>
    intro i s hm hi V hw
    have : i = l.length := by omega
    subst this
    rw [eqch_3, List.drop_length]; simp (disch := omega) only [push_cast] <;> rfl
  | succ m ih =>
    intro i s hm hi V hw
    have hlt : i < l.length := by omega
    have hlen := hl.1
    rw [eqch_3, zcp .empty hlt]
    simp only [runL]
    simp (disch := omega) only [push_cast, zl6 (nth .empty l i) w (hl.2 _ (zb hlt))]
    cases he : readE (nth .empty l i) w with
    | none => simp (disch := omega) only [push_cast, encOE] <;> rfl
    | some e =>
      have hE := (ze0 he).2
      rw [← hw] at hE
      have := zig V hE
      have h2 : Lqa none [.i e.kind, .s e.sum, .s e.name, .i e.number, .s e.thing.text, .l (encS e.thing.refs), .i s.width, .i s.now, .i s.given, .i s.births, .l (encK s.things), .l (encP s.pins), .l (encL s.leases)] = _ := this
      simp (disch := omega) only [push_cast, encOE, h2]
      simp only [z4, encSt, List.cons_append, List.nil_append]
      by_cases hc : (chg s e).code = 0
      · rw [if_pos hc]
        have := ih (i + 1) (chg s e).st (by omega) (by omega) (zcx V hE hc) ((zep s e).trans hw)
        simp (disch := omega) only [push_cast]
        exact this
      · rw [if_neg hc]
        simp (disch := omega) only [push_cast, decide_eq_false hc] <;> rfl
theorem znm (w : Int) (l : List Bs) (hl : Small l) (hw : 1 ≤ w ∧ w ≤ 8) : Lqch none [.i w, .l (encS l)] = some (zef (runL w (empty w) l 0)) := by
  rw [eqch_i, zr]
  exact zl8 w l hl l.length 0 (empty w) (by omega) (Nat.zero_le _) (zb6 hw) rfl
def zc2 : State ⊕ Nat → Lv
  | .inl s => [.i 0, .i s.width, .i s.now, .i s.given, .i s.births, .s E0, .i 0, .s E0, .s E0, .l (encK s.things), .l (encP s.pins), .l (encL s.leases)]
  | .inr n => [.i 7, .i 0, .i 0, .i 0, .i 0, .s E0, .i (n : Int), .s E0, .s E0, .l [], .l [], .l []]
def rep1 : Lv := [.i 1, .i 0, .i 0, .i 0, .i 0, .s E0, .i 0, .s E0, .s E0, .l [], .l [], .l []]
theorem zk7 (w : Int) (l : List Bs) (hl : Small l) : ∀ (m i : Nat) (s : State), l.length - i = m → i ≤ l.length → VS s → s.width = w →
    Lqb2 (some 5) [.i w, .l (encS l), .i (i : Int), .i 0, .i 0, .i 0, .i 0, .i 0, .s E0, .i 0, .s E0, .s E0, .i s.width, .i s.now, .i s.given, .i s.births, .l (encK s.things), .l (encP s.pins), .l [], .l [], .l [], .l (encL s.leases)] = some (zc2 (runL w s (l.drop i) i)) := by
  intro m
  induction m with
  | zero =>
    intro i s hm hi V hw
    have h1 := V.nT; have h2 := V.nP; have h3 := V.nL
    have : i = l.length := by omega
    subst this
    rw [eqb2_5, List.drop_length]
    simp (disch := omega) only [push_cast, zck s.width s.now s.given s.births s.things (encP s.pins) (encL s.leases) (by omega) (zbq V) (by rw [zbp]; omega) (by rw [zbv]; omega)]
    rfl
  | succ m ih =>
    intro i s hm hi V hw
    have hlt : i < l.length := by omega
    have hlen := hl.1
    rw [eqb2_5, zcp .empty hlt]
    simp only [runL]
    simp (disch := omega) only [push_cast, zmc (nth .empty l i) w (hl.2 _ (zb hlt))]
    cases he : readE (nth .empty l i) w with
    | none => simp (disch := omega) only [push_cast, encOE] <;> rfl
    | some e =>
      have hE := (ze0 he).2
      rw [← hw] at hE
      have := zgp V hE
      unfold zb4 at this
      by_cases hc : (chg s e).code = 0
      · rw [zj1 hc] at this
        simp (disch := omega) only [push_cast, encOE, this]
        rw [if_pos hc]
        exact ih (i + 1) (chg s e).st (by omega) (by omega) (zcx V hE hc) ((zep s e).trans hw)
      · rw [zmk hc] at this
        simp (disch := omega) only [push_cast, encOE, this]
        rw [if_neg hc]; rfl
theorem zi0 (w : Int) (l : List Bs) (hl : Small l) : Lqb2 none [.i w, .l (encS l)] = some (if ze w = true ∧ l.length ≤ 4000 then zc2 (runL w (empty w) l 0) else rep1) := by
  rw [eqb2_i, zo]
  cases hw : ze w
  · simp (disch := omega) only [push_cast, false_and] <;> rfl
  · by_cases hn : l.length ≤ 4000
    · simp (disch := omega) only [push_cast]
      rw [if_pos ⟨trivial, hn⟩]
      exact zk7 w l hl l.length 0 (empty w) (by omega) (Nat.zero_le _) (zb6 (zp.1 hw)) rfl
    · simp (disch := omega) only [push_cast]
      rw [if_neg fun h => hn h.2]; rfl
structure LogOk (a b : List Bs) : Prop where
  sa : ∀ x ∈ a, x.size ≤ 5000
  sb : ∀ x ∈ b, x.size ≤ 5000
  n : a.length + b.length ≤ 4000
theorem zg0 (l : List Bs) : (∀ j, 0 ≤ j → j < l.length → (nth .empty l j).size ≤ 5000) ↔ ∀ x ∈ l, x.size ≤ 5000 := by
  constructor
  · intro h x hx
    obtain ⟨i, hi, rfl⟩ := zu .empty hx
    exact h i (Nat.zero_le _) hi
  · intro h j _ hj; exact h _ (zb hj)
theorem zgw (a b : List Bs) : (if (∀ j, 0 ≤ j → j < a.length → (nth .empty a j).size ≤ 5000) then (if (∀ j, 0 ≤ j → j < b.length → (nth .empty b j).size ≤ 5000) then some [Lf.b (decide ((a.length : Int) + (b.length : Int) ≤ 4000))] else some [.b false]) else some [.b false]) = some [.b (decide (LogOk a b))] := by
  rw [zg0, zg0]
  by_cases h1 : ∀ x ∈ a, x.size ≤ 5000
  · rw [if_pos h1]
    by_cases h2 : ∀ x ∈ b, x.size ≤ 5000
    · rw [if_pos h2]
      by_cases h3 : a.length + b.length ≤ 4000
      · rw [decide_eq_true (p := LogOk a b) ⟨h1, h2, h3⟩, decide_eq_true (by omega)]
      · rw [decide_eq_false (p := LogOk a b) fun h => h3 h.n, decide_eq_false (by omega)]
    · rw [if_neg h2, decide_eq_false (p := LogOk a b) fun h => h2 h.sb]
  · rw [if_neg h1, decide_eq_false (p := LogOk a b) fun h => h1 h.sa]
theorem zby (a b : List Bs) (ha : Small a) (hb : Small b) : Lqq none [.l (encS a), .l (encS b)] = some [.b (decide (LogOk a b))] := by
  have h1 := ha.1; have h2 := hb.1
  rw [eqq_i, ← zgw]
  have l2 := zn (f := fun i : Nat => Lqq (some 7) [.i (i : Int), .l (encS a), .l (encS b)]) (P := fun j => (nth .empty b j).size ≤ 5000) (n := b.length) (T := some [Lf.b (decide ((a.length : Int) + (b.length : Int) ≤ 4000))]) (F := some [.b false]) (fun i hi => by
    show (_ → Lqq _ _ = _) ∧ (_ → Lqq _ _ = _)
    rw [eqq_7]
    by_cases hc : (nth .empty b i).size ≤ 5000 <;> simp (disch := omega) only [push_cast] <;> simp [hc]) (by show Lqq _ _ = _; rw [eqq_7]; simp (disch := omega) only [push_cast]) 0 (Nat.zero_le _)
  have l1 := zn (f := fun i : Nat => Lqq (some 2) [.i (i : Int), .l (encS a), .l (encS b)]) (P := fun j => (nth .empty a j).size ≤ 5000) (n := a.length) (T := Lqq (some 7) [.i 0, .l (encS a), .l (encS b)]) (F := some [.b false]) (fun i hi => by
    show (_ → Lqq _ _ = _) ∧ (_ → Lqq _ _ = _)
    rw [eqq_2]
    by_cases hc : (nth .empty a i).size ≤ 5000 <;> simp (disch := omega) only [push_cast] <;> simp [hc]) (by show Lqq _ _ = _; rw [eqq_2]; simp (disch := omega) only [push_cast]) 0 (Nat.zero_le _)
  refine l1.trans ?_
  rw [show Lqq (some 7) [.i 0, .l (encS a), .l (encS b)] = _ from l2]
theorem zkb (a b : List Bs) (ha : Small a) (hb : Small b) : Lq8 none [.l (encS a), .l (encS b)] = some [.b (decide (LogOk a b))] := by
  have h1 := ha.1; have h2 := hb.1
  rw [eq8_i, ← zgw]
  have r0 : (rd [[C.l (encS a)], [.l (encS b)]] 0 0).list = encS a := rfl
  have r1 : (rd [[C.l (encS a)], [.l (encS b)]] 1 0).list = encS b := rfl
  have t1 : (1 : Int).toNat = 1 := rfl
  have inner : ∀ (k : Int) (c : List Bs), c.length ≤ 1099511627776 → 0 ≤ k → k ≤ 2 → Lq8 (some 5) [.i 2, .i k, .l (encS c), .i (c.length : Int), .i 0, .l (encS a), .l (encS b), .l [[.l (encS a)], [.l (encS b)]]] =
      if (∀ j, 0 ≤ j → j < c.length → (nth .empty c j).size ≤ 5000) then Lq8 (some 2) [.i 2, .i (k + 1), .l (encS a), .l (encS b), .l [[.l (encS a)], [.l (encS b)]]] else some [.b false] := fun k c hcl hk0 hk2 =>
    zn (f := fun i : Nat => Lq8 (some 5) [.i 2, .i k, .l (encS c), .i (c.length : Int), .i (i : Int), .l (encS a), .l (encS b), .l [[.l (encS a)], [.l (encS b)]]]) (P := fun j => (nth .empty c j).size ≤ 5000) (n := c.length) (fun i hi => by
      show (_ → Lq8 _ _ = _) ∧ (_ → Lq8 _ _ = _)
      rw [eq8_5]
      have hf : ∀ s : Bs, Lqdh none [.s s] = some [.b (decide ((s.size : Int) ≤ 5000))] := fun s => by rw [eqdh_i]
      by_cases hc : (nth .empty c i).size ≤ 5000 <;> simp (disch := omega) only [push_cast, hf] <;> simp [hc]) (by show Lq8 _ _ = _; rw [eq8_5]; simp (disch := omega) only [push_cast]) 0 (Nat.zero_le _)
  show Lq8 (some 2) [.i 2, .i 0, .l (encS a), .l (encS b), .l [[C.l (encS a)], [.l (encS b)]]] = _
  rw [eq8_2]
  show Lq8 (some 5) [.i 2, .i 0, .l (encS a), .i ((encS a).length : Int), .i 0, .l (encS a), .l (encS b), .l [[C.l (encS a)], [.l (encS b)]]] = _
  rw [zr, inner 0 a h1 (by omega) (by omega)]
  split
  · show Lq8 (some 2) [.i 2, .i 1, .l (encS a), .l (encS b), .l [[C.l (encS a)], [.l (encS b)]]] = _
    rw [eq8_2]
    show Lq8 (some 5) [.i 2, .i 1, .l (encS b), .i ((encS b).length : Int), .i 0, .l (encS a), .l (encS b), .l [[C.l (encS a)], [.l (encS b)]]] = _
    rw [zr, inner 1 b h2 (by omega) (by omega)]
    split
    · show Lq8 (some 2) [.i 2, .i 2, .l (encS a), .l (encS b), .l [[C.l (encS a)], [.l (encS b)]]] = _
      rw [eq8_2]; simp (disch := omega) only [push_cast]
    · rfl
  · rfl
theorem zm2 (a b : List Bs) (ha : Small a) (hb : Small b) (hn : a.length + b.length ≤ 1099511627776) : Lqdi none [.l (encS a), .l (encS b)] = some [.l (encS (a ++ b))] := by
  rw [eqdi_i, mostE, zb9 _ (by rw [zr]; exact ha.1), ← zi]; simp (disch := omega) only [push_cast]
theorem zhl (a b : List Bs) (hn : a.length + b.length ≤ 1099511627776) : Lqcr none [.l (encS a), .l (encS b)] = some [.l (encS (a ++ b))] := by
  rw [eqcr_i, mostE, ← zi]; simp (disch := omega) only [push_cast, List.nil_append]
theorem zh6 (a b : List Bs) (ha : Small a) (hb : Small b) : Lqco none [.l (encS a), .l (encS b)] = some [.l (encS a), .l (encS b)] := by
  rw [eqco_i, zb9 _ (by rw [zr]; exact ha.1), zb9 _ (by rw [zr]; exact hb.1)]; simp (disch := omega) only [push_cast]
end KV
end
section
namespace KV
open Go Go.Eng
open Classical
theorem Kept.ext' {a b : Kept} (h1 : a.sum = b.sum) (h2 : a.born = b.born) (h3 : a.thing.text = b.thing.text) (h4 : a.thing.refs = b.thing.refs) : a = b := by
  obtain ⟨s, n, ⟨x, r⟩⟩ := a; obtain ⟨s', n', ⟨x', r'⟩⟩ := b
  simp only at h1 h2 h3 h4
  subst h1; subst h2; subst h3; subst h4; rfl
theorem Pin.ext' {a b : Pin} (h1 : a.name = b.name) (h2 : a.sum = b.sum) : a = b := by
  obtain ⟨s, n⟩ := a; obtain ⟨s', n'⟩ := b
  simp only at h1 h2
  subst h1; subst h2; rfl
theorem Lease.ext' {a b : Lease} (h1 : a.number = b.number) (h2 : a.sum = b.sum) (h3 : a.till = b.till) : a = b := by
  obtain ⟨s, n, m⟩ := a; obtain ⟨s', n', m'⟩ := b
  simp only at h1 h2 h3
  subst h1; subst h2; subst h3; rfl
theorem zdp {α : Type} (d : α) {a b : List α} (hl : a.length = b.length) (h : ∀ j, 0 ≤ j → j < a.length → nth d a j = nth d b j) : a = b := by
  apply List.ext_getElem hl
  intro i h1 h2
  rw [← zh d a i h1, ← zh d b i h2]; exact h i (Nat.zero_le _) h1
structure Small1 (s : State) : Prop where
  nT : s.things.length ≤ 1099511627776
  nP : s.pins.length ≤ 1099511627776
  nL : s.leases.length ≤ 1099511627776
  t : ∀ k ∈ s.things, 1 + szs k.thing.refs + k.thing.text.size ≤ 1099511627776 ∧ k.thing.refs.length ≤ 1099511627776
theorem VS.small {s : State} (V : VS s) : Small1 s := by
  have h1 := V.nT; have h2 := V.nP; have h3 := V.nL
  exact ⟨by omega, by omega, by omega, fun k hk => by have := zbc (V.okT k hk).1; omega⟩
def Cut (a b : State) : Prop := ∀ i, i < a.things.length → i < b.things.length → (nth K0 a.things i).thing.text = (nth K0 b.things i).thing.text → (nth K0 a.things i).thing.refs.length = (nth K0 b.things i).thing.refs.length →
  formM (nth K0 a.things i).thing = formM (nth K0 b.things i).thing → (nth K0 a.things i).thing.refs = (nth K0 b.things i).thing.refs
theorem Cut.refl (a : State) : Cut a a := fun _ _ _ _ _ _ => rfl
theorem znf (a b : State) : a = b ↔ a.width = b.width ∧ a.now = b.now ∧ a.given = b.given ∧ a.births = b.births ∧ a.things = b.things ∧ a.pins = b.pins ∧ a.leases = b.leases := by
  constructor
  · rintro rfl; exact ⟨rfl, rfl, rfl, rfl, rfl, rfl, rfl⟩
  · rintro ⟨h1, h2, h3, h4, h5, h6, h7⟩
    obtain ⟨w, n, g, b', T, P, L⟩ := a; obtain ⟨w', n', g', b'', T', P', L'⟩ := b
    simp only at *
    subst h1; subst h2; subst h3; subst h4; subst h5; subst h6; subst h7; rfl
theorem zgr (a b : Pin) : ((Eng.seq a.name b.name) && ((Eng.seq a.sum b.sum) && true)) = decide (a = b) := by
  rw [zdy, zdy, Bool.and_true]
  by_cases h : a = b
  · subst h; simp
  · rw [decide_eq_false h]
    by_cases h1 : a.name = b.name
    · by_cases h2 : a.sum = b.sum
      · exact absurd (Pin.ext' h1 h2) h
      · simp [h2]
    · simp [h1]
theorem zf2 (a b : Lease) : ((a.number == b.number) && ((Eng.seq a.sum b.sum) && ((a.till == b.till) && true))) = decide (a = b) := by
  rw [zdy, Bool.and_true]
  by_cases h : a = b
  · subst h; simp
  · rw [decide_eq_false h]
    by_cases h1 : a.number = b.number
    · by_cases h2 : a.sum = b.sum
      · by_cases h3 : a.till = b.till
        · exact absurd (Lease.ext' h1 h2 h3) h
        · simp [h3]
      · simp [h2]
    · simp [h1]
theorem zh9 {a b : State} (hT : a.things = b.things) (h0 : a.width = b.width ∧ a.now = b.now ∧ a.given = b.given ∧ a.births = b.births) (hP : a.pins.length = b.pins.length) (hL : a.leases.length = b.leases.length) :
    (if (∀ j, 0 ≤ j → j < a.pins.length → nth P0 a.pins j = nth P0 b.pins j) then (if (∀ j, 0 ≤ j → j < a.leases.length → nth L0 a.leases j = nth L0 b.leases j) then some [Lf.b true] else some [.b false]) else some [.b false]) = some [.b (decide (a = b))] := by
  split
  · rename_i h1
    split
    · rename_i h2
      rw [decide_eq_true (p := a = b)]
      exact (znf a b).2 ⟨h0.1, h0.2.1, h0.2.2.1, h0.2.2.2, hT, zdp P0 hP h1, zdp L0 hL h2⟩
    · rename_i h2
      rw [decide_eq_false (p := a = b)]
      rintro rfl; exact h2 fun _ _ _ => rfl
  · rename_i h1
    rw [decide_eq_false (p := a = b)]
    rintro rfl; exact h1 fun _ _ _ => rfl
theorem zk0 {a b : State} (ha : Small1 a) (hb : Small1 b) (hU : Cut a b) : Lqn none (encSt a ++ encSt b) = some [.b (decide (a = b))] := by
  have a1 := ha.nT; have a2 := ha.nP; have a3 := ha.nL; have b1 := hb.nT; have b2 := hb.nP; have b3 := hb.nL
  show Lqn none [.i a.width, .i a.now, .i a.given, .i a.births, .l (encK a.things), .l (encP a.pins), .l (encL a.leases), .i b.width, .i b.now, .i b.given, .i b.births, .l (encK b.things), .l (encP b.pins), .l (encL b.leases)] = _
  rw [eqn_i]
  have no : ∀ p : Prop, [Decidable p] → (a = b → p) → ¬ p → decide (a = b) = false := fun p _ h1 h2 => decide_eq_false fun h3 => h2 (h1 h3)
  by_cases h1 : a.width = b.width
  rotate_left; · rw [no _ (fun h => by rw [h]) h1]; simp (disch := omega) only [push_cast]
  by_cases h2 : a.now = b.now
  rotate_left; · rw [no _ (fun h => by rw [h]) h2]; simp (disch := omega) only [push_cast]
  by_cases h3 : a.given = b.given
  rotate_left; · rw [no _ (fun h => by rw [h]) h3]; simp (disch := omega) only [push_cast]
  by_cases h4 : a.births = b.births
  rotate_left; · rw [no _ (fun h => by rw [h]) h4]; simp (disch := omega) only [push_cast]
  by_cases h5 : a.things.length = b.things.length
  rotate_left; · rw [no _ (fun h => by rw [h]) h5]; simp (disch := omega) only [push_cast]
  by_cases h6 : a.pins.length = b.pins.length
  rotate_left; · rw [no _ (fun h => by rw [h]) h6]; simp (disch := omega) only [push_cast]
  by_cases h7 : a.leases.length = b.leases.length
  rotate_left; · rw [no _ (fun h => by rw [h]) h7]; simp (disch := omega) only [push_cast]
  simp (disch := omega) only [push_cast]
  have l3 := zn (f := fun i : Nat => Lqn (some 17) [.i (a.leases.length : Int), .i (i : Int), .i a.width, .i a.now, .i a.given, .i a.births, .l (encK a.things), .l (encP a.pins), .l (encL a.leases), .i b.width, .i b.now, .i b.given, .i b.births, .l (encK b.things), .l (encP b.pins), .l (encL b.leases)])
    (P := fun j => nth L0 a.leases j = nth L0 b.leases j) (n := a.leases.length) (T := some [.b true]) (F := some [.b false]) (fun i hi => by
      show (_ → Lqn _ _ = _) ∧ (_ → Lqn _ _ = _)
      rw [eqn_17]
      simp only [zce, zgz, zhg, zhd, zf2]
      by_cases hc : nth L0 a.leases i = nth L0 b.leases i <;> simp (disch := omega) only [push_cast] <;> simp [hc]) (by show Lqn _ _ = _; rw [eqn_17]; simp (disch := omega) only [push_cast]) 0 (Nat.zero_le _)
  have l2 := zn (f := fun i : Nat => Lqn (some 11) [.i (a.pins.length : Int), .i (i : Int), .i a.width, .i a.now, .i a.given, .i a.births, .l (encK a.things), .l (encP a.pins), .l (encL a.leases), .i b.width, .i b.now, .i b.given, .i b.births, .l (encK b.things), .l (encP b.pins), .l (encL b.leases)])
    (P := fun j => nth P0 a.pins j = nth P0 b.pins j) (n := a.pins.length) (T := Lqn (some 17) [.i (a.leases.length : Int), .i 0, .i a.width, .i a.now, .i a.given, .i a.births, .l (encK a.things), .l (encP a.pins), .l (encL a.leases), .i b.width, .i b.now, .i b.given, .i b.births, .l (encK b.things), .l (encP b.pins), .l (encL b.leases)]) (F := some [.b false]) (fun i hi => by
      show (_ → Lqn _ _ = _) ∧ (_ → Lqn _ _ = _)
      rw [eqn_11]
      simp only [zce, zg9, zie, zgr]
      by_cases hc : nth P0 a.pins i = nth P0 b.pins i <;> simp (disch := omega) only [push_cast] <;> simp [hc]) (by show Lqn _ _ = _; rw [eqn_11]; simp (disch := omega) only [push_cast]) 0 (Nat.zero_le _)
  have l1 := zn (f := fun i : Nat => Lqn (some 4) [.l (encK a.things), .i (a.things.length : Int), .i (i : Int), .i a.width, .i a.now, .i a.given, .i a.births, .l (encK a.things), .l (encP a.pins), .l (encL a.leases), .i b.width, .i b.now, .i b.given, .i b.births, .l (encK b.things), .l (encP b.pins), .l (encL b.leases)])
    (P := fun j => nth K0 a.things j = nth K0 b.things j) (n := a.things.length) (T := Lqn (some 11) [.i (a.pins.length : Int), .i 0, .i a.width, .i a.now, .i a.given, .i a.births, .l (encK a.things), .l (encP a.pins), .l (encL a.leases), .i b.width, .i b.now, .i b.given, .i b.births, .l (encK b.things), .l (encP b.pins), .l (encL b.leases)]) (F := some [.b false]) (fun i hi => by
      show (_ → Lqn _ _ = _) ∧ (_ → Lqn _ _ = _)
      rw [eqn_4]
      have hsa := ha.t _ (zb (d := K0) hi)
      have hsb := hb.t _ (zb (d := K0) (show i < b.things.length by omega))
      have hu := hU i hi (by omega)
      obtain ⟨x, hx⟩ : ∃ x, nth K0 a.things i = x := ⟨_, rfl⟩
      obtain ⟨y, hy⟩ : ∃ y, nth K0 b.things i = y := ⟨_, rfl⟩
      rw [hx] at hsa hu ⊢
      rw [hy] at hsb hu ⊢
      by_cases c1 : x.sum = y.sum
      · by_cases c2 : x.born = y.born
        · by_cases c3 : x.thing.text = y.thing.text
          · by_cases c4 : x.thing.refs.length = y.thing.refs.length
            · by_cases c5 : formM x.thing = formM y.thing
              · obtain rfl : x = y := Kept.ext' c1 c2 c3 (hu c3 c4 c5)
                simp (disch := omega) only [push_cast, hx, hy, zee x.thing hsa.1 (by omega)]
                simp
              · have : ¬ x = y := fun h => c5 (by rw [h])
                simp (disch := omega) only [push_cast, hx, hy, zee x.thing hsa.1 (by omega), zee y.thing hsb.1 (by omega)]
                simp [this]
            · have : ¬ x = y := fun h => c4 (by rw [h])
              simp (disch := omega) only [push_cast, hx, hy]; simp [this]
          · have : ¬ x = y := fun h => c3 (by rw [h])
            simp (disch := omega) only [push_cast, hx, hy]; simp [this]
        · have : ¬ x = y := fun h => c2 (by rw [h])
          simp (disch := omega) only [push_cast, hx, hy]; simp [this]
      · have : ¬ x = y := fun h => c1 (by rw [h])
        simp (disch := omega) only [push_cast, hx, hy]; simp [this]) (by show Lqn _ _ = _; rw [eqn_4]; simp (disch := omega) only [push_cast]) 0 (Nat.zero_le _)
  refine l1.trans ?_
  split
  · rename_i hT
    have hTe : a.things = b.things := zdp K0 h5 hT
    refine l2.trans ?_
    rw [show Lqn (some 17) [.i (a.leases.length : Int), .i 0, .i a.width, .i a.now, .i a.given, .i a.births, .l (encK a.things), .l (encP a.pins), .l (encL a.leases), .i b.width, .i b.now, .i b.given, .i b.births, .l (encK b.things), .l (encP b.pins), .l (encL b.leases)] = _ from l3]
    exact zh9 hTe ⟨h1, h2, h3, h4⟩ h6 h7
  · rename_i hT
    rw [decide_eq_false (p := a = b)]
    rintro rfl; exact hT fun _ _ _ => rfl
end KV
end
section
namespace KV
open Go Go.Eng
open Classical
structure Round where
  phase : Int
  queue : List Bs
  marked : List Bs
  top : Int
  at_ : Int
  rounds : Int
def R0 : Round := ⟨0, [], [], 0, 0, 0⟩
def encR (r : Round) : Lv := [.i r.phase, .l (encS r.queue), .l (encS r.marked), .i r.top, .i r.at_, .i r.rounds]
structure RoundOk (w births : Int) (r : Round) : Prop where
  ph : 0 ≤ r.phase ∧ r.phase ≤ 2
  rds : 0 ≤ r.rounds ∧ r.rounds ≤ 1000000000
  nQ : r.queue.length ≤ 23200
  nM : r.marked.length ≤ 600
  szM : ∀ x ∈ r.marked, (x.size : Int) = w
  ndM : r.marked.Nodup
  szQ : ∀ x ∈ r.queue, (x.size : Int) = w
  rest : r.phase = 0 → r.queue = [] ∧ r.marked = [] ∧ r.top = 0 ∧ r.at_ = 0
  go : r.phase ≠ 0 → 0 ≤ r.top ∧ r.top ≤ births ∧ 1 ≤ r.at_ ∧ r.at_ ≤ r.top + 1 ∧ (r.phase = 1 → r.at_ = r.top + 1)
theorem zbr (n : Int) : Lqck none [.i n] = some [.b (decide (0 ≤ n ∧ n ≤ 1000000000))] := by
  rw [eqck_i]
  by_cases h : 0 ≤ n
  · simp (disch := omega) only [push_cast]; congr 3; exact decide_eq_decide.2 ⟨fun h1 => ⟨h, h1⟩, fun h1 => h1.2⟩
  · simp (disch := omega) only [push_cast]; rw [decide_eq_false (p := 0 ≤ n ∧ n ≤ 1000000000) fun h1 => h h1.1]
theorem zj (n a b : Int) : Lqz none [.i n, .i a, .i b] = some [.b (decide (a ≤ n ∧ n ≤ b))] := by
  rw [eqz_i]
  by_cases h : a ≤ n
  · simp (disch := omega) only [push_cast]; congr 3; exact decide_eq_decide.2 ⟨fun h1 => ⟨h, h1⟩, fun h1 => h1.2⟩
  · simp (disch := omega) only [push_cast]; rw [decide_eq_false (p := a ≤ n ∧ n ≤ b) fun h1 => h h1.1]
def setM (ks : List Bs) : List (C × C) := ks.map fun k => (.s k, .b true)
theorem ceq_s (x y : Bs) : ceq .s (.s x) (.s y) = decide (x = y) := by
  show (x.data == y.data) = _
  by_cases h : x = y
  · subst h; simp
  · rw [decide_eq_false h, beq_eq_false_iff_ne]
    intro e; apply h; cases x; cases y; exact congrArg _ e
theorem zh4 (x : Bs) : ∀ ks : List Bs, mget .s (.s x) (setM ks) = if x ∈ ks then some (.b true) else none
  | [] => by simp [setM, mget]
  | k :: ks => by
    show cond (ceq .s (.s x) (.s k)) (some (.b true)) (mget .s (.s x) (setM ks)) = _
    rw [ceq_s, zh4 x ks]
    by_cases h : x = k
    · subst h; simp
    · simp [h]
theorem zek (x : Bs) : ∀ ks : List Bs, x ∉ ks → mput .s (.s x) (.b true) (setM ks) = setM (ks ++ [x])
  | [], _ => by simp [setM, mput]
  | k :: ks, h => by
    show cond (ceq .s (.s x) (.s k)) _ _ = _
    rw [ceq_s, decide_eq_false (fun e => h (by rw [e]; simp)), cond_false]
    show (C.s k, C.b true) :: mput .s (.s x) (.b true) (setM ks) = _
    rw [zek x ks (fun e => h (by simp [e]))]; rfl
theorem inM (x : Bs) (ks : List Bs) : (((mget .s (.s x) (setM ks)).getD (.b false)).bool) = decide (x ∈ ks) := by
  rw [zh4]
  by_cases h : x ∈ ks
  · rw [if_pos h, decide_eq_true h]; rfl
  · rw [if_neg h, decide_eq_false h]; rfl
def mkP (w : Int) (m : List Bs) (j : Nat) : Prop := ((nth .empty m j).size : Int) = w ∧ nth .empty m j ∉ m.take j
theorem zd1 (w : Int) (m : List Bs) : (∀ j, 0 ≤ j → j < m.length → mkP w m j) ↔ (∀ x ∈ m, (x.size : Int) = w) ∧ m.Nodup := by
  have hnd : m.Nodup ↔ ∀ j, 0 ≤ j → j < m.length → nth .empty m j ∉ m.take j := by
    constructor
    · intro h j _ hj hm
      obtain ⟨i, h1, h2, h3⟩ := zge .empty hm
      have := zd7 (R := fun a b => a ≠ b) .empty h h1 hj
      exact this h3
    · intro h
      rw [List.Nodup, List.pairwise_iff_getElem]
      intro i j hi hj hij he
      apply h j (Nat.zero_le _) hj
      rw [zh _ _ _ hj, ← he]
      exact List.mem_take_iff_getElem.2 ⟨i, by omega, rfl⟩
  rw [hnd]
  constructor
  · intro h
    refine ⟨fun x hx => ?_, fun j h1 h2 => (h j h1 h2).2⟩
    obtain ⟨i, hi, rfl⟩ := zu .empty hx
    exact (h i (Nat.zero_le _) hi).1
  · rintro ⟨h1, h2⟩ j h3 h4; exact ⟨h1 _ (zb h4), h2 j h3 h4⟩
theorem zer (w : Int) (m : List Bs) : (∀ j, 0 ≤ j → j < m.length → ((nth .empty m j).size : Int) = w) ↔ ∀ x ∈ m, (x.size : Int) = w := by
  constructor
  · intro h x hx
    obtain ⟨i, hi, rfl⟩ := zu .empty hx
    exact h i (Nat.zero_le _) hi
  · intro h j _ hj; exact h _ (zb hj)
noncomputable def lastB (births : Int) (r : Round) : Bool := if r.phase = 0 then decide (r.queue = [] ∧ r.marked = [] ∧ r.top = 0 ∧ r.at_ = 0) else decide (0 ≤ r.top ∧ r.top ≤ births ∧ 1 ≤ r.at_ ∧ r.at_ ≤ r.top + 1 ∧ (r.phase = 1 → r.at_ = r.top + 1))
theorem zid (w births : Int) (r : Round) : RoundOk w births r ↔ (0 ≤ r.phase ∧ r.phase ≤ 2) ∧ (0 ≤ r.rounds ∧ r.rounds ≤ 1000000000) ∧ r.queue.length ≤ 23200 ∧ r.marked.length ≤ 600 ∧ ((∀ x ∈ r.marked, (x.size : Int) = w) ∧ r.marked.Nodup) ∧ (∀ x ∈ r.queue, (x.size : Int) = w) ∧ lastB births r = true := by
  unfold lastB
  constructor
  · intro h
    refine ⟨h.ph, h.rds, h.nQ, h.nM, ⟨h.szM, h.ndM⟩, h.szQ, ?_⟩
    split
    · rename_i h0; exact decide_eq_true (h.rest h0)
    · rename_i h0; exact decide_eq_true (h.go h0)
  · rintro ⟨a, b, c, d, ⟨e1, e2⟩, f, h⟩
    refine ⟨a, b, c, d, e1, e2, f, fun h0 => ?_, fun h0 => ?_⟩
    · rw [if_pos h0] at h; exact of_decide_eq_true h
    · rw [if_neg h0] at h; exact of_decide_eq_true h
theorem zgb (s : State) (r : Round) (hb : 0 ≤ s.births ∧ s.births ≤ 1000000000) : Lqu none (encR r ++ encSt s) = some [.b (decide (RoundOk s.width s.births r))] := by
  show Lqu none [.i r.phase, .l (encS r.queue), .l (encS r.marked), .i r.top, .i r.at_, .i r.rounds, .i s.width, .i s.now, .i s.given, .i s.births, .l (encK s.things), .l (encP s.pins), .l (encL s.leases)] = _
  rw [equ_i]
  have hri := zid s.width s.births r
  have no : ∀ p : Prop, (RoundOk s.width s.births r → p) → ¬ p → decide (RoundOk s.width s.births r) = false := fun p h1 h2 => decide_eq_false fun h3 => h2 (h1 h3)
  by_cases h1 : 0 ≤ r.phase
  rotate_left; · rw [no _ (fun h => h.ph.1) h1]; simp (disch := omega) only [push_cast]
  by_cases h2 : r.phase ≤ 2
  rotate_left; · rw [no _ (fun h => h.ph.2) h2]; simp (disch := omega) only [push_cast]
  by_cases h3 : 0 ≤ r.rounds ∧ r.rounds ≤ 1000000000
  rotate_left; · rw [no _ (fun h => h.rds) h3]; simp (disch := omega) only [push_cast, zbr]
  by_cases h4 : r.queue.length ≤ 23200
  rotate_left; · rw [no _ (fun h => h.nQ) h4]; simp (disch := omega) only [push_cast, zbr]
  by_cases h5 : r.marked.length ≤ 600
  rotate_left; · rw [no _ (fun h => h.nM) h5]; simp (disch := omega) only [push_cast, zbr]
  simp (disch := omega) only [push_cast, zbr]
  have l2 := zn (f := fun i : Nat => Lqu (some 12) [.l (encS r.queue), .i (r.queue.length : Int), .i (i : Int), .i s.width, .i s.now, .i s.given, .i s.births, .l (encK s.things), .l (encP s.pins), .l (encL s.leases), .i r.phase, .l (encS r.queue), .l (encS r.marked), .i r.top, .i r.at_, .i r.rounds])
    (P := fun j => ((nth .empty r.queue j).size : Int) = s.width) (n := r.queue.length) (T := some [.b (lastB s.births r)]) (F := some [.b false]) (fun i hi => by
      show (_ → Lqu _ _ = _) ∧ (_ → Lqu _ _ = _)
      rw [equ_12]
      by_cases hc : ((nth .empty r.queue i).size : Int) = s.width <;> simp (disch := omega) only [push_cast] <;> simp [hc]) (by
      show Lqu _ _ = _
      rw [equ_12]
      unfold lastB
      by_cases c0 : r.phase = 0
      · rw [if_pos c0]
        by_cases c1 : r.queue.length + r.marked.length = 0
        · have q0 : r.queue = [] := List.eq_nil_of_length_eq_zero (by omega)
          have m0 : r.marked = [] := List.eq_nil_of_length_eq_zero (by omega)
          rw [q0, m0]
          by_cases c2 : r.top = 0
          · simp (disch := omega) only [push_cast]; simp [c2]
          · simp (disch := omega) only [push_cast]; simp [c2]
        · have : ¬ (r.queue = [] ∧ r.marked = [] ∧ r.top = 0 ∧ r.at_ = 0) := by rintro ⟨h, h', _⟩; exact c1 (by rw [h, h']; rfl)
          simp (disch := omega) only [push_cast]; rw [decide_eq_false this]
      · rw [if_neg c0]
        by_cases c1 : 0 ≤ r.top
        · by_cases c2 : r.top ≤ s.births
          · by_cases c3 : 1 ≤ r.at_
            · by_cases c4 : r.at_ ≤ r.top + 1
              · by_cases c5 : r.phase = 1
                · simp (disch := omega) only [push_cast]; congr 3; exact decide_eq_decide.2 ⟨fun h => ⟨c1, c2, c3, c4, fun _ => h⟩, fun h => h.2.2.2.2 c5⟩
                · simp (disch := omega) only [push_cast]; rw [decide_eq_true (p := 0 ≤ r.top ∧ r.top ≤ s.births ∧ 1 ≤ r.at_ ∧ r.at_ ≤ r.top + 1 ∧ (r.phase = 1 → r.at_ = r.top + 1)) ⟨c1, c2, c3, c4, fun h => absurd h c5⟩]
              · simp (disch := omega) only [push_cast]; rw [decide_eq_false fun h => c4 h.2.2.2.1]
            · simp (disch := omega) only [push_cast]; rw [decide_eq_false fun h => c3 h.2.2.1]
          · simp (disch := omega) only [push_cast]; rw [decide_eq_false fun h => c2 h.2.1]
        · simp (disch := omega) only [push_cast]; rw [decide_eq_false fun h => c1 h.1]) 0 (Nat.zero_le _)
  have l1 := zn (f := fun i : Nat => Lqu (some 5) [.l (encS r.marked), .i (r.marked.length : Int), .i (i : Int), .i s.width, .i s.now, .i s.given, .i s.births, .l (encK s.things), .l (encP s.pins), .l (encL s.leases), .i r.phase, .l (encS r.queue), .l (encS r.marked), .i r.top, .i r.at_, .i r.rounds, .m (setM (r.marked.take i))])
    (P := mkP s.width r.marked) (n := r.marked.length) (T := Lqu (some 12) [.l (encS r.queue), .i (r.queue.length : Int), .i 0, .i s.width, .i s.now, .i s.given, .i s.births, .l (encK s.things), .l (encP s.pins), .l (encL s.leases), .i r.phase, .l (encS r.queue), .l (encS r.marked), .i r.top, .i r.at_, .i r.rounds]) (F := some [.b false]) (fun i hi => by
      show (_ → Lqu _ _ = _) ∧ (_ → Lqu _ _ = _)
      rw [equ_5]
      unfold mkP
      by_cases hc : ((nth .empty r.marked i).size : Int) = s.width
      · by_cases hm : nth .empty r.marked i ∈ r.marked.take i
        · simp (disch := omega) only [push_cast, inM, decide_eq_true hm]; simp [hm]
        · simp (disch := omega) only [push_cast, inM, decide_eq_false hm]; rw [zek _ _ hm, ← zz .empty hi]; simp [hm, hc]
      · simp (disch := omega) only [push_cast]; simp [hc]) (by show Lqu _ _ = _; rw [equ_5]; simp (disch := omega) only [push_cast]) 0 (Nat.zero_le _)
  refine l1.trans ?_
  rw [show Lqu (some 12) [.l (encS r.queue), .i (r.queue.length : Int), .i 0, .i s.width, .i s.now, .i s.given, .i s.births, .l (encK s.things), .l (encP s.pins), .l (encL s.leases), .i r.phase, .l (encS r.queue), .l (encS r.marked), .i r.top, .i r.at_, .i r.rounds] = _ from l2]
  split
  · rename_i hM
    rw [zd1] at hM
    split
    · rename_i hQ
      rw [zer] at hQ
      cases hl : lastB s.births r
      · rw [no _ (fun h => ((hri.1 h).2.2.2.2.2.2)) (by rw [hl]; simp)]
      · rw [decide_eq_true (hri.2 ⟨⟨h1, h2⟩, h3, h4, h5, hM, hQ, hl⟩)]
    · rename_i hQ
      rw [zer] at hQ
      rw [no _ (fun h => h.szQ) hQ]
  · rename_i hM
    rw [zd1] at hM
    rw [no _ (fun h => ⟨h.szM, h.ndM⟩) hM]
end KV
end
section
namespace KV
open Go Go.Eng
open Classical
theorem zln (w now g b : Int) (T : List Kept) (P L : Rw) (hT : T.length ≤ 1099511627775) (hr : ∀ k ∈ T, k.thing.refs.length ≤ 1099511627776) (hP : P.length ≤ 1099511627776) (hL : L.length ≤ 1099511627776) :
    Lqb7 none [.i w, .i now, .i g, .i b, .l (encK T), .l P, .l L] = some [.i w, .i now, .i g, .i b, .l (encK T), .l P, .l L] := by
  rw [eqb7_i, zcv]
  have := zt (f := fun (i : Nat) (a : List Kept) => Lqb7 (some 4) [.l (encK T), .i (T.length : Int), .i (i : Int), .i w, .i now, .i g, .i b, .l P, .l L, .i 0, .i 0, .i 0, .i 0, .l (encK a), .l [], .l [], .l []]) (n := T.length) (T := some [.i w, .i now, .i g, .i b, .l (encK T), .l P, .l L])
    (I := fun i a => a = T.take i) (fun i a hi hI => ⟨a ++ [nth K0 T i], by
      show Lqb7 _ _ = Lqb7 _ _
      have hk := hr _ (zb (d := K0) hi)
      have hl : a.length ≤ i := by rw [hI]; simp; omega
      rw [eqb7_4, mostE, ← z5]
      simp (disch := omega) only [push_cast, zb9 (encS (nth K0 T i).thing.refs) (by rw [zr]; omega)] <;> rfl, by show a ++ [nth K0 T i] = _; rw [zz K0 hi, hI]⟩) (fun a hI => by
      show Lqb7 _ _ = _
      rw [eqb7_4, mostE]
      simp (disch := omega) only [push_cast]
      rw [hI, List.take_length]) 0 [] (Nat.zero_le _) rfl
  exact this
def encRo (r : Round) : Lv := [.i r.phase, .i r.top, .i r.at_, .i r.rounds, .l (encS r.queue), .l (encS r.marked)]
theorem zh5 (r : Round) (h1 : r.queue.length ≤ 1099511627776) (h2 : r.marked.length ≤ 1099511627776) : Lqcm none (encR r) = some (encRo r) := by
  unfold encR encRo
  rw [eqcm_i, zb9 _ (by rw [zr]; exact h1), zb9 _ (by rw [zr]; exact h2)]; simp (disch := omega) only [push_cast]
structure Vault where
  width : Int
  limit : Int
  safe : List Bs
  loose : List Bs
  st : State
  rd : Round
def V0 : Vault := ⟨0, 0, [], [], ⟨0, 0, 0, 0, [], [], []⟩, R0⟩
def encV (v : Vault) : Lv := [.i v.width, .i v.limit, .l (encS v.safe), .l (encS v.loose), .i v.st.width, .i v.st.now, .i v.st.given, .i v.st.births, .l (encK v.st.things), .l (encP v.st.pins), .l (encL v.st.leases), .i v.rd.phase, .l (encS v.rd.queue), .l (encS v.rd.marked), .i v.rd.top, .i v.rd.at_, .i v.rd.rounds]
def vI (v : Vault) : Lv := [.i v.width, .i v.limit, .i v.st.width, .i v.st.now, .i v.st.given, .i v.st.births, .i v.rd.phase, .i v.rd.top, .i v.rd.at_, .i v.rd.rounds]
def vL (v : Vault) : Lv := [.l (encS v.safe), .l (encS v.loose), .l (encK v.st.things), .l (encP v.st.pins), .l (encL v.st.leases), .l (encS v.rd.queue), .l (encS v.rd.marked)]
structure SmallV (v : Vault) : Prop where
  a : Small v.safe
  b : Small v.loose
  ab : v.safe.length + v.loose.length ≤ 1099511627776
  st : Small1 v.st
  nT : v.st.things.length ≤ 1099511627775
  q : v.rd.queue.length ≤ 1099511627776
  m : v.rd.marked.length ≤ 1099511627776
theorem znu {v : Vault} (h : SmallV v) : Lqdl none (encV v) = some (vI v ++ vL v) := by
  unfold encV
  rw [eqdl_i, zh6 _ _ h.a h.b]
  have h1 := zh5 v.rd h.q h.m
  unfold encR encRo at h1
  simp (disch := omega) only [push_cast, zln v.st.width v.st.now v.st.given v.st.births v.st.things (encP v.st.pins) (encL v.st.leases) h.nT (fun k hk => (h.st.t k hk).2) (by rw [zbp]; exact h.st.nP) (by rw [zbv]; exact h.st.nL), h1]
  rfl
structure VV (v : Vault) : Prop where
  wd : ze v.width = true
  lim : 0 ≤ v.limit ∧ v.limit ≤ 1000000
  log : LogOk v.safe v.loose
  run : runL v.width (empty v.width) (v.safe ++ v.loose) 0 = .inl v.st
  rd : RoundOk v.st.width v.st.births v.rd
theorem VV.vs {v : Vault} (h : VV v) : VS v.st ∧ v.st.width = v.width := zcc _ _ _ _ (zb6 (zp.1 h.wd)) rfl h.run
theorem VV.small {v : Vault} (h : VV v) : SmallV v := by
  have hn := h.log.n; have hq := h.rd.nQ; have hm := h.rd.nM; have hT := h.vs.1.nT
  refine ⟨⟨by omega, fun x hx => by have := h.log.sa x hx; omega⟩, ⟨by omega, fun x hx => by have := h.log.sb x hx; omega⟩, by omega, h.vs.1.small, by omega, by omega, by omega⟩
def CutV (v : Vault) : Prop := ∀ s, runL v.width (empty v.width) (v.safe ++ v.loose) 0 = .inl s → Cut s v.st
theorem VV.cut {v : Vault} (h : VV v) : CutV v := fun s hs => by rw [h.run] at hs; cases hs; exact Cut.refl _
def encO : Vault ⊕ Int → Lv
  | .inl v => [.i v.width, .i v.limit, .i v.st.width, .i v.st.now, .i v.st.given, .i v.st.births, .i 0, .l [], .l [], .i 0, .i 0, .i 0, .i 0, .l (encS v.safe), .l (encS v.loose), .l (encK v.st.things), .l (encP v.st.pins), .l (encL v.st.leases)]
  | .inr c => [.i 0, .i 0, .i 0, .i 0, .i 0, .i 0, .i 0, .l [], .l [], .i 0, .i 0, .i 0, .i c, .l [], .l [], .l [], .l [], .l []]
noncomputable def openM (w lim : Int) (a b : List Bs) : Vault ⊕ Int :=
  if ze w = true ∧ (0 ≤ lim ∧ lim ≤ 1000000) ∧ LogOk a b then (match runL w (empty w) (a ++ b) 0 with
    | .inl s => .inl ⟨w, lim, a, b, s, R0⟩
    | .inr _ => .inr 2)
  else .inr 1
theorem Small.app {a b : List Bs} (ha : Small a) (hb : Small b) (hn : a.length + b.length ≤ 1099511627776) : Small (a ++ b) :=
  ⟨by rw [List.length_append]; exact hn, fun x hx => by rcases List.mem_append.1 hx with h | h; exact ha.2 x h; exact hb.2 x h⟩
theorem zmr (w lim : Int) (a b : List Bs) (ha : Small a) (hb : Small b) (hn : a.length + b.length ≤ 1099511627776) : Lqdj none [.i w, .i lim, .l (encS a), .l (encS b)] = some (encO (openM w lim a b)) := by
  rw [eqdj_i, zbe, zkb _ _ ha hb, zm2 _ _ ha hb hn]
  unfold openM
  cases hw : ze w
  · simp (disch := omega) only [push_cast]
    rw [if_neg fun h => by cases h.1]; rfl
  by_cases h1 : 0 ≤ lim
  rotate_left; · simp (disch := omega) only [push_cast]; rw [if_neg fun h => h1 h.2.1.1]; rfl
  by_cases h2 : lim ≤ 1000000
  rotate_left; · simp (disch := omega) only [push_cast]; rw [if_neg fun h => h2 h.2.1.2]; rfl
  by_cases h3 : LogOk a b
  rotate_left; · simp (disch := omega) only [push_cast, decide_eq_false h3]; rw [if_neg fun h => h3 h.2.2]; rfl
  simp (disch := omega) only [push_cast, decide_eq_true h3, znm w _ (ha.app hb hn) (zp.1 hw), zh6 _ _ ha hb]
  rw [if_pos ⟨trivial, ⟨h1, h2⟩, h3⟩]
  cases hr : runL w (empty w) (a ++ b) 0 with
  | inl s => simp only [zef]; simp (disch := omega) only [push_cast]; rfl
  | inr n =>
    have := (zf3 _ _ _ _ hr).1
    simp only [zef]; simp (disch := omega) only [push_cast]; rfl
theorem zhw {v : Vault} (h : SmallV v) (hc : CutV v) : Lqcp none (encV v) = some [.b (decide (VV v))] := by
  unfold encV
  rw [eqcp_i, zmr _ _ _ _ h.a h.b h.ab]
  unfold openM
  by_cases hg : ze v.width = true ∧ (0 ≤ v.limit ∧ v.limit ≤ 1000000) ∧ LogOk v.safe v.loose
  · rw [if_pos hg]
    cases hr : runL v.width (empty v.width) (v.safe ++ v.loose) 0 with
    | inl s =>
      have V := zcc _ _ _ _ (zb6 (zp.1 hg.1)) rfl hr
      have hs := zk0 V.1.small h.st (hc s hr)
      have hs' : Lqn none [.i s.width, .i s.now, .i s.given, .i s.births, .l (encK s.things), .l (encP s.pins), .l (encL s.leases), .i v.st.width, .i v.st.now, .i v.st.given, .i v.st.births, .l (encK v.st.things), .l (encP v.st.pins), .l (encL v.st.leases)] = _ := hs
      simp only [encO]
      simp (disch := omega) only [push_cast, hs']
      by_cases he : s = v.st
      · rw [decide_eq_true he]
        subst he
        have hro := zgb v.st v.rd V.1.births
        have hro' : Lqu none [.i v.rd.phase, .l (encS v.rd.queue), .l (encS v.rd.marked), .i v.rd.top, .i v.rd.at_, .i v.rd.rounds, .i v.st.width, .i v.st.now, .i v.st.given, .i v.st.births, .l (encK v.st.things), .l (encP v.st.pins), .l (encL v.st.leases)] = _ := hro
        simp (disch := omega) only [push_cast, hro']
        congr 3
        exact decide_eq_decide.2 ⟨fun h1 => ⟨hg.1, hg.2.1, hg.2.2, hr, h1⟩, fun h1 => h1.rd⟩
      · rw [decide_eq_false he, decide_eq_false (p := VV v) fun h1 => he (by have := h1.run; rw [hr] at this; cases this; rfl)]; rfl
    | inr n =>
      simp only [encO]
      simp (disch := omega) only [push_cast]
      rw [decide_eq_false (p := VV v) fun h1 => by have := h1.run; rw [hr] at this; cases this]
  · rw [if_neg hg]
    simp only [encO]
    simp (disch := omega) only [push_cast]
    rw [decide_eq_false (p := VV v) fun h1 => hg ⟨h1.wd, h1.lim, h1.log⟩]
def roomM (s : State) : Nat := (s.things.map fun k => (formM k.thing).size).sum
theorem zki {l : List Nat} : ∀ {i : Nat}, (l.take i).sum ≤ l.sum := fun {i} => by
  conv => rhs; rw [← List.take_append_drop i l, List.sum_append]
  omega
theorem zmh {s : State} (V : VS s) : roomM s ≤ 1344600 := by
  have : ∀ T : List Kept, (∀ k ∈ T, ThingOk k.thing s.width) → (T.map fun k => (formM k.thing).size).sum ≤ 2241 * T.length := by
    intro T
    induction T with
    | nil => intro _; simp
    | cons a T ih =>
      intro h
      have h1 := zbc (h a (by simp)); have h2 := zbh a.thing; have h3 := ih fun k hk => h k (by simp [hk])
      simp only [List.map_cons, List.sum_cons, List.length_cons]; omega
  have h1 := this s.things fun k hk => (V.okT k hk).1
  have h2 := V.nT
  unfold roomM; omega
noncomputable def zbx (s : State) (r : Round) (x : Bs) : Round := if hasT s.things x ∧ r.phase ≠ 0 ∧ x ∉ r.marked ∧ r.queue.length < 23200 then { r with queue := r.queue ++ [x] } else r
theorem zci (l : List Bs) (x : Bs) (h : l.length ≤ 4611686018427387904) : Lqbu none [.l (encS l), .s x] = some [.b (decide (x ∈ l))] := by
  rw [eqbu_i, zr]
  have := zbs (f := fun i : Nat => Lqbu (some 2) [.s x, .l (encS l), .i (l.length : Int), .i (i : Int)]) .empty (l := l) (p := fun r => x = r) (T := some [.b true]) (E := some [.b false]) (fun i hi => by
    show Lqbu _ _ = cond _ _ (Lqbu _ _)
    rw [eqbu_2]; simp (disch := omega) only [push_cast]) (by show Lqbu _ _ = _; rw [eqbu_2]; simp (disch := omega) only [push_cast])
  refine this.trans ?_
  by_cases h : ∃ r ∈ l, x = r
  · rw [if_pos h, decide_eq_true (p := x ∈ l) (by obtain ⟨r, hr, rfl⟩ := h; exact hr)]
  · rw [if_neg h, decide_eq_false (p := x ∈ l) (fun h3 => h ⟨x, h3, rfl⟩)]
theorem zm4 {w b : Int} {s : State} {r : Round} {x : Bs} (h : RoundOk w b r) (hx : (x.size : Int) = w) : RoundOk w b (zbx s r x) := by
  unfold zbx
  split
  · rename_i hc
    refine ⟨h.ph, h.rds, ?_, h.nM, h.szM, h.ndM, ?_, fun h0 => absurd h0 hc.2.1, h.go⟩
    · show (r.queue ++ [x]).length ≤ 23200; rw [List.length_append]; simp; omega
    · intro y hy
      rcases List.mem_append.1 hy with h1 | h1
      · exact h.szQ y h1
      · rw [List.mem_singleton] at h1; rw [h1]; exact hx
  · exact h
theorem RoundOk.mono {w b b' : Int} {r : Round} (h : RoundOk w b r) (hb : b ≤ b') : RoundOk w b' r :=
  ⟨h.ph, h.rds, h.nQ, h.nM, h.szM, h.ndM, h.szQ, h.rest, fun h0 => by obtain ⟨a, b, c⟩ := h.go h0; exact ⟨a, by omega, c⟩⟩
end KV
end
section
namespace KV
open Go Go.Eng
open Classical
structure Did where
  code : Int
  v : Vault
  sum : Bs
  lease : Int
  a : Bs
  b : Bs
def zk (d : Did) : Lv := .i d.code :: (vI d.v ++ ([.s d.sum, .i d.lease, .s d.a, .s d.b] ++ vL d.v))
def same (v : Vault) (c : Int) : Did := ⟨c, v, E0, 0, E0, E0⟩
def zbn (e : Entry) (o : Out) : Bs := if e.kind = 1 then o.sum else e.sum
noncomputable def doE (v : Vault) (e : Entry) (sh : Bool) : Did :=
  if ¬ VV v then same V0 1
  else if ¬ zd e v.width = true then same v 1
  else if ¬ (chg v.st e).code = 0 then { same v (chg v.st e).code with a := (chg v.st e).a, b := (chg v.st e).b }
  else if e.kind = 1 ∧ v.limit < (roomM (chg v.st e).st : Int) then same v 8
  else if v.safe.length + v.loose.length = 4000 then same v 9
  else ⟨0, { v with loose := v.loose ++ [formE e], st := (chg v.st e).st, rd := if sh = true then zbx (chg v.st e).st v.rd (zbn e (chg v.st e)) else v.rd }, (chg v.st e).sum, (chg v.st e).lease, E0, E0⟩
end KV
end
section
namespace KV
open Go Go.Eng
open Classical
theorem zc4 (d : Did) : [Lf.i ((g (zk d) 0).int), .i ((g (zk d) 1).int), .i ((g (zk d) 2).int), .i ((g (zk d) 3).int), .i ((g (zk d) 4).int), .i ((g (zk d) 5).int), .i ((g (zk d) 6).int), .i ((g (zk d) 7).int), .i ((g (zk d) 8).int), .i ((g (zk d) 9).int), .i ((g (zk d) 10).int), .s ((g (zk d) 11).str), .i ((g (zk d) 12).int), .s ((g (zk d) 13).str), .s ((g (zk d) 14).str), .l ((g (zk d) 15).list), .l ((g (zk d) 16).list), .l ((g (zk d) 17).list), .l ((g (zk d) 18).list), .l ((g (zk d) 19).list), .l ((g (zk d) 20).list), .l ((g (zk d) 21).list)] = zk d := rfl
def ePut (t : Thing) (hold : Int) : Entry := ⟨1, E0, E0, hold, t⟩
noncomputable def zdt (v : Vault) (x : Bs) : Option Thing := if VV v ∧ hasT v.st.things x then some (nth K0 v.st.things (lb (qK x) v.st.things)).thing else none
theorem zjn {v : Vault} (h : SmallV v) (hc : CutV v) (x : Bs) : Lqcu none (encV v ++ [.s x]) = some (encOT (zdt v x)) := by
  have hvv := zhw h hc
  unfold encV at hvv
  show Lqcu none [.i v.width, .i v.limit, .l (encS v.safe), .l (encS v.loose), .i v.st.width, .i v.st.now, .i v.st.given, .i v.st.births, .l (encK v.st.things), .l (encP v.st.pins), .l (encL v.st.leases), .i v.rd.phase, .l (encS v.rd.queue), .l (encS v.rd.marked), .i v.rd.top, .i v.rd.at_, .i v.rd.rounds, .s x] = _
  rw [eqcu_i, hvv]
  unfold zdt
  by_cases V : VV v
  · have Vs := V.vs.1
    have hn := Vs.nT
    rw [decide_eq_true V]
    simp (disch := omega) only [push_cast, zba _ _ _ _ v.st.things _ _ x Vs.srtT (by omega)]
    by_cases hT : hasT v.st.things x
    · have hi := ((z9 Vs.srtT x).1 hT).1
      have hr := (h.st.t _ (zb (d := K0) hi)).2
      rw [decide_eq_true hT, if_pos ⟨V, hT⟩]
      simp (disch := omega) only [push_cast, zb9 (encS (nth K0 v.st.things (lb (qK x) v.st.things)).thing.refs) (by rw [zr]; exact hr)]
      rfl
    · rw [decide_eq_false hT, if_neg fun h => hT h.2]; rfl
  · rw [decide_eq_false V, if_neg fun h => V h.1]; rfl
theorem zji {s : State} {e : Entry} (h : (chg s e).code = 0) : s.births ≤ (chg s e).st.births := by
  unfold chg putS fail done lent at h ⊢
  repeat' split
  all_goals first | exact Int.le_refl _ | (show s.births ≤ s.births + 1; omega)
theorem zmv {s : State} (V : VS s) {r : Round} (x : Bs) (h : RoundOk s.width s.births r) : RoundOk s.width s.births (zbx s r x) := by
  by_cases hT : hasT s.things x
  · obtain ⟨k, hk, he⟩ := hT
    refine zm4 h ?_
    rw [← he, (V.okT k hk).2.1]
    exact zd5 V.wd
  · unfold zbx; rw [if_neg fun h => hT h.1]; exact h
theorem zhh {v : Vault} {e : Entry} {sh : Bool} (h : (doE v e sh).code = 0) : VV v ∧ zd e v.width = true ∧ (chg v.st e).code = 0 ∧ VV (doE v e sh).v := by
  unfold doE at h ⊢
  split at h
  · cases h
  · rename_i V
    have V := Classical.not_not.1 V
    rw [if_neg (not_not_intro V)]
    split at h
    · cases h
    · rename_i he
      have he := Classical.not_not.1 he
      rw [if_neg (not_not_intro he)]
      split at h
      · rename_i hc; exact absurd h hc
      · rename_i hc
        have hc := Classical.not_not.1 hc
        rw [if_neg (not_not_intro hc)]
        split at h
        · cases h
        · rename_i h8
          rw [if_neg h8]
          split at h
          · cases h
          · rename_i h9
            rw [if_neg h9]
            refine ⟨V, he, hc, ?_⟩
            have Vs := V.vs
            have he' : zd e v.st.width = true := by rw [Vs.2]; exact he
            have Vc := zcx Vs.1 he' hc
            have hfs := zew he
            have hl := V.log.n
            refine ⟨V.wd, V.lim, ⟨V.log.sa, fun x hx => ?_, ?_⟩, ?_, ?_⟩
            · rcases List.mem_append.1 hx with h1 | h1
              · exact V.log.sb x h1
              · rw [List.mem_singleton] at h1; rw [h1]; omega
            · show v.safe.length + (v.loose ++ [formE e]).length ≤ 4000
              rw [List.length_append]; simp; omega
            · show runL v.width (empty v.width) (v.safe ++ (v.loose ++ [formE e])) 0 = .inl (chg v.st e).st
              rw [← List.append_assoc, zd6, V.run]
              simp only [runL, ze3 he]
              rw [if_pos hc]
            · show RoundOk (chg v.st e).st.width (chg v.st e).st.births (if sh = true then zbx (chg v.st e).st v.rd (zbn e (chg v.st e)) else v.rd)
              have hr : RoundOk (chg v.st e).st.width (chg v.st e).st.births v.rd := by
                rw [zep]; exact V.rd.mono (zji hc)
              split
              · exact zmv Vc _ hr
              · exact hr
end KV
end
section
namespace KV
open Go Go.Eng
open Classical
theorem zhq (a b : Thing) (ha : a.refs.length ≤ 1099511627776) (hb : b.refs.length ≤ 1099511627776) : Lqb9 none [.s a.text, .l (encS a.refs), .s b.text, .l (encS b.refs)] = some [.b (decide (a = b))] := by
  obtain ⟨x, r⟩ := a; obtain ⟨y, t⟩ := b
  simp only at ha hb ⊢
  rw [eqb9_i]
  by_cases h0 : x = y
  rotate_left; · simp (disch := omega) only [push_cast]; rw [decide_eq_false (p := (⟨x, r⟩ : Thing) = ⟨y, t⟩)]; intro e; cases e; exact h0 rfl
  by_cases h : r.length = t.length
  · have l1 := zn (f := fun i : Nat => Lqb9 (some 4) [.i (i : Int), .s x, .l (encS r), .s y, .l (encS t)]) (P := fun j => nth .empty r j = nth .empty t j) (n := r.length) (T := some [.b true]) (F := some [.b false]) (fun i hi => by
      show (_ → Lqb9 _ _ = _) ∧ (_ → Lqb9 _ _ = _)
      rw [eqb9_4]
      by_cases hc : nth .empty r i = nth .empty t i <;> simp (disch := omega) only [push_cast] <;> simp [hc]) (by show Lqb9 _ _ = _; rw [eqb9_4]; simp (disch := omega) only [push_cast]) 0 (Nat.zero_le _)
    simp (disch := omega) only [push_cast]
    refine l1.trans ?_
    split
    · rename_i hh; rw [decide_eq_true (p := (⟨x, r⟩ : Thing) = ⟨y, t⟩) (by rw [h0, zdp .empty h hh])]
    · rename_i hh; rw [decide_eq_false (p := (⟨x, r⟩ : Thing) = ⟨y, t⟩)]; intro e; cases e; exact hh fun _ _ _ => rfl
  · have : ¬ (⟨x, r⟩ : Thing) = ⟨y, t⟩ := fun e => h (by cases e; rfl)
    simp (disch := omega) only [push_cast]; rw [decide_eq_false this]
theorem zjh {a b : State} (ha : Small1 a) (hb : Small1 b) : Lqo none (encSt a ++ encSt b) = some [.b (decide (a = b))] := by
  have a1 := ha.nT; have a2 := ha.nP; have a3 := ha.nL; have b1 := hb.nT; have b2 := hb.nP; have b3 := hb.nL
  show Lqo none [.i a.width, .i a.now, .i a.given, .i a.births, .l (encK a.things), .l (encP a.pins), .l (encL a.leases), .i b.width, .i b.now, .i b.given, .i b.births, .l (encK b.things), .l (encP b.pins), .l (encL b.leases)] = _
  rw [eqo_i]
  have no : ∀ p : Prop, [Decidable p] → (a = b → p) → ¬ p → decide (a = b) = false := fun p _ h1 h2 => decide_eq_false fun h3 => h2 (h1 h3)
  by_cases h1 : a.width = b.width
  rotate_left; · rw [no _ (fun h => by rw [h]) h1]; simp (disch := omega) only [push_cast]
  by_cases h2 : a.now = b.now
  rotate_left; · rw [no _ (fun h => by rw [h]) h2]; simp (disch := omega) only [push_cast]
  by_cases h3 : a.given = b.given
  rotate_left; · rw [no _ (fun h => by rw [h]) h3]; simp (disch := omega) only [push_cast]
  by_cases h4 : a.births = b.births
  rotate_left; · rw [no _ (fun h => by rw [h]) h4]; simp (disch := omega) only [push_cast]
  by_cases h5 : a.things.length = b.things.length
  rotate_left; · rw [no _ (fun h => by rw [h]) h5]; simp (disch := omega) only [push_cast]
  by_cases h6 : a.pins.length = b.pins.length
  rotate_left; · rw [no _ (fun h => by rw [h]) h6]; simp (disch := omega) only [push_cast]
  by_cases h7 : a.leases.length = b.leases.length
  rotate_left; · rw [no _ (fun h => by rw [h]) h7]; simp (disch := omega) only [push_cast]
  simp (disch := omega) only [push_cast]
  have l3 := zn (f := fun i : Nat => Lqo (some 14) [.i (i : Int), .i a.width, .i a.now, .i a.given, .i a.births, .l (encK a.things), .l (encP a.pins), .l (encL a.leases), .i b.width, .i b.now, .i b.given, .i b.births, .l (encK b.things), .l (encP b.pins), .l (encL b.leases)])
    (P := fun j => nth L0 a.leases j = nth L0 b.leases j) (n := a.leases.length) (T := some [.b true]) (F := some [.b false]) (fun i hi => by
      show (_ → Lqo _ _ = _) ∧ (_ → Lqo _ _ = _)
      rw [eqo_14]
      simp only [zce, zgz, zhg, zhd, zf2]
      by_cases hc : nth L0 a.leases i = nth L0 b.leases i <;> simp (disch := omega) only [push_cast] <;> simp [hc]) (by show Lqo _ _ = _; rw [eqo_14]; simp (disch := omega) only [push_cast]) 0 (Nat.zero_le _)
  have l2 := zn (f := fun i : Nat => Lqo (some 9) [.i (i : Int), .i a.width, .i a.now, .i a.given, .i a.births, .l (encK a.things), .l (encP a.pins), .l (encL a.leases), .i b.width, .i b.now, .i b.given, .i b.births, .l (encK b.things), .l (encP b.pins), .l (encL b.leases)])
    (P := fun j => nth P0 a.pins j = nth P0 b.pins j) (n := a.pins.length) (T := Lqo (some 14) [.i 0, .i a.width, .i a.now, .i a.given, .i a.births, .l (encK a.things), .l (encP a.pins), .l (encL a.leases), .i b.width, .i b.now, .i b.given, .i b.births, .l (encK b.things), .l (encP b.pins), .l (encL b.leases)]) (F := some [.b false]) (fun i hi => by
      show (_ → Lqo _ _ = _) ∧ (_ → Lqo _ _ = _)
      rw [eqo_9]
      simp only [zce, zg9, zie, zgr]
      by_cases hc : nth P0 a.pins i = nth P0 b.pins i <;> simp (disch := omega) only [push_cast] <;> simp [hc]) (by show Lqo _ _ = _; rw [eqo_9]; simp (disch := omega) only [push_cast]) 0 (Nat.zero_le _)
  have l1 := zn (f := fun i : Nat => Lqo (some 4) [.i (i : Int), .i a.width, .i a.now, .i a.given, .i a.births, .l (encK a.things), .l (encP a.pins), .l (encL a.leases), .i b.width, .i b.now, .i b.given, .i b.births, .l (encK b.things), .l (encP b.pins), .l (encL b.leases)])
    (P := fun j => nth K0 a.things j = nth K0 b.things j) (n := a.things.length) (T := Lqo (some 9) [.i 0, .i a.width, .i a.now, .i a.given, .i a.births, .l (encK a.things), .l (encP a.pins), .l (encL a.leases), .i b.width, .i b.now, .i b.given, .i b.births, .l (encK b.things), .l (encP b.pins), .l (encL b.leases)]) (F := some [.b false]) (fun i hi => by
      show (_ → Lqo _ _ = _) ∧ (_ → Lqo _ _ = _)
      rw [eqo_4]
      have hsa := ha.t _ (zb (d := K0) hi)
      have hsb := hb.t _ (zb (d := K0) (show i < b.things.length by omega))
      obtain ⟨x, hx⟩ : ∃ x, nth K0 a.things i = x := ⟨_, rfl⟩
      obtain ⟨y, hy⟩ : ∃ y, nth K0 b.things i = y := ⟨_, rfl⟩
      rw [hx] at hsa ⊢
      rw [hy] at hsb ⊢
      by_cases c1 : x.sum = y.sum
      · by_cases c2 : x.born = y.born
        · by_cases c3 : x.thing = y.thing
          · obtain rfl : x = y := by obtain ⟨s, n, t⟩ := x; obtain ⟨s', n', t'⟩ := y; simp only at c1 c2 c3; rw [c1, c2, c3]
            simp (disch := omega) only [push_cast, hx, hy, zhq x.thing x.thing hsa.2 hsa.2, decide_eq_true (show x.thing = x.thing from rfl)]
            simp
          · have : ¬ x = y := fun h => c3 (by rw [h])
            simp (disch := omega) only [push_cast, hx, hy, zhq x.thing y.thing hsa.2 hsb.2, decide_eq_false c3]
            simp [this]
        · have : ¬ x = y := fun h => c2 (by rw [h])
          simp (disch := omega) only [push_cast, hx, hy]; simp [this]
      · have : ¬ x = y := fun h => c1 (by rw [h])
        simp (disch := omega) only [push_cast, hx, hy]; simp [this]) (by show Lqo _ _ = _; rw [eqo_4]; simp (disch := omega) only [push_cast]) 0 (Nat.zero_le _)
  refine l1.trans ?_
  split
  · rename_i hT
    have hTe : a.things = b.things := zdp K0 h5 hT
    refine l2.trans ?_
    rw [show Lqo (some 14) [.i 0, .i a.width, .i a.now, .i a.given, .i a.births, .l (encK a.things), .l (encP a.pins), .l (encL a.leases), .i b.width, .i b.now, .i b.given, .i b.births, .l (encK b.things), .l (encP b.pins), .l (encL b.leases)] = _ from l3]
    exact zh9 hTe ⟨h1, h2, h3, h4⟩ h6 h7
  · rename_i hT
    rw [decide_eq_false (p := a = b)]
    rintro rfl; exact hT fun _ _ _ => rfl
theorem zhx (s : State) (r : Round) (hb : 0 ≤ s.births ∧ s.births ≤ 1000000000) : Lqs none (encSt s ++ encR r) = some [.b (decide (RoundOk s.width s.births r))] := by
  show Lqs none [.i s.width, .i s.now, .i s.given, .i s.births, .l (encK s.things), .l (encP s.pins), .l (encL s.leases), .i r.phase, .l (encS r.queue), .l (encS r.marked), .i r.top, .i r.at_, .i r.rounds] = _
  rw [eqs_i]
  have hri := zid s.width s.births r
  have no : ∀ p : Prop, (RoundOk s.width s.births r → p) → ¬ p → decide (RoundOk s.width s.births r) = false := fun p h1 h2 => decide_eq_false fun h3 => h2 (h1 h3)
  by_cases h1 : 0 ≤ r.phase
  rotate_left; · rw [no _ (fun h => h.ph.1) h1]; simp (disch := omega) only [push_cast]
  by_cases h2 : r.phase ≤ 2
  rotate_left; · rw [no _ (fun h => h.ph.2) h2]; simp (disch := omega) only [push_cast]
  by_cases h3 : 0 ≤ r.rounds ∧ r.rounds ≤ 1000000000
  rotate_left; · rw [no _ (fun h => h.rds) h3]; simp (disch := omega) only [push_cast, zj]
  by_cases h4 : r.queue.length ≤ 23200
  rotate_left; · rw [no _ (fun h => h.nQ) h4]; simp (disch := omega) only [push_cast, zj]
  by_cases h5 : r.marked.length ≤ 600
  rotate_left; · rw [no _ (fun h => h.nM) h5]; simp (disch := omega) only [push_cast, zj]
  simp (disch := omega) only [push_cast, zj]
  have l2 := zn (f := fun i : Nat => Lqs (some 9) [.i (i : Int), .i s.width, .i s.now, .i s.given, .i s.births, .l (encK s.things), .l (encP s.pins), .l (encL s.leases), .i r.phase, .l (encS r.queue), .l (encS r.marked), .i r.top, .i r.at_, .i r.rounds])
    (P := fun j => mkP s.width r.marked j) (n := r.marked.length) (T := some [.b (lastB s.births r)]) (F := some [.b false]) (fun i hi => by
      show (_ → Lqs _ _ = Lqs _ _) ∧ (_ → Lqs _ _ = _)
      rw [eqs_9]
      have hsub : Eng.sub (encS r.marked) 0 i = encS (r.marked.take i) := by rw [zb3]; rfl
      have hlen : (r.marked.take i).length ≤ 4611686018427387904 := by rw [List.length_take]; omega
      by_cases c1 : ((nth .empty r.marked i).size : Int) = s.width
      rotate_left; · exact ⟨fun h => absurd h.1 c1, fun _ => by simp (disch := omega) only [push_cast]⟩
      by_cases c2 : nth .empty r.marked i ∈ r.marked.take i
      · exact ⟨fun h => absurd c2 h.2, fun _ => by simp (disch := omega) only [push_cast, hsub, zl _ _ hlen]⟩
      · exact ⟨fun _ => by simp (disch := omega) only [push_cast, hsub, zl _ _ hlen] <;> rfl, fun h => absurd ⟨c1, c2⟩ h⟩) (by
      show Lqs _ _ = _
      rw [eqs_9]
      simp (disch := omega) only [push_cast]
      unfold lastB
      by_cases h0 : r.phase = 0
      · rw [if_pos h0]
        simp (disch := omega) only [push_cast]
        have e1 : ∀ l : List Bs, decide ((l.length : Int) = 0) = decide (l = []) := fun l => decide_eq_decide.2 ⟨fun h => List.eq_nil_of_length_eq_zero (by omega), fun h => by rw [h]; rfl⟩
        by_cases c1 : r.queue = []
        rotate_left; · rw [e1, decide_eq_false c1]; simp [c1]
        by_cases c2 : r.marked = []
        rotate_left; · rw [e1, e1, decide_eq_false c2]; simp [c1, c2]
        by_cases c3 : r.top = 0 <;> simp [c1, c2, c3]
      · rw [if_neg h0]
        simp (disch := omega) only [push_cast, zj]
        by_cases c1 : 0 ≤ r.top ∧ r.top ≤ s.births
        rotate_left; · simp (disch := omega) only [push_cast]; rw [decide_eq_false]; rintro ⟨a, b, _⟩; exact c1 ⟨a, b⟩
        simp (disch := omega) only [push_cast, zj]
        by_cases c2 : 1 ≤ r.at_ ∧ r.at_ ≤ r.top + 1
        rotate_left; · simp (disch := omega) only [push_cast]; rw [decide_eq_false]; rintro ⟨_, _, a, b, _⟩; exact c2 ⟨a, b⟩
        simp (disch := omega) only [push_cast]
        by_cases c3 : r.phase = 2
        · simp (disch := omega) only [push_cast]; rw [decide_eq_true]; exact ⟨c1.1, c1.2, c2.1, c2.2, fun h => by omega⟩
        · simp (disch := omega) only [push_cast]; congr 3; exact decide_eq_decide.2 ⟨fun h => ⟨c1.1, c1.2, c2.1, c2.2, fun _ => h⟩, fun h => h.2.2.2.2 (by omega)⟩) 0 (Nat.zero_le _)
  have l1 := zn (f := fun i : Nat => Lqs (some 4) [.i (i : Int), .i s.width, .i s.now, .i s.given, .i s.births, .l (encK s.things), .l (encP s.pins), .l (encL s.leases), .i r.phase, .l (encS r.queue), .l (encS r.marked), .i r.top, .i r.at_, .i r.rounds])
    (P := fun j => ((nth .empty r.queue j).size : Int) = s.width) (n := r.queue.length) (T := Lqs (some 9) [.i 0, .i s.width, .i s.now, .i s.given, .i s.births, .l (encK s.things), .l (encP s.pins), .l (encL s.leases), .i r.phase, .l (encS r.queue), .l (encS r.marked), .i r.top, .i r.at_, .i r.rounds]) (F := some [.b false]) (fun i hi => by
      show (_ → Lqs _ _ = Lqs _ _) ∧ (_ → Lqs _ _ = _)
      rw [eqs_4]
      by_cases hc : ((nth .empty r.queue i).size : Int) = s.width <;> simp (disch := omega) only [push_cast] <;> simp [hc]) (by
      show Lqs _ _ = _
      rw [eqs_4]; simp (disch := omega) only [push_cast]) 0 (Nat.zero_le _)
  have l1' : Lqs (some 4) [.i 0, .i s.width, .i s.now, .i s.given, .i s.births, .l (encK s.things), .l (encP s.pins), .l (encL s.leases), .i r.phase, .l (encS r.queue), .l (encS r.marked), .i r.top, .i r.at_, .i r.rounds] = _ := l1
  have l2' : Lqs (some 9) [.i 0, .i s.width, .i s.now, .i s.given, .i s.births, .l (encK s.things), .l (encP s.pins), .l (encL s.leases), .i r.phase, .l (encS r.queue), .l (encS r.marked), .i r.top, .i r.at_, .i r.rounds] = _ := l2
  rw [l1', l2']
  by_cases h6 : ∀ j, 0 ≤ j → j < r.queue.length → ((nth .empty r.queue j).size : Int) = s.width
  rotate_left; · rw [if_neg h6, no _ (fun h => (zer _ _).2 h.szQ) h6]
  rw [if_pos h6]
  by_cases h7 : ∀ j, 0 ≤ j → j < r.marked.length → mkP s.width r.marked j
  rotate_left; · rw [if_neg h7, no _ (fun h => (zd1 _ _).2 ⟨h.szM, h.ndM⟩) h7]
  rw [if_pos h7]
  congr 3
  cases hl : lastB s.births r
  · rw [no _ (fun h => (hri.1 h).2.2.2.2.2.2) (by rw [hl]; simp)]
  · rw [decide_eq_true (hri.2 ⟨⟨h1, h2⟩, h3, h4, h5, (zd1 _ _).1 h7, (zer _ _).1 h6, hl⟩)]
theorem zdj {v : Vault} (h : SmallV v) : Lqbl none (encV v) = some [.b (decide (VV v))] := by
  unfold encV
  have hab := h.ab
  rw [eqbl_i]
  by_cases h1 : ze v.width = true
  rotate_left; · have : ze v.width = false := by simpa using h1
                 simp (disch := omega) only [push_cast, zo, this]; rw [decide_eq_false fun V : VV v => h1 V.wd]
  by_cases h2 : 0 ≤ v.limit ∧ v.limit ≤ 1000000
  rotate_left; · simp (disch := omega) only [push_cast, zo, h1, zj]; rw [decide_eq_false fun V : VV v => h2 V.lim]
  by_cases h3 : LogOk v.safe v.loose
  rotate_left; · simp (disch := omega) only [push_cast, zo, h1, zj, zby _ _ h.a h.b]; rw [decide_eq_false fun V : VV v => h3 V.log]
  have hn := h3.n
  simp (disch := omega) only [push_cast, zo, h1, zj, zby _ _ h.a h.b, zhl _ _ h.ab, zi0 _ _ (h.a.app h.b h.ab)]
  rw [if_pos ⟨trivial, by rw [List.length_append]; omega⟩]
  cases hr : runL v.width (empty v.width) (v.safe ++ v.loose) 0 with
  | inl s =>
    have V := zcc _ _ _ _ (zb6 (zp.1 h1)) rfl hr
    have hs := zjh V.1.small h.st
    have hs' : Lqo none [.i s.width, .i s.now, .i s.given, .i s.births, .l (encK s.things), .l (encP s.pins), .l (encL s.leases), .i v.st.width, .i v.st.now, .i v.st.given, .i v.st.births, .l (encK v.st.things), .l (encP v.st.pins), .l (encL v.st.leases)] = _ := hs
    simp only [zc2]
    simp (disch := omega) only [push_cast, hs']
    by_cases he : s = v.st
    · rw [decide_eq_true he]
      subst he
      have hro := zhx v.st v.rd V.1.births
      have hro' : Lqs none [.i v.st.width, .i v.st.now, .i v.st.given, .i v.st.births, .l (encK v.st.things), .l (encP v.st.pins), .l (encL v.st.leases), .i v.rd.phase, .l (encS v.rd.queue), .l (encS v.rd.marked), .i v.rd.top, .i v.rd.at_, .i v.rd.rounds] = _ := hro
      simp (disch := omega) only [push_cast, hro']
      congr 3
      exact decide_eq_decide.2 ⟨fun h4 => ⟨h1, h2, h3, hr, h4⟩, fun h4 => h4.rd⟩
    · rw [decide_eq_false he, decide_eq_false (p := VV v) fun h1 => he (by have := h1.run; rw [hr] at this; cases this; rfl)]; rfl
  | inr n =>
    simp only [zc2]
    simp (disch := omega) only [push_cast]
    rw [decide_eq_false (p := VV v) fun h1 => by have := h1.run; rw [hr] at this; cases this]
end KV
end
section
namespace KV
open Go Go.Eng
open Classical
theorem zej (r : Round) (h1 : r.queue.length ≤ 1099511627776) (h2 : r.marked.length ≤ 1099511627776) : Lqbj none (encR r) = some (encRo r) := by
  unfold encR encRo
  rw [eqbj_i, mostE]; simp (disch := omega) only [push_cast, List.nil_append]
theorem zhk (a b : List Bs) (ha : Small a) (hb : Small b) : Lqcs none [.l (encS a), .l (encS b)] = some [.l (encS a), .l (encS b)] := by
  have h1 := ha.1; have h2 := hb.1
  rw [eqcs_i, mostE]; simp (disch := omega) only [push_cast, List.nil_append]
theorem zdh {v : Vault} (V : VV v) : Lqby none (encV v) = some (vI v ++ vL v) := by
  have h := V.small; have Vs := V.vs.1
  have h1 := zej v.rd h.q h.m
  have h2 := Vs.nT; have h3 := Vs.nP; have h4 := Vs.nL
  unfold encV
  unfold encR encRo at h1
  rw [eqby_i, zhk _ _ h.a h.b]
  simp (disch := omega) only [push_cast, zck v.st.width v.st.now v.st.given v.st.births v.st.things (encP v.st.pins) (encL v.st.leases) (by omega) (zbq Vs) (by rw [zbp]; omega) (by rw [zbv]; omega), h1]
  rfl
theorem zjc {s : State} (V : VS s) : Lqcd none (encSt s) = some [.i (roomM s : Int)] := by
  unfold encSt
  have hn := V.nT; have hr := zmh V
  rw [eqcd_i]
  have := zt (f := fun (i : Nat) (a : Nat) => Lqcd (some 3) [.i (a : Int), .i (i : Int), .i s.width, .i s.now, .i s.given, .i s.births, .l (encK s.things), .l (encP s.pins), .l (encL s.leases)]) (n := s.things.length) (T := some [.i (roomM s : Int)])
    (I := fun i a => a = ((s.things.map fun k => (formM k.thing).size).take i).sum) (fun i a hi hI => ⟨a + (formM (nth K0 s.things i).thing).size, by
      show Lqcd _ _ = Lqcd _ _
      have hk := (V.okT _ (zb (d := K0) hi)).1
      have hk2 := zbc hk
      have ha : a ≤ roomM s := by rw [hI]; exact zki
      have hf := zbh (nth K0 s.things i).thing
      have hz : ((nth K0 s.things i).thing.refs.length : Int) * s.width = (szs (nth K0 s.things i).thing.refs : Int) := by
        have : ∀ l : List Bs, (∀ r ∈ l, (r.size : Int) = s.width) → (l.length : Int) * s.width = (szs l : Int) := by
          intro l
          induction l with
          | nil => intro _; simp [szs]
          | cons a l ih => intro hl; rw [zdo, List.length_cons, Int.natCast_add, Int.natCast_add, ← ih fun r hr => hl r (by simp [hr]), hl a (by simp), Int.add_mul]; omega
        exact this _ hk.size
      rw [eqcd_3]
      simp (disch := omega) only [push_cast, hz]
      congr 3
      omega, by
      show a + (formM (nth K0 s.things i).thing).size = _
      rw [hI, ← List.map_take, ← List.map_take, zz K0 hi, List.map_append, List.sum_append]; simp⟩) (fun a hI => by
      show Lqcd _ _ = _
      rw [eqcd_3]
      simp (disch := omega) only [push_cast]
      rw [hI, List.take_of_length_le (by simp)]; rfl) 0 0 (Nat.zero_le _) rfl
  exact this
theorem zns {s : State} (hs : SrtK s.things) (hn : s.things.length ≤ 1000000) (r : Round) (x : Bs) (h1 : r.queue.length ≤ 1099511627775) (h2 : r.marked.length ≤ 1099511627776) : Lqc0 none (encSt s ++ encR r ++ [.s x]) = some (encRo (zbx s r x)) := by
  show Lqc0 none [.i s.width, .i s.now, .i s.given, .i s.births, .l (encK s.things), .l (encP s.pins), .l (encL s.leases), .i r.phase, .l (encS r.queue), .l (encS r.marked), .i r.top, .i r.at_, .i r.rounds, .s x] = _
  have hcr := zej r (by omega) h2
  have hcr' : Lqbj none [.i r.phase, .l (encS r.queue), .l (encS r.marked), .i r.top, .i r.at_, .i r.rounds] = some [.i r.phase, .i r.top, .i r.at_, .i r.rounds, .l (encS r.queue), .l (encS r.marked)] := hcr
  have hf := zbf (T := s.things) (x := x)
  rw [eqc0_i, mostE]
  unfold zbx
  simp (disch := omega) only [push_cast, hcr', zb1 _ _ _ _ s.things _ _ x hs hn]
  by_cases c2 : r.phase = 0
  · rw [if_neg fun h => h.2.1 c2]; simp (disch := omega) only [push_cast]; rfl
  by_cases c1 : hasT s.things x
  rotate_left; · rw [if_neg fun h => c1 h.1]; have := hf.2 c1; simp (disch := omega) only [push_cast]; rfl
  have c1' : ¬ findT s.things x < 0 := fun h => hf.1 h c1
  by_cases c3 : x ∈ r.marked
  · rw [if_neg fun h => h.2.2.1 c3]; simp (disch := omega) only [push_cast, zl r.marked x (by omega), decide_eq_true c3]; rfl
  by_cases c4 : r.queue.length < 23200
  · rw [if_pos ⟨c1, c2, c3, c4⟩]; simp (disch := omega) only [push_cast, zl r.marked x (by omega), decide_eq_false c3]
    rw [z6, zi]; rfl
  · rw [if_neg fun h => c4 h.2.2.2]; simp (disch := omega) only [push_cast, zl r.marked x (by omega), decide_eq_false c3]; rfl
noncomputable def doS (v : Vault) (e : Entry) : Did := doE v e (decide (zbn e (chg v.st e) ≠ E0))
theorem do_25 (x : Bs) (w lim : Int) (s : State) (r : Round) (sum : Bs) (lease : Int) (sf ls : List Bs) (hs : SrtK s.things) (hn : s.things.length ≤ 1000000) (h1 : r.queue.length ≤ 1099511627775) (h2 : r.marked.length ≤ 1099511627776)
    (i1 i2 i3 i4 i5 : Int) (l1 l2 l3 : Rw) (s2 s3 : Bs) :
    Lqp (some 25) [.s x, .i 0, .i 0, .i 0, .i 0, .i 0, .i 0, .i 0, .i 0, .i 0, .i 0, .i 0, .s E0, .i 0, .s E0, .s E0, .i i1, .i i2, .i i3, .i i4, .i i5, .l l1, .l l2, .s sum, .i lease, .s s2, .s s3, .i w, .i lim, .i s.width, .i s.now, .i s.given, .i s.births, .i r.phase, .i r.top, .i r.at_, .i r.rounds, .l l3, .l (encS sf), .l (encS ls), .l (encK s.things), .l (encP s.pins), .l (encL s.leases), .l (encS r.queue), .l (encS r.marked), .l [], .l [], .l [], .l [], .l [], .l [], .l []] =
      some (zk ⟨0, ⟨w, lim, sf, ls, s, if decide (x ≠ E0) = true then zbx s r x else r⟩, sum, lease, E0, E0⟩) := by
  rw [eqp_25]
  have := zns hs hn r x h1 h2
  have h' : Lqc0 none [.i s.width, .i s.now, .i s.given, .i s.births, .l (encK s.things), .l (encP s.pins), .l (encL s.leases), .i r.phase, .l (encS r.queue), .l (encS r.marked), .i r.top, .i r.at_, .i r.rounds, .s x] = _ := this
  rw [h']
  by_cases hx : x = E0
  · rw [if_neg (by simp [hx])]; simp (disch := omega) only [push_cast]; rfl
  · rw [if_pos (by simp [hx])]; unfold encRo; simp (disch := omega) only [push_cast]; rfl
theorem zc5 {v : Vault} (h : SmallV v) (e : Entry) (hn : e.name.size ≤ 4611686018427387904) : Lqp none (encV v ++ encE e) = some (zk (doS v e)) := by
  show Lqp none [.i v.width, .i v.limit, .l (encS v.safe), .l (encS v.loose), .i v.st.width, .i v.st.now, .i v.st.given, .i v.st.births, .l (encK v.st.things), .l (encP v.st.pins), .l (encL v.st.leases), .i v.rd.phase, .l (encS v.rd.queue), .l (encS v.rd.marked), .i v.rd.top, .i v.rd.at_, .i v.rd.rounds, .i e.kind, .s e.sum, .s e.name, .i e.number, .s e.thing.text, .l (encS e.thing.refs)] = _
  have hvv := zdj h
  unfold encV at hvv
  rw [eqp_i, hvv]
  unfold doS doE
  by_cases V : VV v
  rotate_left
  · rw [if_pos V, decide_eq_false V]; simp (disch := omega) only [push_cast]; rfl
  have hcp := zdh V
  unfold encV at hcp
  rw [if_neg (not_not_intro V), decide_eq_true V, hcp]
  have hen := zfi e v.width hn
  rw [show Lqw none [.i e.kind, .s e.sum, .s e.name, .i e.number, .s e.thing.text, .l (encS e.thing.refs), .i v.width] = _ from hen]
  by_cases he : zd e v.width = true
  rotate_left
  · rw [if_pos he]
    have : zd e v.width = false := by simpa using he
    simp (disch := omega) only [push_cast, this]; rfl
  rw [if_neg (not_not_intro he)]
  have Vs := V.vs
  have he' : zd e v.st.width = true := by rw [Vs.2]; exact he
  have hch := zgp Vs.1 he'
  have hch' : Lqcn none [.i v.st.width, .i v.st.now, .i v.st.given, .i v.st.births, .l (encK v.st.things), .l (encP v.st.pins), .i e.kind, .s e.sum, .s e.name, .i e.number, .s e.thing.text, .l (encS e.thing.refs), .l (encL v.st.leases)] = _ := hch
  have hfe := zc1 e v.width hn
  have hfe' : Lqx none [.i e.kind, .s e.sum, .s e.name, .i e.number, .s e.thing.text, .l (encS e.thing.refs), .i v.width] = _ := hfe
  rw [if_pos he] at hfe'
  have hq := h.q; have hm := h.m
  have hln := V.log.n
  have n1 := Vs.1.nT; have n2 := Vs.1.nP; have n3 := Vs.1.nL
  have hc4 := zck v.st.width v.st.now v.st.given v.st.births v.st.things (encP v.st.pins) (encL v.st.leases) (by omega) (zbq Vs.1) (by rw [zbp]; omega) (by rw [zbv]; omega)
  simp only [vI, vL, List.cons_append, List.nil_append]
  by_cases hcode : (chg v.st e).code = 0
  rotate_left
  · rw [if_pos hcode]
    simp only [zm] at hch'
    rw [if_neg hcode] at hch'
    simp (disch := omega) only [push_cast, he, hc4, hch', decide_eq_false hcode]
    rfl
  rw [if_neg (not_not_intro hcode)]
  simp only [zm] at hch'
  rw [if_pos hcode] at hch'
  have Vc := zcx Vs.1 he' hcode
  have hrm := zjc Vc
  unfold encSt at hrm
  have hqn := V.rd.nQ
  have hmn := V.rd.nM
  have m1 := Vc.nT; have m2 := Vc.nP; have m3 := Vc.nL
  have hc5 := zck (chg v.st e).st.width (chg v.st e).st.now (chg v.st e).st.given (chg v.st e).st.births (chg v.st e).st.things (encP (chg v.st e).st.pins) (encL (chg v.st e).st.leases) (by omega) (zbq Vc) (by rw [zbp]; omega) (by rw [zbv]; omega)
  by_cases h8 : e.kind = 1 ∧ v.limit < (roomM (chg v.st e).st : Int)
  · rw [if_pos h8]
    have h81 := h8.1; have h82 := h8.2
    simp (disch := omega) only [push_cast, he, hc4, hch', hrm]
    rfl
  rw [if_neg h8]
  by_cases h9 : v.safe.length + v.loose.length = 4000
  · rw [if_pos h9]
    by_cases hk : e.kind = 1
    · have : ¬ v.limit < (roomM (chg v.st e).st : Int) := fun h => h8 ⟨hk, h⟩
      simp (disch := omega) only [push_cast, he, hc4, hch', hrm]; rfl
    · simp (disch := omega) only [push_cast, he, hc4, hch']; rfl
  rw [if_neg h9]
  by_cases hk : e.kind = 1
  · have hlim : ¬ v.limit < (roomM (chg v.st e).st : Int) := fun h => h8 ⟨hk, h⟩
    simp (disch := omega) only [push_cast, he, hc4, hch', hrm, hfe', hc5, mostE]
    rw [z6, zi, do_25 _ _ _ (chg v.st e).st v.rd _ _ _ _ Vc.srtT (by omega) (by omega) (by omega)]
    unfold zbn; rw [if_pos hk]
  · simp (disch := omega) only [push_cast, he, hc4, hch', hfe', hc5, mostE]
    rw [z6, zi, do_25 _ _ _ (chg v.st e).st v.rd _ _ _ _ Vc.srtT (by omega) (by omega) (by omega)]
    unfold zbn; rw [if_neg hk]
end KV
end
