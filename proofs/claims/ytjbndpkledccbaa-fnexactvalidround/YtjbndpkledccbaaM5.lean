/- Plain laws over the walks' closed forms. -/
import Derived.IntWalk
import Derived.WideShapes
import Derived.Laws.Strings
import Derived.Test.YtjbndpkledccbaaM1
import Derived.Test.YtjbndpkledccbaaM2
import Derived.Test.YtjbndpkledccbaaM3
import Derived.Test.YtjbndpkledccbaaM4
set_option linter.unusedSimpArgs false
set_option linter.unusedVariables false
set_option linter.unusedSectionVars false
section
namespace KV
open Go Go.Eng
abbrev Bs := ByteArray
theorem w64 {n : Int} (h : -9223372036854775808 ≤ n ∧ n ≤ 9223372036854775807) : IntKind.i64.wrap n = n := IntWalk.i64_in n h
theorem w8 {n : Int} (h : 0 ≤ n ∧ n ≤ 255) : IntKind.u8.wrap n = n := IntWalk.u8_in n h
theorem inb_f {i : Int} {n : Nat} (h : i < 0 ∨ (n : Int) ≤ i) : inb i n = false := by
  simp only [inb, Bool.and_eq_false_iff, decide_eq_false_iff_not]; omega
theorem dlt_f {i n : Nat} (h : n ≤ i) : decide ((i : Int) < (n : Int)) = false := by simp; omega
theorem zl9 (x y : Bs) : Eng.seq x y = decide (x = y) := by
  unfold Eng.seq
  rw [ByteArray.toList_eq, ByteArray.toList_eq]
  by_cases h : x = y
  · subst h; simp
  · simp only [h, decide_false, beq_eq_false_iff_ne]
    exact fun e => h (Go.WideShapes.bytes_inj e)
theorem zh3 : ∀ x : List UInt8, Op.bytesLess x x = false
  | [] => rfl
  | a :: x => by simp [Op.bytesLess, zh3 x]
theorem zgu : ∀ {x y z : List UInt8}, Op.bytesLess x y = true → Op.bytesLess y z = true → Op.bytesLess x z = true
  | [], [], _, h, _ => by simp [Op.bytesLess] at h
  | [], _ :: _, [], _, h => by simp [Op.bytesLess] at h
  | [], _ :: _, _ :: _, _, _ => rfl
  | _ :: _, [], _, h, _ => by simp [Op.bytesLess] at h
  | _ :: _, _ :: _, [], _, h => by simp [Op.bytesLess] at h
  | a :: x, b :: y, c :: z, h, k => by
    simp only [Op.bytesLess, Bool.or_eq_true, decide_eq_true_eq, Bool.and_eq_true, beq_iff_eq] at h k ⊢
    rcases h with h | ⟨rfl, h⟩ <;> rcases k with k | ⟨rfl, k⟩
    · exact .inl (UInt8.lt_trans h k)
    · exact .inl h
    · exact .inl k
    · exact .inr ⟨rfl, zgu h k⟩
theorem zh2 : ∀ (x y : List UInt8), Op.bytesLess x y = true ∨ x = y ∨ Op.bytesLess y x = true
  | [], [] => .inr (.inl rfl)
  | [], _ :: _ => .inl rfl
  | _ :: _, [] => .inr (.inr rfl)
  | a :: x, b :: y => by
    simp only [Op.bytesLess, Bool.or_eq_true, decide_eq_true_eq, Bool.and_eq_true, beq_iff_eq, List.cons.injEq]
    rcases zh2 x y with h | h | h
    · rcases Nat.lt_trichotomy a.toNat b.toNat with k | k | k
      · exact .inl (.inl (UInt8.lt_iff_toNat_lt.2 k))
      · exact .inl (.inr ⟨UInt8.toNat_inj.1 k, h⟩)
      · exact .inr (.inr (.inl (UInt8.lt_iff_toNat_lt.2 k)))
    · rcases Nat.lt_trichotomy a.toNat b.toNat with k | k | k
      · exact .inl (.inl (UInt8.lt_iff_toNat_lt.2 k))
      · exact .inr (.inl ⟨UInt8.toNat_inj.1 k, h⟩)
      · exact .inr (.inr (.inl (UInt8.lt_iff_toNat_lt.2 k)))
    · rcases Nat.lt_trichotomy a.toNat b.toNat with k | k | k
      · exact .inl (.inl (UInt8.lt_iff_toNat_lt.2 k))
      · exact .inr (.inr (.inr ⟨(UInt8.toNat_inj.1 k).symm, h⟩))
      · exact .inr (.inr (.inl (UInt8.lt_iff_toNat_lt.2 k)))
theorem zdy (x : Bs) : slt x x = false := zh3 _
theorem zbo {x y z : Bs} (h : slt x y = true) (k : slt y z = true) : slt x z = true := zgu h k
theorem zmq (x y : Bs) : slt x y = true ∨ x = y ∨ slt y x = true := by
  rcases zh2 x.toList y.toList with h | h | h
  · exact .inl h
  · rw [ByteArray.toList_eq, ByteArray.toList_eq] at h; exact .inr (.inl (Go.WideShapes.bytes_inj h))
  · exact .inr (.inr h)
theorem zk0 {x y : Bs} (h : slt x y = true) : slt y x = false := by
  cases k : slt y x
  · rfl
  · have := zbo h k; rw [zdy] at this; cases this
theorem zgm {x y : Bs} : slt x y = false ↔ x = y ∨ slt y x = true := by
  constructor
  · intro h; rcases zmq x y with k | k | k
    · rw [h] at k; cases k
    · exact .inl k
    · exact .inr k
  · rintro (rfl | h)
    · exact zdy _
    · exact zk0 h
theorem zej {α : Type} (f : α → List C) (l : List α) (i o : Nat) (h : i < l.length) : rd (l.map f) i o = (f l[i]).getD o (.i 0) := by
  simp [rd, List.getD_eq_getElem?_getD, h]
theorem zk8 {α : Type} (f : α → List C) (l : List α) (a b : Nat) : Eng.sub (l.map f) a b = ((l.drop a).take (b - a)).map f := by
  simp [Eng.sub, List.map_take, List.map_drop]
def encS (l : List Bs) : Rw := l.map fun s => [.s s]
theorem zw (l : List Bs) : (encS l).length = l.length := by simp [encS]
theorem zmf (l : List Bs) (a b : Nat) : Eng.sub (encS l) a b = encS ((l.drop a).take (b - a)) := zk8 _ _ _ _
@[push_cast] theorem cpos {p : Prop} [Decidable p] {α : Type} {a b : α} (h : p) : cond (decide p) a b = a := by simp [h]
@[push_cast] theorem cneg {p : Prop} [Decidable p] {α : Type} {a b : α} (h : ¬ p) : cond (decide p) a b = b := by simp [h]
@[push_cast] theorem cnot {α : Type} (c : Bool) (a b : α) : cond (!c) a b = cond c b a := by cases c <;> rfl
attribute [push_cast] cond_true cond_false Option.bind_some Option.bind_none Int.toNat_natCast
@[push_cast] theorem notT : (!true) = false := Eq.trans rfl rfl
@[push_cast] theorem notF : (!false) = true := Eq.trans rfl rfl
@[push_cast] theorem g0 (a : Lf) (l : List Lf) : g (a :: l) 0 = a := Eq.trans rfl rfl
@[push_cast] theorem g1 (a b : Lf) (l : List Lf) : g (a :: b :: l) 1 = b := Eq.trans rfl rfl
@[push_cast] theorem g2 (a b c : Lf) (l : List Lf) : g (a :: b :: c :: l) 2 = c := Eq.trans rfl rfl
@[push_cast] theorem g3 (a b c d : Lf) (l : List Lf) : g (a :: b :: c :: d :: l) 3 = d := Eq.trans rfl rfl
@[push_cast] theorem g4 (a b c d e : Lf) (l : List Lf) : g (a :: b :: c :: d :: e :: l) 4 = e := Eq.trans rfl rfl
@[push_cast] theorem g5 (a b c d e f : Lf) (l : List Lf) : g (a :: b :: c :: d :: e :: f :: l) 5 = f := Eq.trans rfl rfl
@[push_cast] theorem g6 (a b c d e f h : Lf) (l : List Lf) : g (a :: b :: c :: d :: e :: f :: h :: l) 6 = h := Eq.trans rfl rfl
@[push_cast] theorem gS (a b c d e f h : Lf) (l : List Lf) (n : Nat) : g (a :: b :: c :: d :: e :: f :: h :: l) (n + 7) = g l n := Eq.trans rfl rfl
@[push_cast] theorem lfI (n : Int) : (Lf.i n).int = n := Eq.trans rfl rfl
@[push_cast] theorem lfB (n : Bool) : (Lf.b n).bool = n := Eq.trans rfl rfl
@[push_cast] theorem lfS (n : ByteArray) : (Lf.s n).str = n := Eq.trans rfl rfl
@[push_cast] theorem lfL (n : Rw) : (Lf.l n).list = n := Eq.trans rfl rfl
@[push_cast] theorem lfM (n : List (C × C)) : (Lf.m n).map = n := Eq.trans rfl rfl
attribute [push_cast] w64 w8
@[push_cast] theorem inbp {i : Int} {n : Nat} (h : 0 ≤ i ∧ i < (n : Int)) : inb i n = true := by simp [inb, h]
@[push_cast] theorem inbn {i : Int} {n : Nat} (h : ¬ (0 ≤ i ∧ i < (n : Int))) : inb i n = false := inb_f (by omega)
@[push_cast] theorem tnA (i : Nat) : ((i : Int) + 1).toNat = i + 1 := by omega
@[push_cast] theorem tnM (i : Nat) : ((i : Int) - 1).toNat = i - 1 := by omega
@[push_cast] theorem bneI (a b : Int) : (a != b) = !decide (a = b) := by
  by_cases h : a = b
  · subst h; simp
  · simp [h]
@[push_cast] theorem beqI (a b : Int) : (a == b) = decide (a = b) := by
  by_cases h : a = b
  · subst h; simp
  · simp [h]
attribute [push_cast] zl9 zw
@[push_cast] theorem lenC {α : Type} (a : α) (l : List α) : (a :: l).length = l.length + 1 := Eq.trans rfl rfl
@[push_cast] theorem lenN {α : Type} : ([] : List α).length = 0 := Eq.trans rfl rfl
@[push_cast] theorem ifT {α : Type} (a b : α) : (if True then a else b) = a := if_pos trivial
@[push_cast] theorem ifF {α : Type} (a b : α) : (if False then a else b) = b := if_neg id
@[push_cast] theorem ftE : (false = true) = False := by simp
attribute [push_cast] eq_self
@[push_cast] theorem decT [Decidable True] : decide True = true := by simp
@[push_cast] theorem decF [Decidable False] : decide False = false := by simp
def nth {α : Type} (d : α) (l : List α) (i : Nat) : α := l.getD i d
theorem zez {α : Type} (d x : α) (l : List α) : nth d (x :: l) 0 = x := rfl
theorem zcm {α : Type} (d x : α) (l : List α) (i : Nat) : nth d (x :: l) (i + 1) = nth d l i := rfl
theorem zm {α : Type} (d : α) (l : List α) (i : Nat) (h : i < l.length) : nth d l i = l[i] := by
  unfold nth; rw [List.getD_eq_getElem?_getD, List.getElem?_eq_getElem h]; rfl
theorem zi5 {α : Type} {d : α} {l : List α} {i : Nat} (h : i < l.length) : l[i]? = some (nth d l i) := by
  rw [zm d l i h, List.getElem?_eq_getElem h]
theorem zk {α : Type} {l : List α} {i : Nat} {d : α} (h : i < l.length) : nth d l i ∈ l := by
  rw [zm d l i h]; exact List.getElem_mem h
theorem zbh {α : Type} {l : List α} {x : α} (d : α) (h : x ∈ l) : ∃ i, i < l.length ∧ nth d l i = x := by
  obtain ⟨i, h1, h2⟩ := List.mem_iff_getElem.1 h
  exact ⟨i, h1, by rw [zm d l i h1]; exact h2⟩
theorem ziw {α : Type} (d : α) {l : List α} {i : Nat} (h : i < l.length) : l.drop i = nth d l i :: l.drop (i + 1) := by
  rw [List.drop_eq_getElem_cons h, zm d l i h]
theorem zcg {α : Type} (d : α) {l : List α} {i : Nat} (h : i < l.length) : l.take (i + 1) = l.take i ++ [nth d l i] := by
  rw [List.take_add_one, zi5 (d := d) h]; rfl
theorem zhc {α : Type} (f : α → List C) (d : α) (l : List α) (i o : Nat) (h : i < l.length) : rd (l.map f) i o = (f (nth d l i)).getD o (.i 0) := by
  rw [zej f l i o h, zm d l i h]
theorem ze0 {α : Type} (f : α → List C) (l : List α) (i o : Nat) (h : l.length ≤ i) : rd (l.map f) i o = .i 0 := by
  have : (l.map f).getD i [] = [] := by
    rw [List.getD_eq_getElem?_getD, List.getElem?_eq_none (by simpa using h)]; rfl
  unfold rd
  rw [this]; rfl
@[push_cast] theorem zm4 (l : List Bs) (i : Nat) : (rd (encS l) i 0).str = nth .empty l i := by
  rcases Nat.lt_or_ge i l.length with h | h
  · rw [encS, zhc _ .empty _ _ _ h]; rfl
  · rw [encS, ze0 _ _ _ _ h, nth, List.getD_eq_getElem?_getD, List.getElem?_eq_none h]; rfl
end KV
end
section

end
section
namespace KV
open Go Go.Eng
open Classical in
theorem zp {β : Type} {f : Nat → β} {P : Nat → Prop} {n : Nat} {T F : β} (step : ∀ i, i < n → (P i → f i = f (i + 1)) ∧ (¬ P i → f i = F)) (last : f n = T) :
    ∀ i, i ≤ n → f i = if (∀ j, i ≤ j → j < n → P j) then T else F := by
  intro i hi
  generalize hk : n - i = k
  induction k generalizing i with
  | zero =>
    have : i = n := by omega
    subst this
    rw [if_pos (fun j h1 h2 => absurd h2 (by omega)), last]
  | succ k ih =>
    have hlt : i < n := by omega
    by_cases h : P i
    · rw [(step i hlt).1 h, ih (i + 1) (by omega) (by omega)]
      by_cases h2 : ∀ j, i + 1 ≤ j → j < n → P j
      · rw [if_pos h2, if_pos fun j h3 h4 => by
          rcases Nat.eq_or_lt_of_le h3 with rfl | h5
          · exact h
          · exact h2 j h5 h4]
      · rw [if_neg h2, if_neg fun h3 => h2 fun j h4 h5 => h3 j (by omega) h5]
    · rw [(step i hlt).2 h, if_neg fun h3 => h (h3 i (Nat.le_refl _) hlt)]
theorem zf0 {β σ : Type} {f : Nat → σ → β} {g : Nat → σ → σ} {n : Nat} (step : ∀ i s, i < n → f i s = f (i + 1) (g i s)) :
    ∀ i, i ≤ n → ∀ s, f i s = f n ((List.range' i (n - i)).foldl (fun s i => g i s) s) := by
  intro i hi
  generalize hk : n - i = k
  induction k generalizing i with
  | zero =>
    intro s
    have : i = n := by omega
    subst this; rfl
  | succ k ih =>
    intro s
    rw [step i s (by omega), ih (i + 1) (by omega) (by omega)]
    rfl
theorem zb5 {β σ : Type} {f : Nat → σ → β} {I : Nat → σ → Prop} {n : Nat} {T : β} (step : ∀ i s, i < n → I i s → ∃ s', f i s = f (i + 1) s' ∧ I (i + 1) s') (last : ∀ s, I n s → f n s = T) :
    ∀ i s, i ≤ n → I i s → f i s = T := by
  intro i s hi
  generalize hk : n - i = k
  induction k generalizing i s with
  | zero =>
    intro h
    have : i = n := by omega
    subst this; exact last s h
  | succ k ih =>
    intro h
    obtain ⟨s', h1, h2⟩ := step i s (by omega) h
    rw [h1]; exact ih (i + 1) s' (by omega) (by omega) h2
theorem zd3 {β σ : Type} {f : Nat → σ → β} {I : Nat → σ → Prop} {n : Nat} {T : β → Prop} (step : ∀ i s, i < n → I i s → (∃ s', f i s = f (i + 1) s' ∧ I (i + 1) s') ∨ T (f i s)) (last : ∀ s, I n s → T (f n s)) :
    ∀ i s, i ≤ n → I i s → T (f i s) := by
  intro i s hi
  generalize hk : n - i = k
  induction k generalizing i s with
  | zero =>
    intro h
    have : i = n := by omega
    subst this; exact last s h
  | succ k ih =>
    intro h
    rcases step i s (by omega) h with ⟨s', h1, h2⟩ | h1
    · rw [h1]; exact ih (i + 1) s' (by omega) (by omega) h2
    · exact h1
theorem zb1 (xs ys : Rw) : bytesOf (xs ++ ys) = bytesOf xs ++ bytesOf ys := by
  apply Go.WideShapes.bytes_inj
  simp [bytesOf, ByteArray.data_append]
theorem zgo (s : Bs) : bytesOf (rowsOf s) = s := by
  apply Go.WideShapes.bytes_inj
  simp only [bytesOf, rowsOf, List.map_map]
  rw [show ((fun r : List C => UInt8.ofNat (r.getD 0 (.i 0)).int.toNat) ∘ fun b : UInt8 => [C.i (b.toNat : Int)]) = id from funext fun b => by simp only [Function.comp, List.getD_cons_zero, C.int, Int.toNat_natCast, UInt8.ofNat_toNat, id]]
  simp only [List.map_id, Array.toArray_toList]
theorem zdf (xs : Rw) : (bytesOf xs).size = xs.length := by
  show (xs.map _).toArray.size = _
  simp only [List.size_toArray, List.length_map]
theorem zgn (s : Bs) : (rowsOf s).length = s.size := by
  show (s.data.toList.map _).length = s.data.size
  simp only [List.length_map, Array.length_toList]
theorem zby (s : Bs) (n : Nat) : 0 ≤ byteAt s n ∧ byteAt s n < 256 := by
  unfold byteAt
  generalize s.data.getD n 0 = b
  have := b.toNat_lt
  omega
theorem size_extract (s : Bs) (a b : Nat) : (s.extract a b).size = min b s.size - a := ByteArray.size_extract
theorem zc7 (s t : Bs) : (s ++ t).size = s.size + t.size := ByteArray.size_append
end KV
end
section
namespace KV
open Go Go.Eng
open Classical
def zj (w : Int) : Bool := decide (1 ≤ w) && decide (w ≤ 8)
theorem zbb {w : Int} : zj w = true ↔ 1 ≤ w ∧ w ≤ 8 := by simp [zj]
theorem zbm (w : Int) : Lq5 none [.i w] = some [.b (zj w)] := by
  rw [eq5_i]; unfold zj
  cases decide (1 ≤ w) <;> rfl
theorem z8 (w : Int) : Lq4 none [.i w] = some [.b (zj w)] := by
  rw [eq4_i]; unfold zj
  cases decide (1 ≤ w) <;> rfl
structure Thing where
  text : Bs
  refs : List Bs
def Asc (l : List Bs) : Prop := l.Pairwise fun a b => slt a b = true
theorem zlk (l : List Bs) : Asc l ↔ ∀ j, 0 < j → j < l.length → slt (nth .empty l (j - 1)) (nth .empty l j) = true := by
  induction l with
  | nil => exact ⟨fun _ j _ h => absurd h (by simp), fun _ => List.Pairwise.nil⟩
  | cons a l ih =>
    unfold Asc at ih ⊢
    rw [List.pairwise_cons, ih]
    constructor
    · rintro ⟨h1, h2⟩ j hj hl
      cases j with
      | zero => omega
      | succ j =>
        simp only [Nat.add_sub_cancel, zcm]
        cases j with
        | zero =>
          simp only [List.length_cons] at hl
          exact h1 _ (zk (by omega))
        | succ j =>
          simp only [zcm]
          simp only [List.length_cons] at hl
          exact h2 (j + 1) (by omega) (by omega)
    · intro h
      have h2 : ∀ j, 0 < j → j < l.length → slt (nth .empty l (j - 1)) (nth .empty l j) = true := fun j hj hl => by
        have := h (j + 1) (by omega) (by simp; omega)
        cases j with
        | zero => omega
        | succ j => simpa [zcm, zez] using this
      refine ⟨fun b hb => ?_, h2⟩
      obtain ⟨i, hi, rfl⟩ := zbh .empty hb
      clear hb
      induction i with
      | zero => have := h 1 (by omega) (by simp; omega); simpa [zcm, zez] using this
      | succ i ihi => exact zbo (ihi (by omega)) (h2 (i + 1) (by omega) hi)
structure ThingOk (t : Thing) (w : Int) : Prop where
  wd : 1 ≤ w ∧ w ≤ 8
  text : t.text.size ≤ 2000
  refs : t.refs.length ≤ 30
  size : ∀ r ∈ t.refs, (r.size : Int) = w
  asc : Asc t.refs
noncomputable def zr (t : Thing) (w : Int) : Bool := decide (ThingOk t w)
theorem zek {t : Thing} {w : Int} : zr t w = true ↔ ThingOk t w := by simp [zr]
def refP (l : List Bs) (w : Int) (j : Nat) : Prop := ((nth .empty l j).size : Int) = w ∧ (0 < j → slt (nth .empty l (j - 1)) (nth .empty l j) = true)
theorem zj0 (l : List Bs) (w : Int) : (∀ j, 0 ≤ j → j < l.length → refP l w j) ↔ (∀ r ∈ l, (r.size : Int) = w) ∧ Asc l := by
  rw [zlk]
  constructor
  · intro h
    refine ⟨fun r hr => ?_, fun j h1 h2 => (h j (by omega) h2).2 h1⟩
    obtain ⟨i, hi, rfl⟩ := zbh .empty hr
    exact (h i (by omega) hi).1
  · rintro ⟨h1, h2⟩ j _ hj
    exact ⟨h1 _ (zk hj), fun h => h2 j h hj⟩
theorem zkd (l : List Bs) (x : Bs) (w : Int) (hl : l.length ≤ 30) : ∀ i : Nat, i ≤ l.length →
    Lqn (some 4) [.i w, .l (encS l), .i (l.length : Int), .i (i : Int), .s x, .l (encS l)] = if (∀ j, i ≤ j → j < l.length → refP l w j) then some [.b (zj w)] else some [.b false] := by
  refine zp (f := fun i : Nat => Lqn (some 4) [.i w, .l (encS l), .i (l.length : Int), .i (i : Int), .s x, .l (encS l)]) (fun i hi => ?_) ?_
  · show (_ → Lqn _ _ = _) ∧ (_ → Lqn _ _ = _)
    rw [eqn_4]
    unfold refP
    by_cases h0 : 0 < i <;> by_cases h1 : ((nth .empty l i).size : Int) = w <;> simp (disch := omega) only [push_cast]
    · cases slt (nth .empty l (i - 1)) (nth .empty l i) <;> simp [h0, h1]
    · simp [h1]
    · simp [h0, h1]
    · simp [h1]
  · show Lqn _ _ = _
    rw [eqn_4]; simp (disch := omega) only [push_cast, zbm]
theorem zca (t : Thing) (w : Int) : ThingOk t w ↔ zj w = true ∧ t.text.size ≤ 2000 ∧ t.refs.length ≤ 30 ∧ ∀ j, 0 ≤ j → j < t.refs.length → refP t.refs w j := by
  rw [zj0, zbb]
  exact ⟨fun h => ⟨h.wd, h.text, h.refs, h.size, h.asc⟩, fun h => ⟨h.1, h.2.1, h.2.2.1, h.2.2.2.1, h.2.2.2.2⟩⟩
theorem z9 (t : Thing) (w : Int) : Lqn none [.s t.text, .l (encS t.refs), .i w] = some [.b (zr t w)] := by
  rw [eqn_i, zw]
  by_cases h1 : t.text.size ≤ 2000
  · by_cases h2 : t.refs.length ≤ 30
    · rw [show decide ((2000 : Int) < (t.text.size : Int)) = false by simp; omega, show decide ((30 : Int) < (t.refs.length : Int)) = false by simp; omega]
      simp only [cond_false]
      have := zkd t.refs t.text w h2 0 (Nat.zero_le _)
      rw [show ((0 : Nat) : Int) = 0 from rfl] at this
      rw [this]
      unfold zr
      by_cases h3 : ∀ j, 0 ≤ j → j < t.refs.length → refP t.refs w j
      · rw [if_pos h3]; congr 3
        cases hw : zj w
        · exact (decide_eq_false fun h => by rw [zca, hw] at h; cases h.1).symm
        · exact (decide_eq_true ((zca t w).2 ⟨hw, h1, h2, h3⟩)).symm
      · rw [if_neg h3, decide_eq_false fun h => h3 ((zca t w).1 h).2.2.2]
    · rw [show decide ((2000 : Int) < (t.text.size : Int)) = false by simp; omega, show decide ((30 : Int) < (t.refs.length : Int)) = true by simp; omega]
      simp only [cond_false, cond_true]
      unfold zr
      rw [decide_eq_false fun h => h2 h.refs]
  · rw [show decide ((2000 : Int) < (t.text.size : Int)) = true by simp; omega]
    simp only [cond_true]
    unfold zr
    rw [decide_eq_false fun h => h1 h.text]
theorem zj4 (l : List Bs) (x : Bs) (w : Int) (hl : l.length ≤ 30) : ∀ i : Nat, i ≤ l.length →
    Lqi (some 4) [.i w, .i (i : Int), .s x, .l (encS l)] = if (∀ j, i ≤ j → j < l.length → refP l w j) then some [.b true] else some [.b false] := by
  refine zp (f := fun i : Nat => Lqi (some 4) [.i w, .i (i : Int), .s x, .l (encS l)]) (fun i hi => ?_) ?_
  · show (_ → Lqi _ _ = _) ∧ (_ → Lqi _ _ = _)
    rw [eqi_4]
    unfold refP
    by_cases h0 : 0 < i <;> by_cases h1 : ((nth .empty l i).size : Int) = w <;> simp (disch := omega) only [push_cast]
    · cases slt (nth .empty l (i - 1)) (nth .empty l i) <;> simp [h0, h1]
    · simp [h1]
    · simp [h0, h1]
    · simp [h1]
  · show Lqi _ _ = _
    rw [eqi_4]; simp (disch := omega) only [push_cast]
theorem zb9 (t : Thing) (w : Int) : Lqi none [.s t.text, .l (encS t.refs), .i w] = some [.b (zr t w)] := by
  rw [eqi_i, z8, zw]
  simp only [Option.bind_some, g, List.getD_cons_zero, Lf.bool]
  unfold zr
  cases hw : zj w
  · simp (disch := omega) only [push_cast]; rw [decide_eq_false (p := ThingOk t w) fun h => by rw [zca, hw] at h; cases h.1]
  by_cases h1 : t.text.size ≤ 2000
  · by_cases h2 : t.refs.length ≤ 30
    · rw [show decide ((2000 : Int) < (t.text.size : Int)) = false by simp; omega, show decide ((30 : Int) < (t.refs.length : Int)) = false by simp; omega]
      simp only [cond_false, Bool.not_true]
      have := zj4 t.refs t.text w h2 0 (Nat.zero_le _)
      rw [show ((0 : Nat) : Int) = 0 from rfl] at this
      rw [this]
      by_cases h3 : ∀ j, 0 ≤ j → j < t.refs.length → refP t.refs w j
      · rw [if_pos h3, decide_eq_true ((zca t w).2 ⟨hw, h1, h2, h3⟩)]
      · rw [if_neg h3, decide_eq_false fun h => h3 ((zca t w).1 h).2.2.2]
    · rw [show decide ((2000 : Int) < (t.text.size : Int)) = false by simp; omega, show decide ((30 : Int) < (t.refs.length : Int)) = true by simp; omega]
      simp only [cond_false, cond_true, Bool.not_true]
      rw [decide_eq_false fun h => h2 h.refs]
  · rw [show decide ((2000 : Int) < (t.text.size : Int)) = true by simp; omega]
    simp only [cond_true, cond_false, Bool.not_true]
    rw [decide_eq_false fun h => h1 h.text]
theorem zef (n : Int) : IntKind.u64.wrap n = n % 18446744073709551616 := by simp [IntKind.wrap, IntKind.bits, IntKind.signed]
def step1 (h b : Int) : Int := IntKind.u64.wrap ((IntKind.u64.wrap (BitVec.ofInt (IntKind.u64).bits h ^^^ BitVec.ofInt (IntKind.u64).bits (IntKind.u64.wrap b)).toNat) * 1099511628211)
def hash (s : Bs) : Int := (List.range' 0 s.size).foldl (fun h i => step1 h (byteAt s i)) 14695981039346656037
def digs : Nat → Int → List Int
  | 0, _ => []
  | n + 1, h => digs n (h / 256) ++ [h % 256]
theorem zg5 : ∀ n h, (digs n h).length = n
  | 0, _ => rfl
  | n + 1, h => by simp [digs, zg5 n]
def rowI (l : List Int) : Rw := l.map fun d => [.i d]
noncomputable def sumM (s : Bs) (w : Int) : Bs := if zj w = true then bytesOf (rowI (digs w.toNat (hash s))) else ⟨#[]⟩
theorem zjq {s : Bs} {w : Int} (h : zj w = true) : ((sumM s w).size : Int) = w := by
  rw [sumM, if_pos h, zdf, rowI, List.length_map, zg5]
  have := zbb.1 h; omega
theorem zik (n : Int) : 0 ≤ IntKind.u64.wrap n ∧ IntKind.u64.wrap n < 18446744073709551616 := by rw [zef]; omega
theorem zhr (s : Bs) : 0 ≤ hash s ∧ hash s < 18446744073709551616 := by
  unfold hash
  generalize List.range' 0 s.size = l
  have : ∀ (l : List Nat) (h : Int), (0 ≤ h ∧ h < 18446744073709551616) → 0 ≤ l.foldl (fun h i => step1 h (byteAt s i)) h ∧ l.foldl (fun h i => step1 h (byteAt s i)) h < 18446744073709551616 := by
    intro l
    induction l with
    | nil => exact fun h hh => hh
    | cons a l ih => exact fun h _ => ih _ (zik _)
  exact this l _ (by omega)
theorem wrI (l : List Int) (i : Nat) (d : Int) (h : i < l.length) : wrs (rowI l) i 0 [.i d] = rowI (l.set i d) := by
  unfold wrs wrs wr rowI
  rw [List.map_set]
  congr 1
  have : (l.map fun d => [C.i d]).getD i [] = [.i l[i]] := by simp [List.getD_eq_getElem?_getD, h]
  rw [this]; rfl
theorem zj8 (n : Nat) : ∀ (h : Int) (l r : List Int), 0 ≤ h → h < 18446744073709551616 → l.length = n → n + r.length ≤ 8 →
    Lqh (some 12) [.i h, .i ((n : Int) - 1), .l (rowI (l ++ r))] = some [.s (bytesOf (rowI (digs n h ++ r)))] := by
  induction n with
  | zero =>
    intro h l r h0 h1 hl hr
    rw [eqh_12]
    have : l = [] := List.eq_nil_of_length_eq_zero hl
    subst this
    simp (disch := omega) only [push_cast] <;> rfl
  | succ n ih =>
    intro h l r h0 h1 hl hr
    rw [eqh_12]
    have hlen : (rowI (l ++ r)).length = n + 1 + r.length := by simp [rowI, hl]
    have e : ((n + 1 : Nat) : Int) - 1 = (n : Int) := by omega
    rw [e, hlen]
    have hu : IntKind.u8.wrap h = h % 256 := by rw [IntKind.wrap_u8]
    simp (disch := omega) only [push_cast, wrI]
    rw [hu, wrI _ _ _ (by simp [hl]; omega)]
    have hset : (l ++ r).set n (h % 256) = l.take n ++ (h % 256 :: r) := by
      rw [List.set_append_left _ _ (by omega)]
      have : l = l.take n ++ [l[n]] := by
        conv => lhs; rw [← List.take_append_drop n l, List.drop_eq_getElem_cons (by omega), List.drop_of_length_le (by omega)]
      conv => lhs; rw [this]
      rw [List.set_append_right _ _ (by simp; omega)]
      simp [hl]
    rw [hset]
    have hf : h.fdiv (2 ^ 8) = h / 256 := by rw [Int.fdiv_eq_ediv_of_nonneg _ (by omega)]; rfl
    rw [hf, ih (h / 256) (l.take n) (h % 256 :: r) (by omega) (by omega) (by simp [hl]) (by simp; omega)]
    simp [digs]
theorem zbl (s : Bs) (w : Int) (hs : s.size ≤ 1099511627776) : Lqh none [.s s, .i w] = some [.s (sumM s w)] := by
  rw [eqh_i, zbm]
  unfold sumM
  cases hw : zj w
  · simp (disch := omega) only [push_cast] <;> rfl
  · simp (disch := omega) only [push_cast]
    have := zf0 (f := fun (i : Nat) (h : Int) => Lqh (some 5) [.s s, .i w, .i h, .i (s.size : Int), .i (i : Int)]) (g := fun i h => step1 h (byteAt s i)) (n := s.size) (fun i h hi => by
      show Lqh _ _ = Lqh _ _
      rw [eqh_5]; simp (disch := omega) only [push_cast] <;> rfl) 0 (Nat.zero_le _) 14695981039346656037
    rw [show ((0 : Nat) : Int) = 0 from rfl] at this
    rw [this, Nat.sub_zero, show (List.range' 0 s.size).foldl (fun h i => step1 h (byteAt s i)) 14695981039346656037 = hash s from rfl, eqh_5]
    have h8 := zbb.1 hw
    have hr := zhr s
    have hm : (most : Int) = 1099511627776 := rfl
    obtain ⟨n, rfl⟩ : ∃ n : Nat, w = (n : Int) := ⟨w.toNat, by omega⟩
    simp (disch := omega) only [push_cast, hm]
    have h12 := zj8 n (hash s) (List.replicate n 0) [] hr.1 hr.2 (by simp) (by simp; omega)
    rw [List.append_nil, List.append_nil, show rowI (List.replicate n 0) = List.replicate n [C.i 0] by simp [rowI]] at h12
    exact h12
theorem zkp (n : Nat) : ∀ (h : Int) (r : List Int) (w : Nat), 0 ≤ h → h < 18446744073709551616 → r.length + n = w → w ≤ 8 →
    Lqj (some 10) [.i (w : Int), .i h, .i (r.length : Int), .l (rowI r)] = some [.s (bytesOf (rowI (digs n h ++ r)))] := by
  induction n with
  | zero =>
    intro h r w h0 h1 hr hw
    rw [eqj_10]
    simp (disch := omega) only [push_cast] <;> rfl
  | succ n ih =>
    intro h r w h0 h1 hr hw
    rw [eqj_10]
    have hm : most = 1099511627776 := rfl
    have hlen : (rowI r).length = r.length := by simp [rowI]
    have hu : IntKind.u8.wrap (h.tmod 256) = h % 256 := by rw [Int.tmod_eq_emod_of_nonneg h0, w8 (by omega)]
    have hq : IntKind.u64.wrap (h.tdiv 256) = h / 256 := by rw [Int.tdiv_eq_ediv_of_nonneg h0, zef]; omega
    rw [hu, hq]
    simp (disch := omega) only [push_cast, List.length_cons, List.length_nil, hm, hlen]
    have := ih (h / 256) (h % 256 :: r) w (by omega) (by omega) (by simp; omega) hw
    simp only [List.length_cons] at this
    rw [show ([[C.i (h % 256)]] : Rw) ++ rowI r = rowI (h % 256 :: r) from rfl, show ((r.length : Int) + 1) = ((r.length + 1 : Nat) : Int) by omega, this]
    simp [digs]
theorem zda (s : Bs) (w : Int) (hs : s.size ≤ 1099511627776) : Lqj none [.s s, .i w] = some [.s (sumM s w)] := by
  rw [eqj_i, z8]
  unfold sumM
  cases hw : zj w
  · simp (disch := omega) only [push_cast] <;> rfl
  · simp (disch := omega) only [push_cast]
    have := zf0 (f := fun (i : Nat) (h : Int) => Lqj (some 5) [.s s, .i w, .i h, .i (i : Int)]) (g := fun i h => step1 h (byteAt s i)) (n := s.size) (fun i h hi => by
      show Lqj _ _ = Lqj _ _
      rw [eqj_5]; simp (disch := omega) only [push_cast] <;> rfl) 0 (Nat.zero_le _) 14695981039346656037
    rw [show ((0 : Nat) : Int) = 0 from rfl] at this
    rw [this, Nat.sub_zero, show (List.range' 0 s.size).foldl (fun h i => step1 h (byteAt s i)) 14695981039346656037 = hash s from rfl, eqj_5]
    have h8 := zbb.1 hw
    have hr := zhr s
    obtain ⟨n, rfl⟩ : ∃ n : Nat, w = (n : Int) := ⟨w.toNat, by omega⟩
    simp (disch := omega) only [push_cast]
    have := zkp n (hash s) [] n hr.1 hr.2 (by simp) (by omega)
    rw [List.append_nil] at this
    exact this
end KV
end
section
namespace KV
open Go Go.Eng
open Classical
theorem mostE : most = 1099511627776 := rfl
def szs (l : List Bs) : Nat := (l.map (·.size)).sum
theorem zhk (a : Bs) (l : List Bs) : szs (a :: l) = a.size + szs l := rfl
theorem zf8 (l m : List Bs) : szs (l ++ m) = szs l + szs m := by simp [szs]
theorem zhs (l : List Bs) (i : Nat) : szs (l.take i) ≤ szs l := by
  conv => rhs; rw [← List.take_append_drop i l, zf8]
  omega
def hd (n : Nat) : Bs := bytesOf [[.i (IntKind.u8.wrap (n : Int))]]
theorem zcu (n : Nat) : (hd n).size = 1 := by rw [hd, zdf]; rfl
def cat (a : Bs) (l : List Bs) : Bs := l.foldl (· ++ ·) a
theorem zc5 (l : List Bs) : ∀ a, (cat a l).size = a.size + szs l := by
  induction l with
  | nil => intro a; rfl
  | cons x l ih => intro a; show (cat (a ++ x) l).size = _; rw [ih, zc7, zhk]; omega
theorem zdj (a : Bs) (l : List Bs) (i : Nat) (h : i < l.length) : cat a (l.take (i + 1)) = cat a (l.take i) ++ nth .empty l i := by
  unfold cat; rw [zcg .empty h, List.foldl_append]; rfl
def formM (t : Thing) : Bs := cat (hd t.refs.length) t.refs ++ t.text
theorem zg2 (t : Thing) : (formM t).size = 1 + szs t.refs + t.text.size := by rw [formM, zc7, zc5, zcu]
theorem zi7 (t : Thing) (h : 1 + szs t.refs + t.text.size ≤ 1099511627776) (hl : t.refs.length ≤ 4611686018427387904) : Lqq none [.s t.text, .l (encS t.refs)] = some [.s (formM t)] := by
  rw [eqq_i]
  have := zb5 (f := fun (i : Nat) (a : Bs) => Lqq (some 3) [.s a, .l (encS t.refs), .i (t.refs.length : Int), .i (i : Int), .s t.text, .l (encS t.refs)]) (n := t.refs.length) (T := some [.s (formM t)])
    (I := fun i a => a = cat (hd t.refs.length) (t.refs.take i)) (fun i a hi hI => ⟨_, by
      show Lqq _ _ = Lqq _ _
      rw [eqq_3, mostE]
      have : a.size + (nth .empty t.refs i).size ≤ 1 + szs t.refs := by
        rw [hI, ← zc7, ← zdj _ _ _ hi, zc5, zcu]
        have := zhs t.refs (i + 1); omega
      simp (disch := omega) only [push_cast] <;> rfl, by show _ = _; rw [hI, zdj _ _ _ hi]⟩) (fun a hI => by
      show Lqq _ _ = _
      have : a.size + t.text.size ≤ 1099511627776 := by rw [hI, List.take_length, zc5, zcu]; omega
      rw [eqq_3, mostE]; simp (disch := omega) only [push_cast]
      rw [hI, List.take_length]; rfl) 0 (hd t.refs.length) (Nat.zero_le _) rfl
  rw [zw]; exact this
theorem zct {t : Thing} {w : Int} (h : ThingOk t w) : 1 + szs t.refs + t.text.size ≤ 2241 ∧ t.refs.length ≤ 30 := by
  have h1 := h.refs; have h2 := h.text; have h3 := h.wd
  have : ∀ l : List Bs, (∀ r ∈ l, (r.size : Int) = w) → szs l ≤ 8 * l.length := by
    intro l
    induction l with
    | nil => intro _; simp [szs]
    | cons a l ih => intro hl; rw [zhk, List.length_cons]; have := hl a (by simp); have := ih fun r hr => hl r (by simp [hr]); omega
  have := this _ h.size
  omega
theorem zbi {t : Thing} {w : Int} (h : ThingOk t w) : Lqq none [.s t.text, .l (encS t.refs)] = some [.s (formM t)] := by
  have := zct h
  exact zi7 t (by omega) (by omega)
noncomputable def formT (t : Thing) (w : Int) : Bs := if zr t w = true then formM t else ⟨#[]⟩
theorem zc9 (t : Thing) (w : Int) : Lqz none [.s t.text, .l (encS t.refs), .i w] = some [.s (formT t w)] := by
  rw [eqz_i, zb9]
  unfold formT
  cases ht : zr t w
  · simp (disch := omega) only [push_cast] <;> rfl
  · simp (disch := omega) only [push_cast]
    have hk := zct (zek.1 ht)
    have := zb5 (f := fun (i : Nat) (a : Rw) => Lqz (some 5) [.i (i : Int), .s t.text, .l (encS t.refs), .l a]) (n := t.refs.length) (T := some [.s (formM t)])
      (I := fun i a => bytesOf a = cat (hd t.refs.length) (t.refs.take i)) (fun i a hi hI => ⟨_, by
        show Lqz _ _ = Lqz _ _
        rw [eqz_5, mostE]
        have : a.length + (nth .empty t.refs i).size ≤ 1 + szs t.refs := by
          rw [← zdf, hI, ← zc7, ← zdj _ _ _ hi, zc5, zcu]
          have := zhs t.refs (i + 1); omega
        simp (disch := omega) only [push_cast, zgn] <;> rfl, by show _ = _; rw [zb1, zgo, hI, zdj _ _ _ hi]⟩) (fun a hI => by
        show Lqz _ _ = _
        have : a.length + t.text.size ≤ 1099511627776 := by rw [← zdf, hI, List.take_length, zc5, zcu]; omega
        rw [eqz_5, mostE]; simp (disch := omega) only [push_cast, zgn]
        rw [zb1, zgo, hI, List.take_length]; rfl) 0 [[.i (IntKind.u8.wrap (t.refs.length : Int))]] (Nat.zero_le _) rfl
    exact this
def chunk (s : Bs) (w i : Nat) : Bs := s.extract (1 + i * w) (1 + i * w + w)
def parts (s : Bs) (w : Nat) : Thing := ⟨s.extract (1 + (byteAt s 0).toNat * w) s.size, (List.range (byteAt s 0).toNat).map (chunk s w)⟩
noncomputable def readT (s : Bs) (w : Int) : Option Thing :=
  if zj w = true ∧ 1 ≤ s.size ∧ 1 + (byteAt s 0).toNat * w.toNat ≤ s.size then (if zr (parts s w.toNat) w = true then some (parts s w.toNat) else none) else none
theorem zjt {α : Type} (f : Nat → α) (i : Nat) : (List.range (i + 1)).map f = (List.range i).map f ++ [f i] := by rw [List.range_succ, List.map_append]; rfl
end KV
end
section
namespace KV
open Go Go.Eng
open Classical
structure Entry where
  kind : Int
  sum : Bs
  name : Bs
  number : Int
  thing : Thing
abbrev E0 : Bs := ⟨#[]⟩
structure NameOk (s : Bs) : Prop where
  lo : 1 ≤ s.size
  hi : s.size ≤ 40
  by_ : ∀ j, 0 ≤ j → j < s.size → 33 ≤ byteAt s j ∧ byteAt s j ≤ 126
noncomputable def nameB (s : Bs) : Bool := decide (NameOk s)
theorem zig {s : Bs} : nameB s = true ↔ NameOk s := by simp [nameB]
theorem zg4 (s : Bs) : (if (∀ j, 0 ≤ j → j < s.size → 33 ≤ byteAt s j ∧ byteAt s j ≤ 126) then cond (decide (1 ≤ (s.size : Int))) (some [Lf.b (decide ((s.size : Int) ≤ 40))]) (some [.b false]) else some [.b false]) = some [.b (nameB s)] := by
  unfold nameB
  by_cases h : ∀ j, 0 ≤ j → j < s.size → 33 ≤ byteAt s j ∧ byteAt s j ≤ 126
  · rw [if_pos h]
    by_cases h1 : 1 ≤ s.size
    · rw [show decide (1 ≤ (s.size : Int)) = true by simp; omega]
      by_cases h2 : s.size ≤ 40
      · rw [decide_eq_true (p := NameOk s) ⟨h1, h2, h⟩, show decide ((s.size : Int) ≤ 40) = true by simp; omega]; rfl
      · rw [decide_eq_false (p := NameOk s) fun h => h2 h.hi, show decide ((s.size : Int) ≤ 40) = false by simp; omega]; rfl
    · rw [decide_eq_false (p := NameOk s) fun h => h1 h.lo, show decide (1 ≤ (s.size : Int)) = false by simp; omega]; rfl
  · rw [if_neg h, decide_eq_false (p := NameOk s) fun h1 => h h1.by_]
theorem zl3 (s : Bs) (hs : s.size ≤ 4611686018427387904) : Lq3 none [.s s] = some [.b (nameB s)] := by
  rw [eq3_i]
  have := zp (f := fun i : Nat => Lq3 (some 2) [.s s, .i (s.size : Int), .i (i : Int)]) (n := s.size) (P := fun j => 33 ≤ byteAt s j ∧ byteAt s j ≤ 126) (F := some [.b false])
    (T := cond (decide (1 ≤ (s.size : Int))) (some [Lf.b (decide ((s.size : Int) ≤ 40))]) (some [.b false])) (fun i hi => by
      show (_ → Lq3 _ _ = _) ∧ (_ → Lq3 _ _ = _)
      rw [eq3_2]
      by_cases h1 : 33 ≤ byteAt s i <;> by_cases h2 : byteAt s i ≤ 126 <;> simp (disch := omega) only [push_cast] <;> simp [h1, h2]) (by
      show Lq3 _ _ = _
      rw [eq3_2, dlt_f (Nat.le_refl _)]; rfl) 0 (Nat.zero_le _)
  rw [zg4] at this
  exact this
theorem zjv (s : Bs) (hs : s.size ≤ 4611686018427387904) : Lq0 none [.s s] = some [.b (nameB s)] := by
  rw [eq0_i]
  have := zp (f := fun i : Nat => Lq0 (some 2) [.s s, .i (i : Int)]) (n := s.size) (P := fun j => 33 ≤ byteAt s j ∧ byteAt s j ≤ 126) (F := some [.b false])
    (T := cond (decide (1 ≤ (s.size : Int))) (some [Lf.b (decide ((s.size : Int) ≤ 40))]) (some [.b false])) (fun i hi => by
      show (_ → Lq0 _ _ = _) ∧ (_ → Lq0 _ _ = _)
      rw [eq0_2]
      by_cases h1 : 33 ≤ byteAt s i <;> by_cases h2 : byteAt s i ≤ 126 <;> simp (disch := omega) only [push_cast] <;> simp [h1, h2]) (by
      show Lq0 _ _ = _
      rw [eq0_2, dlt_f (Nat.le_refl _)]; rfl) 0 (Nat.zero_le _)
  rw [zg4] at this
  exact this
def uS (k : Int) : Bool := decide (k = 2 ∨ k = 4 ∨ k = 7)
def uN (k : Int) : Bool := decide (k = 2 ∨ k = 3)
noncomputable def sumB (k : Int) (s : Bs) (w : Int) : Bool := if uS k = true then decide ((s.size : Int) = w) else decide (s = E0)
noncomputable def namB (k : Int) (n : Bs) : Bool := if uN k = true then nameB n else decide (n = E0)
def numB (k m : Int) : Bool := if k = 1 ∨ k = 4 ∨ k = 6 then decide (1 ≤ m ∧ m ≤ 100000) else if k = 5 then decide (1 ≤ m ∧ m ≤ 1000000000) else decide (m = 0)
noncomputable def thgB (k : Int) (t : Thing) (w : Int) : Bool := if k = 1 then zr t w else decide (t.text = E0) && decide (t.refs.length = 0)
noncomputable def zq (e : Entry) (w : Int) : Bool := decide (1 ≤ e.kind ∧ e.kind ≤ 7) && (zj w && (sumB e.kind e.sum w && (namB e.kind e.name && (numB e.kind e.number && thgB e.kind e.thing w))))
end KV
end
section
namespace KV
open Go Go.Eng
open Classical
theorem EntryOk.kd {e : Entry} {w : Int} (h : zq e w = true) : 1 ≤ e.kind ∧ e.kind ≤ 7 := by
  unfold zq at h; simp only [Bool.and_eq_true, decide_eq_true_eq] at h; exact h.1
theorem EntryOk.wd {e : Entry} {w : Int} (h : zq e w = true) : zj w = true := by
  unfold zq at h; simp only [Bool.and_eq_true, decide_eq_true_eq] at h; exact h.2.1
theorem EntryOk.nm {e : Entry} {w : Int} (h : zq e w = true) : e.name.size ≤ 40 := by
  unfold zq namB at h; simp only [Bool.and_eq_true, decide_eq_true_eq] at h
  have := h.2.2.2.1
  split at this
  · exact (zig.1 this).hi
  · have := of_decide_eq_true this; rw [this]; decide
theorem EntryOk.sum {e : Entry} {w : Int} (h : zq e w = true) : e.sum.size ≤ 8 := by
  have hw := zbb.1 (EntryOk.wd h)
  unfold zq sumB at h; simp only [Bool.and_eq_true, decide_eq_true_eq] at h
  have := h.2.2.1
  split at this
  · have := of_decide_eq_true this; omega
  · have := of_decide_eq_true this; rw [this]; decide
theorem EntryOk.thing {e : Entry} {w : Int} (h : zq e w = true) (hk : e.kind = 1) : ThingOk e.thing w := by
  unfold zq thgB at h; simp only [Bool.and_eq_true, decide_eq_true_eq, if_pos hk] at h
  exact zek.1 h.2.2.2.2.2
def hd6 (k m : Int) (n : Nat) : Bs := bytesOf [[.i k], [.i (m / 16777216)], [.i (m / 65536 % 256)], [.i (m / 256 % 256)], [.i (m % 256)], [.i (n : Int)]]
def formE (e : Entry) : Bs := hd6 e.kind e.number e.name.size ++ e.name ++ e.sum ++ (if e.kind = 1 then formM e.thing else E0)
theorem zf5 (s : Bs) : s ++ E0 = s := by
  apply Go.WideShapes.bytes_inj; simp [ByteArray.data_append]
theorem zbk (s : Bs) {a b c : Nat} (h1 : a ≤ b) (h2 : b ≤ c) : s.extract a b ++ s.extract b c = s.extract a c := by
  apply Go.WideShapes.bytes_inj
  simp only [ByteArray.data_append, ByteArray.data_extract, Array.toList_append, Array.toList_extract, List.extract_eq_take_drop]
  apply List.ext_getElem?
  intro i
  rw [List.getElem?_append]
  simp only [List.length_take, List.length_drop, Array.length_toList, List.getElem?_take, List.getElem?_drop]
  have hs : ∀ j, s.data.size ≤ j → s.data.toList[j]? = none := fun j hj => List.getElem?_eq_none (by simpa using hj)
  by_cases h : i < min (b - a) (s.data.size - a)
  · rw [if_pos h, if_pos (by omega), if_pos (by omega)]
  · rw [if_neg h]
    by_cases h3 : i < c - a
    · by_cases h4 : b - a ≤ s.data.size - a
      · rw [if_pos h3, if_pos (by omega)]; congr 1; omega
      · rw [if_pos h3, hs (a + i) (by omega)]
        split
        · exact hs _ (by omega)
        · rfl
    · by_cases h4 : b - a ≤ s.data.size - a
      · rw [if_neg h3, if_neg (by omega)]
      · rw [if_neg h3]
        split
        · exact hs _ (by omega)
        · rfl
theorem zd9 (s : Bs) : s.extract 0 s.size = s := by
  apply Go.WideShapes.bytes_inj
  simp only [ByteArray.data_extract, Array.toList_extract, List.extract_eq_take_drop]
  rw [List.drop_zero, Nat.sub_zero, List.take_of_length_le]
  show s.data.toList.length ≤ s.data.size
  rw [Array.length_toList]; exact Nat.le_refl _
theorem zbw (s : Bs) (i : Nat) (h : i < s.size) : s.extract i (i + 1) = bytesOf [[.i (byteAt s i)]] := by
  apply Go.WideShapes.bytes_inj
  have h' : i < s.data.toList.length := by simpa using h
  simp only [ByteArray.data_extract, Array.toList_extract, List.extract_eq_take_drop]
  rw [List.drop_eq_getElem_cons h', show i + 1 - i = 1 by omega]
  simp only [List.take_succ_cons, List.take_zero]
  show _ = [UInt8.ofNat (byteAt s i).toNat]
  have : s.data.getD i 0 = s.data.toList[i] := by simp [Array.getD]; rw [dif_pos h]
  rw [byteAt, this, Int.toNat_natCast, UInt8.ofNat_toNat]
theorem zkc {s : Bs} {w : Int} {t : Thing} (h : readT s w = some t) : formM t = s ∧ ThingOk t w := by
  unfold readT at h
  split at h
  · rename_i hc
    split at h
    · rename_i ht
      cases h
      refine ⟨?_, zek.1 ht⟩
      have hb := zby s 0
      obtain ⟨k, hk⟩ : ∃ k : Nat, byteAt s 0 = (k : Int) := ⟨(byteAt s 0).toNat, by omega⟩
      have hkn : (byteAt s 0).toNat = k := by rw [hk]; rfl
      obtain ⟨hw, h0, h1⟩ := hc
      rw [hkn] at h1
      unfold formM parts
      simp only [List.length_map, List.length_range, hkn]
      have hcat : ∀ i, i ≤ k → cat (hd k) ((List.range i).map (chunk s w.toNat)) = s.extract 0 (1 + i * w.toNat) := by
        intro i
        induction i with
        | zero =>
          intro _
          rw [Nat.zero_mul, zbw s 0 (by omega)]
          show hd k = _
          unfold hd
          rw [hk, w8 (by omega)]
        | succ i ih =>
          intro hi
          have hm : (i + 1) * w.toNat = i * w.toNat + w.toNat := Nat.succ_mul _ _
          have hm2 : (i + 1) * w.toNat ≤ k * w.toNat := Nat.mul_le_mul_right _ hi
          unfold cat at ih ⊢
          rw [zjt, List.foldl_append, ih (by omega)]
          show _ ++ chunk s w.toNat i = _
          unfold chunk
          rw [zbk s (by omega) (by omega), hm]; congr 1; omega
      rw [hcat k (Nat.le_refl _), zbk s (by omega) h1, zd9]
    · cases h
  · cases h
def num4 (s : Bs) : Int := byteAt s 1 * 16777216 + byteAt s 2 * 65536 + byteAt s 3 * 256 + byteAt s 4
def nmEnd (s : Bs) : Nat := 6 + (byteAt s 5).toNat
noncomputable def readE (s : Bs) (w : Int) : Option Entry :=
  if zj w = true ∧ 6 ≤ s.size ∧ nmEnd s ≤ s.size then
    (if byteAt s 0 = 1 then (match readT (s.extract (nmEnd s) s.size) w with
      | none => none
      | some t => if zq ⟨1, E0, s.extract 6 (nmEnd s), num4 s, t⟩ w = true then some ⟨1, E0, s.extract 6 (nmEnd s), num4 s, t⟩ else none)
    else if zq ⟨byteAt s 0, s.extract (nmEnd s) s.size, s.extract 6 (nmEnd s), num4 s, ⟨E0, []⟩⟩ w = true then some ⟨byteAt s 0, s.extract (nmEnd s) s.size, s.extract 6 (nmEnd s), num4 s, ⟨E0, []⟩⟩ else none)
  else none
theorem zjg (s : Bs) (h : 6 ≤ s.size) : hd6 (byteAt s 0) (num4 s) (byteAt s 5).toNat = s.extract 0 6 := by
  have b0 := zby s 0; have b1 := zby s 1; have b2 := zby s 2; have b3 := zby s 3; have b4 := zby s 4; have b5 := zby s 5
  unfold hd6 num4
  have e : ∀ a b c d e f : Int, bytesOf [[.i a], [.i b], [.i c], [.i d], [.i e], [.i f]] = bytesOf [[.i a]] ++ bytesOf [[.i b]] ++ bytesOf [[.i c]] ++ bytesOf [[.i d]] ++ bytesOf [[.i e]] ++ bytesOf [[.i f]] := fun a b c d e f => by
    rw [← zb1, ← zb1, ← zb1, ← zb1, ← zb1]; rfl
  have n1 : (byteAt s 1 * 16777216 + byteAt s 2 * 65536 + byteAt s 3 * 256 + byteAt s 4) / 16777216 = byteAt s 1 := by omega
  have n2 : (byteAt s 1 * 16777216 + byteAt s 2 * 65536 + byteAt s 3 * 256 + byteAt s 4) / 65536 % 256 = byteAt s 2 := by omega
  have n3 : (byteAt s 1 * 16777216 + byteAt s 2 * 65536 + byteAt s 3 * 256 + byteAt s 4) / 256 % 256 = byteAt s 3 := by omega
  have n4 : (byteAt s 1 * 16777216 + byteAt s 2 * 65536 + byteAt s 3 * 256 + byteAt s 4) % 256 = byteAt s 4 := by omega
  have n5 : (((byteAt s 5).toNat : Nat) : Int) = byteAt s 5 := by omega
  rw [n1, n2, n3, n4, n5, e, ← zbw s 0 (by omega), ← zbw s 1 (by omega), ← zbw s 2 (by omega), ← zbw s 3 (by omega), ← zbw s 4 (by omega), ← zbw s 5 (by omega)]
  rw [zbk s (by omega) (by omega), zbk s (by omega) (by omega), zbk s (by omega) (by omega), zbk s (by omega) (by omega), zbk s (by omega) (by omega)]
theorem zhw (s : Bs) (x : Thing) (h6 : 6 ≤ s.size) (h : nmEnd s ≤ s.size) (a : Bs) (hx : (if byteAt s 0 = 1 then formM x else E0) = (if byteAt s 0 = 1 then s.extract (nmEnd s) s.size else E0)) (ha : a = if byteAt s 0 = 1 then E0 else s.extract (nmEnd s) s.size) :
    formE ⟨byteAt s 0, a, s.extract 6 (nmEnd s), num4 s, x⟩ = s := by
  unfold formE
  simp only
  have hn : (s.extract 6 (nmEnd s)).size = (byteAt s 5).toNat := by rw [size_extract]; unfold nmEnd at h ⊢; omega
  rw [hn, zjg s h6, zbk s (by omega) (by unfold nmEnd; omega), hx, ha]
  split
  · rw [zf5, zbk s (by omega) h, zd9]
  · rw [zf5, zbk s (by omega) h, zd9]
theorem zj9 {s : Bs} {w : Int} {e : Entry} (h : readE s w = some e) : formE e = s ∧ zq e w = true := by
  unfold readE at h
  split at h
  · rename_i hc
    obtain ⟨hw, h6, hl⟩ := hc
    split at h
    · rename_i h1
      cases ht : readT (s.extract (nmEnd s) s.size) w with
      | none => rw [ht] at h; cases h
      | some t =>
        rw [ht] at h
        simp only at h
        split at h
        · rename_i he
          cases h
          refine ⟨?_, he⟩
          have := zhw s t h6 hl E0 (by rw [if_pos h1, if_pos h1, (zkc ht).1]) (by rw [if_pos h1])
          rw [h1] at this; exact this
        · cases h
    · rename_i h1
      split at h
      · rename_i he
        cases h
        exact ⟨zhw s ⟨E0, []⟩ h6 hl _ (by rw [if_neg h1, if_neg h1]) (by rw [if_neg h1]), he⟩
      · cases h
  · cases h
end KV
end
section
namespace KV
open Go Go.Eng
open Classical
structure Kept where
  sum : Bs
  born : Int
  thing : Thing
structure Pin where
  name : Bs
  sum : Bs
structure Lease where
  number : Int
  sum : Bs
  till : Int
structure State where
  width : Int
  now : Int
  given : Int
  births : Int
  things : List Kept
  pins : List Pin
  leases : List Lease
def K0 : Kept := ⟨.empty, 0, ⟨.empty, []⟩⟩
def P0 : Pin := ⟨.empty, .empty⟩
def L0 : Lease := ⟨0, .empty, 0⟩
def cK (k : Kept) : List C := [.s k.sum, .i k.born, .s k.thing.text, .l (encS k.thing.refs)]
def cP (p : Pin) : List C := [.s p.name, .s p.sum]
def cL (l : Lease) : List C := [.i l.number, .s l.sum, .i l.till]
def encK (l : List Kept) : Rw := l.map cK
def encP (l : List Pin) : Rw := l.map cP
def encL (l : List Lease) : Rw := l.map cL
def encSt (s : State) : Lv := [.i s.width, .i s.now, .i s.given, .i s.births, .l (encK s.things), .l (encP s.pins), .l (encL s.leases)]
@[push_cast] theorem zcv (l : List Kept) : (encK l).length = l.length := by simp [encK]
@[push_cast] theorem zdq (l : List Pin) : (encP l).length = l.length := by simp [encP]
@[push_cast] theorem zdh (l : List Lease) : (encL l).length = l.length := by simp [encL]
theorem zfm {α : Type} (d : α) (l : List α) (i : Nat) (h : l.length ≤ i) : nth d l i = d := by
  rw [nth, List.getD_eq_getElem?_getD, List.getElem?_eq_none h]; rfl
theorem zbp {α β : Type} (f : α → List C) (d : α) (l : List α) (i o : Nat) (g : C → β) (h : g (.i 0) = g ((f d).getD o (.i 0))) : g (rd (l.map f) i o) = g ((f (nth d l i)).getD o (.i 0)) := by
  rcases Nat.lt_or_ge i l.length with h1 | h1
  · rw [zhc f d _ _ _ h1]
  · rw [ze0 _ _ _ _ h1, zfm d l i h1, h]
@[push_cast] theorem zne (l : List Kept) (i : Nat) : (rd (encK l) i 0).str = (nth K0 l i).sum := zbp cK K0 l i 0 C.str rfl
@[push_cast] theorem zm9 (l : List Kept) (i : Nat) : (rd (encK l) i 1).int = (nth K0 l i).born := zbp cK K0 l i 1 C.int rfl
@[push_cast] theorem zm7 (l : List Kept) (i : Nat) : (rd (encK l) i 2).str = (nth K0 l i).thing.text := zbp cK K0 l i 2 C.str rfl
@[push_cast] theorem zmm (l : List Kept) (i : Nat) : (rd (encK l) i 3).list = encS (nth K0 l i).thing.refs := zbp cK K0 l i 3 C.list rfl
@[push_cast] theorem zna (l : List Pin) (i : Nat) : (rd (encP l) i 0).str = (nth P0 l i).name := zbp cP P0 l i 0 C.str rfl
@[push_cast] theorem zm8 (l : List Pin) (i : Nat) : (rd (encP l) i 1).str = (nth P0 l i).sum := zbp cP P0 l i 1 C.str rfl
@[push_cast] theorem znb (l : List Lease) (i : Nat) : (rd (encL l) i 0).int = (nth L0 l i).number := zbp cL L0 l i 0 C.int rfl
@[push_cast] theorem zm6 (l : List Lease) (i : Nat) : (rd (encL l) i 1).str = (nth L0 l i).sum := zbp cL L0 l i 1 C.str rfl
@[push_cast] theorem znd (l : List Lease) (i : Nat) : (rd (encL l) i 2).int = (nth L0 l i).till := zbp cL L0 l i 2 C.int rfl
theorem zjf {f : Nat → Nat → Option Lv} {q : Nat → Bool} {n r : Nat} (hr : r ≤ n) (h1 : ∀ j, j < r → q j = true) (h2 : ∀ j, r ≤ j → j < n → q j = false)
    (step : ∀ lo hi, lo < hi → hi ≤ n → f lo hi = cond (q ((lo + hi) / 2)) (f ((lo + hi) / 2 + 1) hi) (f lo ((lo + hi) / 2))) (last : ∀ lo, lo ≤ n → f lo lo = some [.i (lo : Int)]) : f 0 n = some [.i (r : Int)] := by
  have : ∀ m lo hi, hi - lo = m → lo ≤ r → r ≤ hi → hi ≤ n → f lo hi = some [.i (r : Int)] := by
    intro m
    induction m using Nat.strongRecOn with
    | ind m ih =>
      intro lo hi hm hlo hhi hn
      rcases Nat.lt_or_ge lo hi with hlt | hge
      · rw [step lo hi hlt hn]
        rcases Nat.lt_or_ge ((lo + hi) / 2) r with h | h
        · rw [h1 _ h]; exact ih _ (by omega) _ _ rfl (by omega) hhi hn
        · rw [h2 _ h (by omega)]; exact ih _ (by omega) _ _ rfl hlo h (by omega)
      · have e1 : lo = r := by omega
        have e2 : hi = r := by omega
        subst e1; subst e2; exact last _ hn
  exact this n 0 n (by omega) (by omega) hr (Nat.le_refl _)
theorem zg6 {α : Type} {f : Nat → Option Lv} {l : List α} {d : α} {p : α → Bool} {ret : Nat → Option Lv} {e : Option Lv} (step : ∀ i, i < l.length → f i = cond (p (nth d l i)) (ret i) (f (i + 1))) (last : f l.length = e) :
    f 0 = match l.findIdx? p with | some i => ret i | none => e := by
  have : ∀ m i, l.length - i = m → i ≤ l.length → f i = match (l.drop i).findIdx? p with | some j => ret (i + j) | none => e := by
    intro m
    induction m with
    | zero =>
      intro i hm hi
      have : i = l.length := by omega
      subst this; rw [last, List.drop_length]; rfl
    | succ m ih =>
      intro i hm hi
      rw [step i (by omega), ziw d (show i < l.length by omega), List.findIdx?_cons]
      cases p (nth d l i)
      · rw [cond_false, ih (i + 1) (by omega) (by omega)]
        cases (l.drop (i + 1)).findIdx? p with
        | none => rfl
        | some j => simp only [Option.map_some]; rw [show i + 1 + j = i + (j + 1) by omega]; rfl
      · rfl
  have h := this l.length 0 (by omega) (by omega)
  rw [List.drop_zero] at h
  rw [h]
  cases l.findIdx? p with
  | none => rfl
  | some j => simp
def lb {α : Type} (q : α → Bool) (l : List α) : Nat := (l.takeWhile q).length
theorem lb_le {α : Type} (q : α → Bool) (l : List α) : lb q l ≤ l.length := by
  unfold lb
  induction l with
  | nil => simp
  | cons a l ih => rw [List.takeWhile_cons]; split <;> simp <;> omega
theorem lb_lt {α : Type} (q : α → Bool) (d : α) : ∀ (l : List α) j, j < lb q l → q (nth d l j) = true
  | [], j, h => by simp [lb] at h
  | a :: l, j, h => by
    unfold lb at h
    rw [List.takeWhile_cons] at h
    split at h
    · rename_i hq
      cases j with
      | zero => exact hq
      | succ j => rw [zcm]; exact lb_lt q d l j (by simpa [lb] using h)
    · simp at h
theorem lb_at {α : Type} (q : α → Bool) (d : α) : ∀ (l : List α), lb q l < l.length → q (nth d l (lb q l)) = false
  | [], h => by simp at h
  | a :: l, h => by
    unfold lb at h ⊢
    rw [List.takeWhile_cons] at h ⊢
    split
    · rename_i hq
      rw [if_pos hq] at h
      simp only [List.length_cons, zcm] at h ⊢
      exact lb_at q d l (by unfold lb; omega)
    · rename_i hq; simp only [List.length_nil, zez]; simpa using hq
end KV
end
section
namespace KV
open Go Go.Eng
open Classical
theorem castS (i : Nat) : ((i + 1 : Nat) : Int) = (i : Int) + 1 := by omega
end KV
end
section
namespace KV
open Go Go.Eng
open Classical
theorem mostZ : ((most : Nat) : Int) = 1099511627776 := rfl
theorem zj7 (p q : List C) (x c : C) : setAt (p ++ x :: q) p.length c = p ++ c :: q := by
  induction p with
  | nil => rfl
  | cons y p ih => show y :: setAt (p ++ x :: q) p.length c = _; rw [ih]; rfl
theorem zgd : ∀ (r p q : List C) (a : Rw) (i : Nat), i < a.length → a.getD i [] = p ++ q → q.length = r.length → wrs a i p.length r = a.set i (p ++ r)
  | [], p, q, a, i, hi, h, hq => by
    have : q = [] := List.eq_nil_of_length_eq_zero hq
    subst this
    show a = _
    rw [← h]
    apply List.ext_getElem?
    intro n
    rw [List.getElem?_set]
    split
    · rename_i hn; subst hn; rw [List.getD_eq_getElem?_getD, List.getElem?_eq_getElem hi]; rfl
    · rfl
  | c :: r, p, q, a, i, hi, h, hq => by
    cases q with
    | nil => simp at hq
    | cons x q =>
      show wrs (wr a i p.length c) i (p.length + 1) r = _
      have hw : wr a i p.length c = a.set i (p ++ c :: q) := by unfold wr; rw [h, zj7]
      have := zgd r (p ++ [c]) q (wr a i p.length c) i (by rw [zbn]; exact hi) (by
        rw [hw, List.getD_eq_getElem?_getD, List.getElem?_set, if_pos rfl, if_pos hi]; simp) (by simpa using hq)
      rw [List.length_append] at this
      rw [show p.length + 1 = p.length + [c].length from rfl, this, hw]
      simp
theorem zc2 {a : Rw} {i : Nat} {z r : List C} (hi : i < a.length) (h : a.getD i [] = z) (hl : z.length = r.length) : wrs a i 0 r = a.set i r := by
  have := zgd r [] z a i hi (by rw [h]; rfl) hl
  simpa using this
theorem zcr {β : Type} {f : Nat → Rw → β} {ys : Rw} {z : List C} {T : β} (step : ∀ i a, i < ys.length → a.length = ys.length → a.getD i [] = z → f i a = f (i + 1) (a.set i (ys.getD i []))) (last : f ys.length ys = T) : f 0 (List.replicate ys.length z) = T := by
  refine zb5 (f := f) (n := ys.length) (I := fun i a => a.length = ys.length ∧ ∀ j, j < ys.length → a.getD j [] = if j < i then ys.getD j [] else z) (fun i a hi hI => ⟨_, step i a hi hI.1 (by rw [hI.2 i hi, if_neg (by omega)]), by rw [List.length_set]; exact hI.1, fun j hj => ?_⟩) (fun a hI => ?_) 0 _ (Nat.zero_le _) ⟨by simp, fun j hj => by simp [List.getD_eq_getElem?_getD, hj]⟩
  · rw [List.getD_eq_getElem?_getD, List.getElem?_set]
    by_cases h : i = j
    · subst h; rw [if_pos rfl, if_pos (by rw [hI.1]; exact hi), if_pos (by omega)]; rfl
    · rw [if_neg h, ← List.getD_eq_getElem?_getD, hI.2 j hj]
      by_cases h2 : j < i
      · rw [if_pos h2, if_pos (by omega)]
      · rw [if_neg h2, if_neg (by omega)]
  · have : a = ys := by
      apply List.ext_getElem hI.1
      intro n h1 h2
      have := hI.2 n h2
      rw [if_pos h2, List.getD_eq_getElem?_getD, List.getD_eq_getElem?_getD, List.getElem?_eq_getElem h1, List.getElem?_eq_getElem h2] at this
      simpa using this
    rw [this, last]
theorem zcs {α : Type} (f : α → List C) (d : α) (l : List α) (i : Nat) (h : i < l.length) : (l.map f).getD i [] = f (nth d l i) := by
  simp [nth, List.getD_eq_getElem?_getD, h]
theorem zga (l : List Bs) (h : l.length ≤ 1099511627776) : Lqr none [.l (encS l)] = some [.l (encS l)] := by
  rw [eqr_i, mostZ]; simp (disch := omega) only [push_cast]
  refine Eq.trans ?_ (zcr (f := fun (i : Nat) (a : Rw) => Lqr (some 3) [.l (encS l), .i (i : Int), .l a]) (ys := encS l) (z := [.s ⟨#[]⟩]) (fun i a hi ha hz => ?_) ?_)
  · simp only [zw]; rfl
  · rw [zw] at hi
    rw [zw] at ha
    show Lqr _ _ = Lqr _ _
    rw [castS, eqr_3]
    simp (disch := omega) only [push_cast]
    rw [zc2 (by omega) hz (by rfl), encS, zcs _ .empty _ _ hi]
  · show Lqr _ _ = _
    rw [eqr_3]; simp (disch := omega) only [push_cast]
theorem zmy (l : List Bs) (h : l.length ≤ 1099511627776) : Lqs none [.l (encS l)] = some [.l (encS l)] := by
  rw [eqs_i, mostZ]; simp (disch := omega) only [push_cast]
  refine Eq.trans ?_ (zcr (f := fun (i : Nat) (a : Rw) => Lqs (some 3) [.l (encS l), .i (i : Int), .l a]) (ys := encS l) (z := [.s ⟨#[]⟩]) (fun i a hi ha hz => ?_) ?_)
  · simp only [zw]; rfl
  · rw [zw] at hi
    rw [zw] at ha
    show Lqs _ _ = Lqs _ _
    rw [castS, eqs_3]
    simp (disch := omega) only [push_cast]
    rw [zc2 (by omega) hz (by rfl), encS, zcs _ .empty _ _ hi]
  · show Lqs _ _ = _
    rw [eqs_3]; simp (disch := omega) only [push_cast]
theorem zlp (a : Bs) (b : Int) (c : Bs) (l : List Bs) (h : l.length ≤ 1099511627776) : Lqbg none [.s a, .i b, .s c, .l (encS l)] = some [.s a, .i b, .s c, .l (encS l)] := by
  rw [eqbg_i, eqbl_i]; simp (disch := omega) only [push_cast, zmy l h]
theorem zmz (l : List Kept) (h : l.length ≤ 1099511627776) (hr : ∀ k ∈ l, k.thing.refs.length ≤ 1099511627776) : Lqt none [.l (encK l)] = some [.l (encK l)] := by
  rw [eqt_i, mostZ]; simp (disch := omega) only [push_cast]
  refine Eq.trans ?_ (zcr (f := fun (i : Nat) (a : Rw) => Lqt (some 3) [.l (encK l), .i (i : Int), .l a]) (ys := encK l) (z := [.s ⟨#[]⟩, .i 0, .s ⟨#[]⟩, .l []]) (fun i a hi ha hz => ?_) ?_)
  · simp only [zcv]; rfl
  · rw [zcv] at hi
    rw [zcv] at ha
    show Lqt _ _ = Lqt _ _
    rw [castS, eqt_3]
    simp (disch := omega) only [push_cast, zlp _ _ _ _ (hr _ (zk (d := K0) hi))]
    rw [zc2 (by omega) hz (by rfl), encK, zcs _ K0 _ _ hi]; rfl
  · show Lqt _ _ = _
    rw [eqt_3]; simp (disch := omega) only [push_cast]
theorem zkx (l : List Pin) (h : l.length ≤ 1099511627776) : Lqu none [.l (encP l)] = some [.l (encP l)] := by
  rw [equ_i, mostZ]; simp (disch := omega) only [push_cast]
  refine Eq.trans ?_ (zcr (f := fun (i : Nat) (a : Rw) => Lqu (some 3) [.l (encP l), .i (i : Int), .l a]) (ys := encP l) (z := [.s ⟨#[]⟩, .s ⟨#[]⟩]) (fun i a hi ha hz => ?_) ?_)
  · simp only [zdq]; rfl
  · rw [zdq] at hi
    rw [zdq] at ha
    show Lqu _ _ = Lqu _ _
    rw [castS, equ_3, eqbm_i]
    simp (disch := omega) only [push_cast]
    rw [zc2 (by omega) hz (by rfl), encP, zcs _ P0 _ _ hi]; rfl
  · show Lqu _ _ = _
    rw [equ_3]; simp (disch := omega) only [push_cast]
theorem zkn (l : List Lease) (h : l.length ≤ 1099511627776) : Lqv none [.l (encL l)] = some [.l (encL l)] := by
  rw [eqv_i, mostZ]; simp (disch := omega) only [push_cast]
  refine Eq.trans ?_ (zcr (f := fun (i : Nat) (a : Rw) => Lqv (some 3) [.l (encL l), .i (i : Int), .l a]) (ys := encL l) (z := [.i 0, .s ⟨#[]⟩, .i 0]) (fun i a hi ha hz => ?_) ?_)
  · simp only [zdh]; rfl
  · rw [zdh] at hi
    rw [zdh] at ha
    show Lqv _ _ = Lqv _ _
    rw [castS, eqv_3, eqbn_i]
    simp (disch := omega) only [push_cast]
    rw [zc2 (by omega) hz (by rfl), encL, zcs _ L0 _ _ hi]; rfl
  · show Lqv _ _ = _
    rw [eqv_3]; simp (disch := omega) only [push_cast]
theorem ze1 (xs : Rw) (h : xs.length ≤ 4611686018427387904) : Lqk none [.l xs, .l xs] = some [.b true] := by
  rw [eqk_i]; simp (disch := omega) only [push_cast]
  exact zb5 (f := fun (i : Nat) (_ : Unit) => Lqk (some 4) [.l xs, .l xs, .i (i : Int)]) (n := xs.length) (T := some [.b true]) (I := fun i _ => True)
    (fun i _ hi _ => ⟨(), by
      show Lqk _ _ = Lqk _ _
      rw [castS, eqk_4]; simp (disch := omega) only [push_cast], trivial⟩) (fun _ _ => by
      show Lqk _ _ = _
      rw [eqk_4]; simp (disch := omega) only [push_cast]) 0 () (Nat.zero_le _) trivial
theorem zkk (xs : Rw) (h : xs.length ≤ 4611686018427387904) (hr : ∀ i, (rd xs i 3).list.length ≤ 4611686018427387904) : Lqw none [.l xs, .l xs] = some [.b true] := by
  rw [eqw_i]; simp (disch := omega) only [push_cast]
  exact zb5 (f := fun (i : Nat) (_ : Unit) => Lqw (some 4) [.l xs, .l xs, .i (i : Int)]) (n := xs.length) (T := some [.b true]) (I := fun i _ => True)
    (fun i _ hi _ => ⟨(), by
      show Lqw _ _ = Lqw _ _
      rw [castS, eqw_4, eqbp_i, eqbo_i]; simp (disch := omega) only [push_cast, ze1 _ (hr _)], trivial⟩) (fun _ _ => by
      show Lqw _ _ = _
      rw [eqw_4]; simp (disch := omega) only [push_cast]) 0 () (Nat.zero_le _) trivial
theorem zky (xs : Rw) (h : xs.length ≤ 4611686018427387904) : Lqx none [.l xs, .l xs] = some [.b true] := by
  rw [eqx_i]; simp (disch := omega) only [push_cast]
  exact zb5 (f := fun (i : Nat) (_ : Unit) => Lqx (some 4) [.l xs, .l xs, .i (i : Int)]) (n := xs.length) (T := some [.b true]) (I := fun i _ => True)
    (fun i _ hi _ => ⟨(), by
      show Lqx _ _ = Lqx _ _
      rw [castS, eqx_4, eqbq_i]; simp (disch := omega) only [push_cast], trivial⟩) (fun _ _ => by
      show Lqx _ _ = _
      rw [eqx_4]; simp (disch := omega) only [push_cast]) 0 () (Nat.zero_le _) trivial
theorem zkf (xs : Rw) (h : xs.length ≤ 4611686018427387904) : Lqy none [.l xs, .l xs] = some [.b true] := by
  rw [eqy_i]; simp (disch := omega) only [push_cast]
  exact zb5 (f := fun (i : Nat) (_ : Unit) => Lqy (some 4) [.l xs, .l xs, .i (i : Int)]) (n := xs.length) (T := some [.b true]) (I := fun i _ => True)
    (fun i _ hi _ => ⟨(), by
      show Lqy _ _ = Lqy _ _
      rw [castS, eqy_4, eqbr_i]; simp (disch := omega) only [push_cast], trivial⟩) (fun _ _ => by
      show Lqy _ _ = _
      rw [eqy_4]; simp (disch := omega) only [push_cast]) 0 () (Nat.zero_le _) trivial
end KV
end
section
namespace KV
open Go Go.Eng
open Classical
theorem zlx {l : List Bs} {i : Nat} (h : i < l.length) : szs (l.take (i + 1)) = szs (l.take i) + (nth .empty l i).size := by
  rw [zcg .empty h, zf8]; simp [szs]
theorem ze3 (l : List Bs) (left : Int) (h0 : 0 ≤ left) (h1 : left ≤ 1048576) (hl : l.length ≤ 140737488351232) (hs : ∀ x ∈ l, x.size ≤ 140737488351232) :
    ∃ y, Lqf none [.l (encS l), .i left] = some [.i y] ∧ y ≤ left ∧ (0 ≤ y → y = left - ((l.length : Int) + (szs l : Int))) := by
  rw [eqf_i]
  by_cases hn : left - (l.length : Int) < 0
  · exact ⟨-1, by simp (disch := omega) only [push_cast], by omega, fun h => by omega⟩
  simp (disch := omega) only [push_cast]
  refine zd3 (f := fun (i : Nat) (y : Int) => Lqf (some 5) [.l (encS l), .i y, .i (i : Int)]) (n := l.length)
    (T := fun r => ∃ y, r = some [.i y] ∧ y ≤ left ∧ (0 ≤ y → y = left - ((l.length : Int) + (szs l : Int)))) (I := fun i y => 0 ≤ y ∧ y = left - ((l.length : Int) + (szs (l.take i) : Int)))
    (fun i y hi hI => ?_) (fun y hI => ⟨y, ?_, by omega, fun h => ?_⟩) 0 (left - (l.length : Int)) (Nat.zero_le _) ⟨by omega, by simp [szs]⟩
  · have hx := hs _ (zk (d := .empty) hi)
    have hz := zlx hi
    show (∃ s', Lqf _ _ = Lqf _ _ ∧ _) ∨ _
    by_cases hc : y - ((nth .empty l i).size : Int) < 0
    · right
      refine ⟨-1, ?_, by omega, fun h => by omega⟩
      show Lqf _ _ = _
      rw [eqf_5]; simp (disch := omega) only [push_cast]
    · left
      refine ⟨y - ((nth .empty l i).size : Int), ?_, by omega, by omega⟩
      rw [castS, eqf_5]; simp (disch := omega) only [push_cast]
  · show Lqf _ _ = _
    rw [eqf_5]; simp (disch := omega) only [push_cast]
  · rw [List.take_length] at hI; exact hI.2
def wK (k : Kept) : Nat := k.sum.size + k.thing.text.size + k.thing.refs.length + szs k.thing.refs
def wKs (l : List Kept) : Nat := (l.map wK).sum
theorem zlj {l : List Kept} {i : Nat} (h : i < l.length) : wKs (l.take (i + 1)) = wKs (l.take i) + wK (nth K0 l i) := by
  rw [zcg K0 h]; simp [wKs]
structure BigK (k : Kept) : Prop where
  sum : k.sum.size ≤ 140737488351232
  text : k.thing.text.size ≤ 140737488351232
  refs : k.thing.refs.length ≤ 140737488351232
  all : ∀ x ∈ k.thing.refs, x.size ≤ 140737488351232
theorem zm2 (k : Kept) (left : Int) (h0 : 0 ≤ left) (h1 : left ≤ 1048576) (B : BigK k) :
    ∃ y, Lqbd none [.s k.sum, .i k.born, .s k.thing.text, .l (encS k.thing.refs), .i left] = some [.i y] ∧ y ≤ left ∧ (0 ≤ y → y = left - (wK k : Int)) := by
  have b1 := B.sum; have b2 := B.text
  rw [eqbd_i]
  by_cases hn : left - (k.sum.size : Int) < 0
  · exact ⟨-1, by simp (disch := omega) only [push_cast], by omega, fun h => by omega⟩
  rw [eqbk_i]
  by_cases hm : left - (k.sum.size : Int) - (k.thing.text.size : Int) < 0
  · exact ⟨-1, by simp (disch := omega) only [push_cast], by omega, fun h => by omega⟩
  obtain ⟨y, y1, y2, y3⟩ := ze3 k.thing.refs (left - (k.sum.size : Int) - (k.thing.text.size : Int)) (by omega) (by omega) B.refs B.all
  by_cases hy : y < 0
  · exact ⟨-1, by simp (disch := omega) only [push_cast, y1], by omega, fun h => by omega⟩
  · exact ⟨y, by simp (disch := omega) only [push_cast, y1], by omega, fun h => by unfold wK; have := y3 h; omega⟩
theorem zij (l : List Kept) (left : Int) (h0 : 0 ≤ left) (h1 : left ≤ 1048576) (hl : l.length ≤ 140737488351232) (hs : ∀ x ∈ l, BigK x) :
    ∃ y, Lqo none [.l (encK l), .i left] = some [.i y] ∧ y ≤ left ∧ (0 ≤ y → y = left - ((l.length : Int) + (wKs l : Int))) := by
  rw [eqo_i]
  by_cases hn : left - (l.length : Int) < 0
  · exact ⟨-1, by simp (disch := omega) only [push_cast], by omega, fun h => by omega⟩
  simp (disch := omega) only [push_cast]
  refine zd3 (f := fun (i : Nat) (y : Int) => Lqo (some 5) [.l (encK l), .i y, .i (i : Int)]) (n := l.length)
    (T := fun r => ∃ y, r = some [.i y] ∧ y ≤ left ∧ (0 ≤ y → y = left - ((l.length : Int) + (wKs l : Int)))) (I := fun i y => 0 ≤ y ∧ y = left - ((l.length : Int) + (wKs (l.take i) : Int)))
    (fun i y hi hI => ?_) (fun y hI => ⟨y, ?_, by omega, fun h => ?_⟩) 0 (left - (l.length : Int)) (Nat.zero_le _) ⟨by omega, by simp [wKs]⟩
  · obtain ⟨y', z1, z2, z3⟩ := zm2 (nth K0 l i) y hI.1 (by omega) (hs _ (zk (d := K0) hi))
    have hz := zlj hi
    by_cases hc : y' < 0
    · right
      refine ⟨-1, ?_, by omega, fun h => by omega⟩
      show Lqo _ _ = _
      rw [eqo_5]; simp (disch := omega) only [push_cast, z1]
    · left
      refine ⟨y', ?_, by omega, by have := z3 (by omega); omega⟩
      show Lqo _ _ = Lqo _ _
      rw [castS, eqo_5]; simp (disch := omega) only [push_cast, z1]
  · show Lqo _ _ = _
    rw [eqo_5]; simp (disch := omega) only [push_cast]
  · rw [List.take_length] at hI; exact hI.2
def wPs (l : List Pin) : Nat := (l.map fun p => p.name.size + p.sum.size).sum
theorem zk6 {l : List Pin} {i : Nat} (h : i < l.length) : wPs (l.take (i + 1)) = wPs (l.take i) + ((nth P0 l i).name.size + (nth P0 l i).sum.size) := by
  rw [zcg P0 h]; simp [wPs]
theorem zlw (l : List Pin) (left : Int) (h0 : 0 ≤ left) (h1 : left ≤ 1048576) (hl : l.length ≤ 140737488351232) (hs : ∀ x ∈ l, x.name.size ≤ 140737488351232 ∧ x.sum.size ≤ 140737488351232) :
    ∃ y, Lqm none [.l (encP l), .i left] = some [.i y] ∧ y ≤ left ∧ (0 ≤ y → y = left - ((l.length : Int) + (wPs l : Int))) := by
  rw [eqm_i]
  by_cases hn : left - (l.length : Int) < 0
  · exact ⟨-1, by simp (disch := omega) only [push_cast], by omega, fun h => by omega⟩
  simp (disch := omega) only [push_cast]
  refine zd3 (f := fun (i : Nat) (y : Int) => Lqm (some 5) [.l (encP l), .i y, .i (i : Int)]) (n := l.length)
    (T := fun r => ∃ y, r = some [.i y] ∧ y ≤ left ∧ (0 ≤ y → y = left - ((l.length : Int) + (wPs l : Int)))) (I := fun i y => 0 ≤ y ∧ y = left - ((l.length : Int) + (wPs (l.take i) : Int)))
    (fun i y hi hI => ?_) (fun y hI => ⟨y, ?_, by omega, fun h => ?_⟩) 0 (left - (l.length : Int)) (Nat.zero_le _) ⟨by omega, by simp [wPs]⟩
  · have hx := hs _ (zk (d := P0) hi)
    have hz := zk6 hi
    by_cases hc : y - ((nth P0 l i).name.size : Int) < 0
    · right
      refine ⟨-1, ?_, by omega, fun h => by omega⟩
      show Lqm _ _ = _
      rw [eqm_5, eqbb_i]; simp (disch := omega) only [push_cast]
    by_cases hc2 : y - ((nth P0 l i).name.size : Int) - ((nth P0 l i).sum.size : Int) < 0
    · right
      refine ⟨-1, ?_, by omega, fun h => by omega⟩
      show Lqm _ _ = _
      rw [eqm_5, eqbb_i]; simp (disch := omega) only [push_cast]
    · left
      refine ⟨y - ((nth P0 l i).name.size : Int) - ((nth P0 l i).sum.size : Int), ?_, by omega, by omega⟩
      show Lqm _ _ = Lqm _ _
      rw [castS, eqm_5, eqbb_i]; simp (disch := omega) only [push_cast]
  · show Lqm _ _ = _
    rw [eqm_5]; simp (disch := omega) only [push_cast]
  · rw [List.take_length] at hI; exact hI.2
def wLs (l : List Lease) : Nat := (l.map fun p => p.sum.size).sum
theorem zj2 {l : List Lease} {i : Nat} (h : i < l.length) : wLs (l.take (i + 1)) = wLs (l.take i) + (nth L0 l i).sum.size := by
  rw [zcg L0 h]; simp [wLs]
theorem zko (l : List Lease) (left : Int) (h0 : 0 ≤ left) (h1 : left ≤ 1048576) (hl : l.length ≤ 140737488351232) (hs : ∀ x ∈ l, x.sum.size ≤ 140737488351232) :
    ∃ y, Lqp none [.l (encL l), .i left] = some [.i y] ∧ y ≤ left ∧ (0 ≤ y → y = left - ((l.length : Int) + (wLs l : Int))) := by
  rw [eqp_i]
  by_cases hn : left - (l.length : Int) < 0
  · exact ⟨-1, by simp (disch := omega) only [push_cast], by omega, fun h => by omega⟩
  simp (disch := omega) only [push_cast]
  refine zd3 (f := fun (i : Nat) (y : Int) => Lqp (some 5) [.l (encL l), .i y, .i (i : Int)]) (n := l.length)
    (T := fun r => ∃ y, r = some [.i y] ∧ y ≤ left ∧ (0 ≤ y → y = left - ((l.length : Int) + (wLs l : Int)))) (I := fun i y => 0 ≤ y ∧ y = left - ((l.length : Int) + (wLs (l.take i) : Int)))
    (fun i y hi hI => ?_) (fun y hI => ⟨y, ?_, by omega, fun h => ?_⟩) 0 (left - (l.length : Int)) (Nat.zero_le _) ⟨by omega, by simp [wLs]⟩
  · have hx := hs _ (zk (d := L0) hi)
    have hz := zj2 hi
    by_cases hc : y - ((nth L0 l i).sum.size : Int) < 0
    · right
      refine ⟨-1, ?_, by omega, fun h => by omega⟩
      show Lqp _ _ = _
      rw [eqp_5, eqbe_i]; simp (disch := omega) only [push_cast]
    · left
      refine ⟨y - ((nth L0 l i).sum.size : Int), ?_, by omega, by omega⟩
      show Lqp _ _ = Lqp _ _
      rw [castS, eqp_5, eqbe_i]; simp (disch := omega) only [push_cast]
  · show Lqp _ _ = _
    rw [eqp_5]; simp (disch := omega) only [push_cast]
  · rw [List.take_length] at hI; exact hI.2
structure BigS (s : State) : Prop where
  nT : s.things.length ≤ 140737488351232
  nP : s.pins.length ≤ 140737488351232
  nL : s.leases.length ≤ 140737488351232
  T : ∀ k ∈ s.things, BigK k
  P : ∀ p ∈ s.pins, p.name.size ≤ 140737488351232 ∧ p.sum.size ≤ 140737488351232
  L : ∀ l ∈ s.leases, l.sum.size ≤ 140737488351232
structure Light (s : State) : Prop where
  nT : s.things.length ≤ 1048576
  nP : s.pins.length ≤ 1048576
  nL : s.leases.length ≤ 1048576
  sum : (wKs s.things : Int) ≤ 1048576
  refs : ∀ k ∈ s.things, k.thing.refs.length ≤ 1048576
  names : ∀ p ∈ s.pins, p.name.size ≤ 4611686018427387904
theorem wK_le {l : List Kept} {k : Kept} (h : k ∈ l) : wK k ≤ wKs l := by
  unfold wKs
  induction l with
  | nil => simp at h
  | cons a l ih =>
    rw [List.map_cons, List.sum_cons]
    rcases List.mem_cons.1 h with rfl | h
    · omega
    · have := ih h; omega
theorem zk1 (s : State) (B : BigS s) (left : Int) (h0 : 0 ≤ left) (h1 : left ≤ 1048576) : ∃ y, Lqbf none [.i s.width, .i s.now, .i s.given, .i s.births, .l (encK s.things), .l (encP s.pins), .l (encL s.leases), .i left] = some [.i y] ∧ y ≤ left ∧ (0 ≤ y → Light s) := by
  rw [eqbf_i]
  obtain ⟨y1, a1, a2, a3⟩ := zij s.things left h0 h1 B.nT B.T
  by_cases c1 : y1 < 0
  · exact ⟨-1, by simp (disch := omega) only [push_cast, a1], by omega, fun h => by omega⟩
  obtain ⟨y2, b1, b2, b3⟩ := zlw s.pins y1 (by omega) (by omega) B.nP B.P
  by_cases c2 : y2 < 0
  · exact ⟨-1, by simp (disch := omega) only [push_cast, a1, b1], by omega, fun h => by omega⟩
  obtain ⟨y3, d1, d2, d3⟩ := zko s.leases y2 (by omega) (by omega) B.nL B.L
  by_cases c3 : y3 < 0
  · exact ⟨-1, by simp (disch := omega) only [push_cast, a1, b1, d1], by omega, fun h => by omega⟩
  refine ⟨y3, by simp (disch := omega) only [push_cast, a1, b1, d1], by omega, fun _ => ?_⟩
  have e1 := a3 (by omega); have e2 := b3 (by omega); have e3 := d3 (by omega)
  refine ⟨by omega, by omega, by omega, by omega, fun k hk => ?_, fun p hp => by have := (B.P p hp).1; omega⟩
  have := wK_le hk
  unfold wK at this
  omega
theorem zjl {s : State} (h : Light s) : Lq7 none [.i s.width, .i s.now, .i s.given, .i s.births, .l (encK s.things), .l (encP s.pins), .l (encL s.leases)] = some [.i s.width, .i s.now, .i s.given, .i s.births, .l (encK s.things), .l (encP s.pins), .l (encL s.leases)] := by
  have h1 := h.nT; have h2 := h.nP; have h3 := h.nL
  rw [eq7_i]
  simp (disch := omega) only [push_cast, zmz s.things (by omega) (fun k hk => by have := h.refs k hk; omega), zkx s.pins (by omega), zkn s.leases (by omega)]
theorem zlq {l : List Kept} {n : Nat} (h : ∀ k ∈ l, k.thing.refs.length ≤ n) (i : Nat) : (rd (encK l) i 3).list.length ≤ n := by
  rw [zmm, zw]
  rcases Nat.lt_or_ge i l.length with h1 | h1
  · exact h _ (zk h1)
  · rw [zfm K0 l i h1]; exact Nat.zero_le _
theorem zkh (a b c d : Int) (T P L : Rw) (h1 : T.length ≤ 4611686018427387904) (h2 : P.length ≤ 4611686018427387904) (h3 : L.length ≤ 4611686018427387904) (hr : ∀ i, (rd T i 3).list.length ≤ 4611686018427387904) :
    Lqbc none [.i a, .i b, .i c, .i d, .l T, .l P, .l L, .i a, .i b, .i c, .i d, .l T, .l P, .l L] = some [.b true] := by
  rw [eqbc_i]
  simp (disch := omega) only [push_cast, zkk T h1 hr, zky P h2, zkf L h3]
theorem Light.eq {s : State} (h : Light s) : Lqbc none [.i s.width, .i s.now, .i s.given, .i s.births, .l (encK s.things), .l (encP s.pins), .l (encL s.leases), .i s.width, .i s.now, .i s.given, .i s.births, .l (encK s.things), .l (encP s.pins), .l (encL s.leases)] = some [.b true] := by
  have h1 := h.nT; have h2 := h.nP; have h3 := h.nL
  exact zkh _ _ _ _ _ _ _ (by rw [zcv]; omega) (by rw [zdq]; omega) (by rw [zdh]; omega) fun i => by have := zlq h.refs i; omega
end KV
end
section
namespace KV
open Go Go.Eng
open Classical
theorem zds {α : Type} {R : α → α → Prop} (d : α) {l : List α} (h : l.Pairwise R) {i j : Nat} (hij : i < j) (hj : j < l.length) : R (nth d l i) (nth d l j) := by
  rw [zm d l i (by omega), zm d l j hj]
  exact List.pairwise_iff_getElem.1 h i j (by omega) hj hij
theorem lb_hi {α : Type} {R : α → α → Prop} {q : α → Bool} (d : α) {l : List α} (h : l.Pairwise R) (mono : ∀ a b, R a b → q b = true → q a = true) : ∀ j, lb q l ≤ j → j < l.length → q (nth d l j) = false := by
  intro j h1 h2
  cases hq : q (nth d l j)
  · rfl
  · rcases Nat.eq_or_lt_of_le h1 with e | h3
    · rw [← e] at hq; rw [lb_at q d l (by omega)] at hq; exact hq.symm
    · have := mono _ _ (zds d h h3 h2) hq
      rw [lb_at q d l (by omega)] at this; cases this
theorem ze5 {α : Type} {R : α → α → Prop} {q : α → Bool} {p : α → Prop} (d : α) {l : List α} (h : l.Pairwise R) (hp : ∀ a, p a → q a = false) (hR : ∀ a b, R a b → p b → q a = true) {j : Nat} (hj : j < l.length) (hk : p (nth d l j)) : j = lb q l := by
  have h1 : lb q l ≤ j := by
    rcases Nat.lt_or_ge j (lb q l) with h3 | h3
    · have := lb_lt q d l j h3; rw [hp _ hk] at this; cases this
    · exact h3
  rcases Nat.eq_or_lt_of_le h1 with e | h3
  · exact e.symm
  · have := hR _ _ (zds d h h3 hj) hk
    rw [lb_at q d l (by omega)] at this; cases this
theorem zed {α : Type} {R : α → α → Prop} {q : α → Bool} {p : α → Prop} (d : α) {l : List α} (h : l.Pairwise R) (hp : ∀ a, p a → q a = false) (hR : ∀ a b, R a b → p b → q a = true) :
    (∃ a ∈ l, p a) ↔ lb q l < l.length ∧ p (nth d l (lb q l)) := by
  constructor
  · rintro ⟨a, ha, hpa⟩
    obtain ⟨j, hj, rfl⟩ := zbh d ha
    have := ze5 d h hp hR hj hpa
    rw [← this]; exact ⟨hj, hpa⟩
  · rintro ⟨h1, h2⟩; exact ⟨_, zk h1, h2⟩
theorem ziz {α : Type} {R : α → α → Prop} {q : α → Bool} {p : α → Prop} [DecidablePred p] (d : α) {l : List α} (h : l.Pairwise R) (hp : ∀ a, p a → q a = false) (hR : ∀ a b, R a b → p b → q a = true) :
    l.findIdx? (fun a => decide (p a)) = if ∃ a ∈ l, p a then some (lb q l) else none := by
  split
  · rename_i he
    obtain ⟨h1, h2⟩ := (zed d h hp hR).1 he
    rw [List.findIdx?_eq_some_iff_getElem]
    refine ⟨h1, ?_, fun j hj => ?_⟩
    · rw [← zm d l _ h1]; exact decide_eq_true h2
    · rw [← zm d l j (by omega)]
      simp only [decide_eq_true_eq]
      intro hpj
      have := ze5 d h hp hR (show j < l.length by omega) hpj
      omega
  · rename_i he
    rw [List.findIdx?_eq_none_iff]
    intro a ha
    exact decide_eq_false fun hpa => he ⟨a, ha, hpa⟩
def SrtK (l : List Kept) : Prop := l.Pairwise fun a b => slt a.sum b.sum = true
def SrtP (l : List Pin) : Prop := l.Pairwise fun a b => slt a.name b.name = true
def SrtL (l : List Lease) : Prop := l.Pairwise fun a b => a.number < b.number
def qK (x : Bs) (k : Kept) : Bool := slt k.sum x
def qP (x : Bs) (k : Pin) : Bool := slt k.name x
def hasT (l : List Kept) (x : Bs) : Prop := ∃ k ∈ l, k.sum = x
def hasP (l : List Pin) (x : Bs) : Prop := ∃ k ∈ l, k.name = x
def hasL (l : List Lease) (x : Int) : Prop := ∃ k ∈ l, k.number = x
theorem kp (x : Bs) (a : Kept) (h : a.sum = x) : qK x a = false := by unfold qK; rw [h, zdy]
theorem kR (x : Bs) (a b : Kept) (h : slt a.sum b.sum = true) (hb : b.sum = x) : qK x a = true := by unfold qK; rw [← hb]; exact h
theorem pp (x : Bs) (a : Pin) (h : a.name = x) : qP x a = false := by unfold qP; rw [h, zdy]
theorem pR (x : Bs) (a b : Pin) (h : slt a.name b.name = true) (hb : b.name = x) : qP x a = true := by unfold qP; rw [← hb]; exact h
theorem zdr {l : List Kept} (h : SrtK l) (x : Bs) : hasT l x ↔ lb (qK x) l < l.length ∧ (nth K0 l (lb (qK x) l)).sum = x := zed K0 h (kp x) (kR x)
theorem zir {l : List Pin} (h : SrtP l) (x : Bs) : hasP l x ↔ lb (qP x) l < l.length ∧ (nth P0 l (lb (qP x) l)).name = x := zed P0 h (pp x) (pR x)
structure VS (s : State) : Prop where
  wd : 1 ≤ s.width ∧ s.width ≤ 8
  now : 0 ≤ s.now ∧ s.now ≤ 1000000000
  given : 0 ≤ s.given ∧ s.given ≤ 1000000000
  births : 0 ≤ s.births ∧ s.births ≤ 1000000000
  nT : s.things.length ≤ 600
  nP : s.pins.length ≤ 100
  nL : s.leases.length ≤ 200
  srtT : SrtK s.things
  okT : ∀ k ∈ s.things, ThingOk k.thing s.width ∧ k.sum = sumM (formM k.thing) s.width ∧ 1 ≤ k.born ∧ k.born ≤ s.births
  ndT : (s.things.map (·.born)).Nodup
  refs : ∀ k ∈ s.things, ∀ r ∈ k.thing.refs, ∃ j ∈ s.things, j.sum = r ∧ j.born < k.born
  srtP : SrtP s.pins
  okP : ∀ p ∈ s.pins, NameOk p.name ∧ hasT s.things p.sum
  srtL : SrtL s.leases
  okL : ∀ l ∈ s.leases, 1 ≤ l.number ∧ l.number ≤ s.given ∧ hasT s.things l.sum ∧ s.now < l.till ∧ l.till ≤ s.now + 100000
structure Out where
  code : Int
  st : State
  sum : Bs
  lease : Int
  a : Bs
  b : Bs
def fail (s : State) (c : Int) : Out := ⟨c, s, E0, 0, E0, E0⟩
def done (s : State) : Out := ⟨0, s, E0, 0, E0, E0⟩
def lent (s : State) (x : Bs) (hold : Int) : State := { s with given := s.given + 1, leases := s.leases ++ [⟨s.given + 1, x, s.now + hold⟩] }
def insK (k : Kept) (l : List Kept) : List Kept := l.take (lb (qK k.sum) l) ++ k :: l.drop (lb (qK k.sum) l)
noncomputable def delK (x : Bs) (l : List Kept) : List Kept := l.filter fun k => !decide (k.sum = x)
noncomputable def putP (n x : Bs) (l : List Pin) : List Pin := if hasP l n then l.set (lb (qP n) l) ⟨n, x⟩ else l.take (lb (qP n) l) ++ ⟨n, x⟩ :: l.drop (lb (qP n) l)
noncomputable def delP (n : Bs) (l : List Pin) : List Pin := l.filter fun k => !decide (k.name = n)
noncomputable def delL (n : Int) (l : List Lease) : List Lease := l.filter fun k => !decide (k.number = n)
def held (s : State) (x : Bs) : Prop := (∃ p ∈ s.pins, p.sum = x) ∨ ∃ l ∈ s.leases, l.sum = x
def isRef (l : List Kept) (x : Bs) : Prop := ∃ k ∈ l, x ∈ k.thing.refs
def room (s : State) : Prop := s.leases.length < 200 ∧ s.given < 1000000000
noncomputable def putS (s : State) (e : Entry) : Out :=
  if ∃ r ∈ e.thing.refs, ¬ hasT s.things r then fail s 2
  else if hasT s.things (sumM (formM e.thing) s.width) then
    (if formM (nth K0 s.things (lb (qK (sumM (formM e.thing) s.width)) s.things)).thing = formM e.thing then
      (if room s then { done (lent s (sumM (formM e.thing) s.width) e.number) with sum := sumM (formM e.thing) s.width, lease := s.given + 1 } else fail s 4)
    else { fail s 3 with a := formM (nth K0 s.things (lb (qK (sumM (formM e.thing) s.width)) s.things)).thing, b := formM e.thing })
  else if room s ∧ s.things.length < 600 ∧ s.births < 1000000000 then
    { done (lent { s with births := s.births + 1, things := insK ⟨sumM (formM e.thing) s.width, s.births + 1, e.thing⟩ s.things } (sumM (formM e.thing) s.width) e.number) with sum := sumM (formM e.thing) s.width, lease := s.given + 1 }
  else fail s 4
noncomputable def chg (s : State) (e : Entry) : Out :=
  if e.kind = 1 then putS s e
  else if e.kind = 2 then
    (if hasT s.things e.sum then (if hasP s.pins e.name ∨ s.pins.length < 100 then done { s with pins := putP e.name e.sum s.pins } else fail s 4) else fail s 2)
  else if e.kind = 3 then (if hasP s.pins e.name then done { s with pins := delP e.name s.pins } else fail s 5)
  else if e.kind = 4 then
    (if hasT s.things e.sum then (if room s then { done (lent s e.sum e.number) with lease := s.given + 1 } else fail s 4) else fail s 2)
  else if e.kind = 5 then (if hasL s.leases e.number then done { s with leases := delL e.number s.leases } else fail s 5)
  else if e.kind = 6 then (if s.now + e.number ≤ 1000000000 then done { s with now := s.now + e.number, leases := s.leases.filter fun l => decide (s.now + e.number < l.till) } else fail s 4)
  else (if hasT s.things e.sum then (if held s e.sum ∨ isRef s.things e.sum then fail s 6 else done { s with things := delK e.sum s.things }) else fail s 2)
end KV
end
section
namespace KV
open Go Go.Eng
open Classical
theorem zlh {lo hi : Nat} (h : lo + hi ≤ 4294967296) : IntKind.i64.wrap ((IntKind.u64.wrap (IntKind.i64.wrap ((lo : Int) + (hi : Int)))).fdiv (2 ^ 1)) = (((lo + hi) / 2 : Nat) : Int) := by
  rw [w64 (n := (lo : Int) + (hi : Int)) (by omega), zef, Int.fdiv_eq_ediv_of_nonneg _ (by decide), w64 (by omega)]
  omega
theorem zi9 (w now g b : Int) (T : List Kept) (P L : Rw) (x : Bs) (h : SrtK T) (hn : T.length ≤ 1000000) :
    Lq2 none [.i (T.length : Int), .i w, .i now, .i g, .i b, .l (encK T), .l P, .l L, .s x] = some [.i (lb (qK x) T : Int)] := by
  rw [eq2_i]
  refine zjf (f := fun lo hi => Lq2 (some 2) [.i (lo : Int), .i (hi : Int), .s x, .i w, .i now, .i g, .i b, .l (encK T), .l P, .l L]) (q := fun j => qK x (nth K0 T j)) (lb_le _ _) (fun j hj => lb_lt _ K0 _ _ hj) (fun j h1 h2 => lb_hi K0 h (fun a c hac hc => zbo hac hc) j h1 h2) (fun lo hi hl hh => ?_) (fun lo hl => ?_)
  · show Lq2 _ _ = _
    rw [eq2_2, zlh (by omega), eqbs_i]
    have : (lo + hi) / 2 < hi := by omega
    generalize (lo + hi) / 2 = m at this
    simp (disch := omega) only [push_cast]
    unfold qK
    cases slt (nth K0 T m).sum x <;> rfl
  · show Lq2 _ _ = _
    rw [eq2_2]; simp (disch := omega) only [push_cast]
theorem zfa (w now g b : Int) (T : List Kept) (P L : Rw) (x : Bs) (h : SrtK T) (hn : T.length ≤ 1000000) :
    Lqba none [.s x, .i w, .i now, .i g, .i b, .l (encK T), .l P, .l L] = some [.i (lb (qK x) T : Int), .b (decide (hasT T x))] := by
  have hl := lb_le (qK x) T
  have hi := zdr h x
  rw [eqba_i, zcv, zi9 w now g b T P L x h hn]
  by_cases h1 : lb (qK x) T < T.length
  · simp (disch := omega) only [push_cast]
    by_cases h2 : (nth K0 T (lb (qK x) T)).sum = x
    · rw [decide_eq_true h2, decide_eq_true (hi.2 ⟨h1, h2⟩)]
    · rw [decide_eq_false h2, decide_eq_false fun h3 => h2 (hi.1 h3).2]
  · simp (disch := omega) only [push_cast]
    rw [decide_eq_false fun h3 => h1 (hi.1 h3).1]
theorem zib {α : Type} {f : Nat → Option Lv} {l : List α} (d : α) {p : α → Prop} [DecidablePred p] {T E : Option Lv} (step : ∀ i, i < l.length → f i = cond (decide (p (nth d l i))) T (f (i + 1))) (last : f l.length = E) : f 0 = if (∃ a ∈ l, p a) then T else E := by
  have := zg6 (f := f) (l := l) (d := d) (p := fun a => decide (p a)) (ret := fun _ => T) (e := E) step last
  rw [this]
  by_cases h : ∃ a ∈ l, p a
  · rw [if_pos h]
    cases hf : l.findIdx? (fun a => decide (p a)) with
    | none =>
      rw [List.findIdx?_eq_none_iff] at hf
      obtain ⟨a, ha, hp⟩ := h
      have := hf a ha; simp [hp] at this
    | some i => rfl
  · rw [if_neg h]
    cases hf : l.findIdx? (fun a => decide (p a)) with
    | none => rfl
    | some i =>
      obtain ⟨h1, h2, _⟩ := List.findIdx?_eq_some_iff_getElem.1 hf
      exact absurd ⟨_, List.getElem_mem h1, of_decide_eq_true h2⟩ h
end KV
end
section
namespace KV
open Go Go.Eng
open Classical
noncomputable def findT (T : List Kept) (x : Bs) : Int := if hasT T x then (lb (qK x) T : Int) else -1
theorem zeo (w now g b : Int) (T : List Kept) (P L : Rw) (x : Bs) (h : SrtK T) (hn : T.length ≤ 1000000) : Lqg none [.i w, .i now, .i g, .i b, .l (encK T), .l P, .l L, .s x] = some [.i (findT T x)] := by
  rw [eqg_i]
  have := zg6 (f := fun i : Nat => Lqg (some 2) [.s x, .i (i : Int), .i w, .i now, .i g, .i b, .l (encK T), .l P, .l L]) (l := T) (d := K0) (p := fun k => decide (k.sum = x)) (ret := fun i => some [.i (i : Int)]) (e := some [.i (-1)]) (fun i hi => by
    show Lqg _ _ = cond _ _ (Lqg _ _)
    rw [eqg_2]; simp (disch := omega) only [push_cast]) (by show Lqg _ _ = _; rw [eqg_2]; simp (disch := omega) only [push_cast])
  refine this.trans ?_
  rw [ziz K0 h (kp x) (kR x)]
  unfold findT
  by_cases hT : hasT T x
  · rw [if_pos hT, if_pos (show ∃ a ∈ T, a.sum = x from hT)]
  · rw [if_neg hT, if_neg (show ¬ ∃ a ∈ T, a.sum = x from hT)]
theorem zeu {T : List Kept} {x : Bs} : findT T x < 0 ↔ ¬ hasT T x := by
  unfold findT; split
  · rename_i h; simp [h]
  · rename_i h; simp [h]
theorem zgs (l : List Bs) (x : Bs) (h : l.length ≤ 4611686018427387904) : Lq1 none [.l (encS l), .s x] = some [.b (decide (x ∈ l))] := by
  rw [eq1_i]
  have := zib (f := fun i : Nat => Lq1 (some 2) [.l (encS l), .s x, .i (i : Int)]) .empty (l := l) (p := fun r => r = x) (T := some [.b true]) (E := some [.b false]) (fun i hi => by
    show Lq1 _ _ = cond _ _ (Lq1 _ _)
    rw [eq1_2]; simp (disch := omega) only [push_cast]) (by show Lq1 _ _ = _; rw [eq1_2]; simp (disch := omega) only [push_cast])
  refine this.trans ?_
  by_cases h : ∃ r ∈ l, r = x
  · rw [if_pos h, decide_eq_true (p := x ∈ l) (by obtain ⟨r, hr, rfl⟩ := h; exact hr)]
  · rw [if_neg h, decide_eq_false (p := x ∈ l) (fun h3 => h ⟨x, h3, rfl⟩)]
end KV
end
section
namespace KV
open Go Go.Eng
open Classical
theorem EntryOk.hold {e : Entry} {w : Int} (h : zq e w = true) (hk : e.kind = 1 ∨ e.kind = 4 ∨ e.kind = 6) : 1 ≤ e.number ∧ e.number ≤ 100000 := by
  unfold zq numB at h; simp only [Bool.and_eq_true, decide_eq_true_eq] at h
  have := h.2.2.2.2.1
  rw [if_pos hk] at this
  exact of_decide_eq_true this
theorem EntryOk.name {e : Entry} {w : Int} (h : zq e w = true) (hk : e.kind = 2) : NameOk e.name := by
  unfold zq namB at h; simp only [Bool.and_eq_true, decide_eq_true_eq] at h
  have := h.2.2.2.1
  rw [if_pos (by unfold uN; simp [hk])] at this
  exact zig.1 this
theorem zcc {k a : Kept} {l : List Kept} : a ∈ insK k l ↔ a = k ∨ a ∈ l := by
  unfold insK
  rw [List.mem_append, List.mem_cons]
  conv => rhs; rw [← List.take_append_drop (lb (qK k.sum) l) l, List.mem_append]
  constructor
  · rintro (h | h | h)
    · exact .inr (.inl h)
    · exact .inl h
    · exact .inr (.inr h)
  · rintro (h | h | h)
    · exact .inr (.inl h)
    · exact .inl h
    · exact .inr (.inr h)
theorem zfx {α : Type} {l : List α} {i : Nat} {a : α} (d : α) (h : a ∈ l.take i) : ∃ j, j < i ∧ j < l.length ∧ nth d l j = a := by
  obtain ⟨j, hj, rfl⟩ := List.mem_iff_getElem.1 h
  rw [List.length_take] at hj
  exact ⟨j, by omega, by omega, by rw [zm d l j (by omega), List.getElem_take]⟩
theorem zm3 {α : Type} {l : List α} {i : Nat} {a : α} (d : α) (h : a ∈ l.drop i) : ∃ j, i ≤ j ∧ j < l.length ∧ nth d l j = a := by
  obtain ⟨j, hj, rfl⟩ := List.mem_iff_getElem.1 h
  rw [List.length_drop] at hj
  exact ⟨i + j, by omega, by omega, by rw [zm d l _ (by omega), List.getElem_drop]⟩
theorem zhh {α : Type} {R : α → α → Prop} {q : α → Bool} (d k : α) {l : List α} (h : l.Pairwise R) (mono : ∀ a b, R a b → q b = true → q a = true) (h1 : ∀ a, a ∈ l → q a = true → R a k) (h2 : ∀ a, a ∈ l → q a = false → R k a) (tr : ∀ a b c, R a b → R b c → R a c) : (l.take (lb q l) ++ k :: l.drop (lb q l)).Pairwise R := by
  have hd : ∀ a ∈ l.drop (lb q l), R k a := fun a ha => by
    obtain ⟨j, hj1, hj2, rfl⟩ := zm3 d ha
    exact h2 _ (zk hj2) (lb_hi d h mono j hj1 hj2)
  have ht : ∀ a ∈ l.take (lb q l), R a k := fun a ha => by
    obtain ⟨j, hj1, hj2, rfl⟩ := zfx d ha
    exact h1 _ (zk hj2) (lb_lt q d l j hj1)
  rw [List.pairwise_append, List.pairwise_cons]
  refine ⟨h.sublist (List.take_sublist _ _), ⟨hd, h.sublist (List.drop_sublist _ _)⟩, fun a ha b hb => ?_⟩
  rcases List.mem_cons.1 hb with rfl | hb
  · exact ht a ha
  · exact tr _ _ _ (ht a ha) (hd b hb)
theorem zjh {k : Kept} {l : List Kept} (h : SrtK l) (hk : ¬ hasT l k.sum) : SrtK (insK k l) :=
  zhh (R := fun (a b : Kept) => slt a.sum b.sum = true) (q := qK k.sum) K0 k h (fun a b hab hb => zbo hab hb) (fun a _ ha => ha) (fun a hm ha => by
    rcases zgm.1 (show slt a.sum k.sum = false from ha) with h1 | h1
    · exact absurd ⟨a, hm, h1⟩ hk
    · exact h1) (fun a b c h1 h2 => zbo h1 h2)
theorem zlf (k : Kept) (l : List Kept) : (insK k l).length = l.length + 1 := by
  have := lb_le (qK k.sum) l
  unfold insK; simp; omega
theorem zgx {k : Kept} {l : List Kept} {x : Bs} (h : hasT l x) : hasT (insK k l) x := by
  obtain ⟨j, h1, h2⟩ := h; exact ⟨j, zcc.2 (.inr h1), h2⟩
theorem zkv {l : List Pin} (h : SrtP l) (n x : Bs) : SrtP (putP n x l) := by
  unfold putP
  split
  · rename_i hP
    have hi := (zir h n).1 hP
    unfold SrtP at h ⊢
    rw [List.pairwise_iff_getElem] at h ⊢
    intro i j hi' hj' hij
    rw [List.length_set] at hi' hj'
    have key : ∀ i (hi' : i < l.length), ((l.set (lb (qP n) l) ⟨n, x⟩)[i]'(by rw [List.length_set]; exact hi')).name = l[i].name := fun i hi' => by
      rw [List.getElem_set]
      split
      · rename_i he
        subst he
        rw [← zm P0 l _ hi']; exact hi.2.symm
      · rfl
    rw [key i hi', key j hj']
    exact h i j hi' hj' hij
  · rename_i hP
    exact zhh (R := fun (a b : Pin) => slt a.name b.name = true) (q := qP n) P0 ⟨n, x⟩ h (fun a b hab hb => zbo hab hb) (fun a _ ha => ha) (fun a hm ha => by
      rcases zgm.1 (show slt a.name n = false from ha) with h1 | h1
      · exact absurd ⟨a, hm, h1⟩ hP
      · exact h1) (fun a b c h1 h2 => zbo h1 h2)
theorem zjx {l : List Pin} {n x : Bs} {a : Pin} (h : a ∈ putP n x l) : a = ⟨n, x⟩ ∨ a ∈ l := by
  unfold putP at h
  split at h
  · rcases List.mem_or_eq_of_mem_set h with h | h
    · exact .inr h
    · exact .inl h
  · rw [List.mem_append, List.mem_cons] at h
    rcases h with h | h | h
    · exact .inr (List.mem_of_mem_take h)
    · exact .inl h
    · exact .inr (List.mem_of_mem_drop h)
theorem zja (l : List Pin) (n x : Bs) : (putP n x l).length ≤ l.length + 1 ∧ (hasP l n → (putP n x l).length = l.length) := by
  have := lb_le (qP n) l
  unfold putP; split
  · simp
  · rename_i h; exact ⟨by simp; omega, fun h1 => absurd h1 h⟩
theorem zet {s : State} (V : VS s) {x : Bs} {m : Int} (hr : room s) (hx : hasT s.things x) (hm : 1 ≤ m ∧ m ≤ 100000) : VS (lent s x m) := by
  have hg := V.given
  obtain ⟨r1, r2⟩ := hr
  refine ⟨V.wd, V.now, ?_, V.births, V.nT, V.nP, ?_, V.srtT, V.okT, V.ndT, V.refs, V.srtP, V.okP, ?_, ?_⟩
  · show 0 ≤ s.given + 1 ∧ s.given + 1 ≤ 1000000000; omega
  · show (s.leases ++ [_]).length ≤ 200; simp; omega
  · show (s.leases ++ [_]).Pairwise _
    rw [List.pairwise_append]
    refine ⟨V.srtL, List.pairwise_singleton _ _, fun a ha b hb => ?_⟩
    rw [List.mem_singleton] at hb
    subst hb
    have := (V.okL a ha).2.1
    show a.number < s.given + 1; omega
  · intro l hl
    show 1 ≤ l.number ∧ l.number ≤ s.given + 1 ∧ hasT s.things l.sum ∧ s.now < l.till ∧ l.till ≤ s.now + 100000
    rcases List.mem_append.1 hl with h | h
    · obtain ⟨a, b, c, d⟩ := V.okL l h; exact ⟨a, by omega, c, d⟩
    · rw [List.mem_singleton] at h
      subst h
      refine ⟨?_, ?_, hx, ?_, ?_⟩ <;> simp only <;> omega
theorem zmj {s : State} (V : VS s) {t : Thing} (ht : ThingOk t s.width) (hx : ¬ hasT s.things (sumM (formM t) s.width)) (hr : ∀ r ∈ t.refs, hasT s.things r) (h1 : s.things.length < 600) (h2 : s.births < 1000000000) :
    VS { s with births := s.births + 1, things := insK ⟨sumM (formM t) s.width, s.births + 1, t⟩ s.things } := by
  have hb := V.births
  refine ⟨V.wd, V.now, V.given, ?_, ?_, V.nP, V.nL, zjh V.srtT hx, ?_, ?_, ?_, V.srtP, ?_, V.srtL, ?_⟩
  · show 0 ≤ s.births + 1 ∧ s.births + 1 ≤ 1000000000; omega
  · show (insK _ _).length ≤ 600; rw [zlf]; omega
  · intro k hk
    show ThingOk k.thing s.width ∧ k.sum = sumM (formM k.thing) s.width ∧ 1 ≤ k.born ∧ k.born ≤ s.births + 1
    rcases zcc.1 hk with rfl | hk
    · exact ⟨ht, rfl, by simp only; omega, by simp only; omega⟩
    · obtain ⟨a, b, c, d⟩ := V.okT k hk; exact ⟨a, b, c, by omega⟩
  · show ((insK _ _).map (·.born)).Nodup
    unfold insK
    rw [List.map_append, List.map_cons]
    have hp : (List.map (·.born) (s.things.take (lb (qK (sumM (formM t) s.width)) s.things)) ++ (s.births + 1) :: List.map (·.born) (s.things.drop (lb (qK (sumM (formM t) s.width)) s.things))).Perm ((s.births + 1) :: s.things.map (·.born)) := by
      refine List.perm_middle.trans ?_
      rw [← List.map_append, List.take_append_drop]
    rw [hp.nodup_iff, List.nodup_cons]
    refine ⟨fun hm => ?_, V.ndT⟩
    obtain ⟨k, hk, he⟩ := List.mem_map.1 hm
    have := (V.okT k hk).2.2.2; omega
  · intro k hk r hkr
    rcases zcc.1 hk with rfl | hk
    · obtain ⟨j, h3, h4⟩ := hr r hkr
      refine ⟨j, zcc.2 (.inr h3), h4, ?_⟩
      have := (V.okT j h3).2.2.2
      simp only; omega
    · obtain ⟨j, h3, h4, h5⟩ := V.refs k hk r hkr
      exact ⟨j, zcc.2 (.inr h3), h4, h5⟩
  · intro p hp; exact ⟨(V.okP p hp).1, zgx (V.okP p hp).2⟩
  · intro l hl; obtain ⟨a, b, c, d⟩ := V.okL l hl; exact ⟨a, b, zgx c, d⟩
theorem zc1 {x : Bs} {l : List Kept} {a : Kept} : a ∈ delK x l ↔ a ∈ l ∧ a.sum ≠ x := by unfold delK; simp
theorem zmi {s : State} (V : VS s) {x : Bs} (hh : ¬ held s x) (hr : ¬ isRef s.things x) : VS { s with things := delK x s.things } := by
  have hs : (delK x s.things).Sublist s.things := List.filter_sublist
  have keep : ∀ y, y ≠ x → hasT s.things y → hasT (delK x s.things) y := fun y hy ⟨j, h1, h2⟩ => ⟨j, zc1.2 ⟨h1, by rw [h2]; exact hy⟩, h2⟩
  refine ⟨V.wd, V.now, V.given, V.births, Nat.le_trans hs.length_le V.nT, V.nP, V.nL, V.srtT.sublist hs, fun k hk => V.okT k (zc1.1 hk).1, (V.ndT.sublist (hs.map _)), ?_, V.srtP, ?_, V.srtL, ?_⟩
  · intro k hk r hkr
    obtain ⟨j, h3, h4, h5⟩ := V.refs k (zc1.1 hk).1 r hkr
    refine ⟨j, zc1.2 ⟨h3, ?_⟩, h4, h5⟩
    rw [h4]; rintro rfl; exact hr ⟨k, (zc1.1 hk).1, hkr⟩
  · intro p hp; exact ⟨(V.okP p hp).1, keep _ (fun h => hh (.inl ⟨p, hp, h⟩)) (V.okP p hp).2⟩
  · intro l hl; obtain ⟨a, b, c, d⟩ := V.okL l hl; exact ⟨a, b, keep _ (fun h => hh (.inr ⟨l, hl, h⟩)) c, d⟩
theorem zld {s : State} (V : VS s) {e : Entry} (he : zq e s.width = true) (hc : (chg s e).code = 0) : VS (chg s e).st := by
  have hk := EntryOk.kd he
  unfold chg at hc ⊢
  split at hc
  · rename_i h1
    rw [if_pos h1]
    have hh := EntryOk.hold he (.inl h1)
    have ht := EntryOk.thing he h1
    unfold putS at hc ⊢
    split at hc
    · cases hc
    · rename_i hr
      rw [if_neg hr]
      have hr' : ∀ r ∈ e.thing.refs, hasT s.things r := fun r hr2 => Classical.byContradiction fun h5 => hr ⟨r, hr2, h5⟩
      split at hc
      · rename_i hT
        rw [if_pos hT]
        split at hc
        · rename_i hf
          rw [if_pos hf]
          split at hc
          · rename_i hro; rw [if_pos hro]; exact zet V hro hT hh
          · cases hc
        · cases hc
      · rename_i hT
        rw [if_neg hT]
        split at hc
        · rename_i hro
          rw [if_pos hro]
          exact zet (zmj V ht hT hr' hro.2.1 hro.2.2) hro.1 ⟨_, zcc.2 (.inl rfl), rfl⟩ hh
        · cases hc
  · rename_i h1
    rw [if_neg h1]
    split at hc
    · rename_i h2
      rw [if_pos h2]
      split at hc
      · rename_i hT
        rw [if_pos hT]
        split at hc
        · rename_i hP
          rw [if_pos hP]
          have hpl := zja s.pins e.name e.sum
          have hn := V.nP
          refine ⟨V.wd, V.now, V.given, V.births, V.nT, ?_, V.nL, V.srtT, V.okT, V.ndT, V.refs, zkv V.srtP _ _, ?_, V.srtL, V.okL⟩
          · show (putP e.name e.sum s.pins).length ≤ 100
            rcases hP with hP | hP
            · rw [hpl.2 hP]; exact hn
            · omega
          · intro p hp
            rcases zjx hp with rfl | hp
            · exact ⟨EntryOk.name he h2, hT⟩
            · exact V.okP p hp
        · cases hc
      · cases hc
    · rename_i h2
      rw [if_neg h2]
      split at hc
      · rename_i h3
        rw [if_pos h3]
        split at hc
        · rename_i hP
          rw [if_pos hP]
          have hs : (delP e.name s.pins).Sublist s.pins := List.filter_sublist
          exact ⟨V.wd, V.now, V.given, V.births, V.nT, Nat.le_trans hs.length_le V.nP, V.nL, V.srtT, V.okT, V.ndT, V.refs, V.srtP.sublist hs, fun p hp => V.okP p (hs.subset hp), V.srtL, V.okL⟩
        · cases hc
      · rename_i h3
        rw [if_neg h3]
        split at hc
        · rename_i h4
          rw [if_pos h4]
          split at hc
          · rename_i hT
            rw [if_pos hT]
            split at hc
            · rename_i hro; rw [if_pos hro]; exact zet V hro hT (EntryOk.hold he (.inr (.inl h4)))
            · cases hc
          · cases hc
        · rename_i h4
          rw [if_neg h4]
          split at hc
          · rename_i h5
            rw [if_pos h5]
            split at hc
            · rename_i hP
              rw [if_pos hP]
              have hs : (delL e.number s.leases).Sublist s.leases := List.filter_sublist
              exact ⟨V.wd, V.now, V.given, V.births, V.nT, V.nP, Nat.le_trans hs.length_le V.nL, V.srtT, V.okT, V.ndT, V.refs, V.srtP, V.okP, V.srtL.sublist hs, fun l hl => V.okL l (hs.subset hl)⟩
            · cases hc
          · rename_i h5
            rw [if_neg h5]
            split at hc
            · rename_i h6
              rw [if_pos h6]
              split at hc
              · rename_i hn
                rw [if_pos hn]
                have hh := EntryOk.hold he (.inr (.inr h6))
                have hnow := V.now
                have hs : (s.leases.filter fun l => decide (s.now + e.number < l.till)).Sublist s.leases := List.filter_sublist
                refine ⟨V.wd, ?_, V.given, V.births, V.nT, V.nP, Nat.le_trans hs.length_le V.nL, V.srtT, V.okT, V.ndT, V.refs, V.srtP, V.okP, V.srtL.sublist hs, fun l hl => ?_⟩
                · show 0 ≤ s.now + e.number ∧ s.now + e.number ≤ 1000000000; omega
                · obtain ⟨a, b, c, d, f⟩ := V.okL l (hs.subset hl)
                  have hl2 := (List.mem_filter.1 hl).2
                  simp only [decide_eq_true_eq] at hl2
                  exact ⟨a, b, c, hl2, by show l.till ≤ s.now + e.number + 100000; omega⟩
              · cases hc
            · rename_i h6
              rw [if_neg h6]
              split at hc
              · rename_i hT
                rw [if_pos hT]
                split at hc
                · cases hc
                · rename_i hn
                  rw [if_neg hn]
                  exact zmi V (fun h => hn (.inl h)) (fun h => hn (.inr h))
              · cases hc
theorem zkr (s : State) (e : Entry) : (chg s e).st.width = s.width := by
  unfold chg putS fail done lent
  repeat' split
  all_goals rfl
theorem zf2 {w : Int} (hw : 1 ≤ w ∧ w ≤ 8) : VS ⟨w, 0, 0, 0, [], [], []⟩ := by
  refine ⟨hw, by simp, by simp, by simp, by simp, by simp, by simp, List.Pairwise.nil, (fun k hk => by cases hk), List.nodup_nil, (fun k hk => by cases hk), List.Pairwise.nil, (fun k hk => by cases hk), List.Pairwise.nil, (fun k hk => by cases hk)⟩
end KV
end
section
namespace KV
open Go Go.Eng
open Classical
def empty (w : Int) : State := ⟨w, 0, 0, 0, [], [], []⟩
noncomputable def runL (w : Int) : State → List Bs → Nat → State ⊕ Nat
  | s, [], _ => .inl s
  | s, x :: l, i => match readE x w with
    | none => .inr (i + 1)
    | some e => if (chg s e).code = 0 then runL w (chg s e).st l (i + 1) else .inr (i + 1)
theorem zfi {w : Int} : ∀ (l : List Bs) (s : State) (i : Nat) (s' : State), VS s → s.width = w → runL w s l i = .inl s' → VS s' ∧ s'.width = w
  | [], s, i, s', V, hw, h => by simp only [runL] at h; cases h; exact ⟨V, hw⟩
  | x :: l, s, i, s', V, hw, h => by
    simp only [runL] at h
    split at h
    · cases h
    · rename_i e he
      split at h
      · rename_i hc
        have hE := (zj9 he).2
        rw [← hw] at hE
        exact zfi l _ _ _ (zld V hE hc) ((zkr s e).trans hw) h
      · cases h
structure LogOk (a b : List Bs) : Prop where
  sa : ∀ x ∈ a, x.size ≤ 5000
  sb : ∀ x ∈ b, x.size ≤ 5000
  n : a.length + b.length ≤ 4000
end KV
end
section
namespace KV
open Go Go.Eng
open Classical
structure Round where
  phase : Int
  queue : List Bs
  marked : List Bs
  top : Int
  at_ : Int
  rounds : Int
def R0 : Round := ⟨0, [], [], 0, 0, 0⟩
def encR (r : Round) : Lv := [.i r.phase, .l (encS r.queue), .l (encS r.marked), .i r.top, .i r.at_, .i r.rounds]
structure RoundOk (w births : Int) (r : Round) : Prop where
  ph : 0 ≤ r.phase ∧ r.phase ≤ 2
  rds : 0 ≤ r.rounds ∧ r.rounds ≤ 1000000000
  nQ : r.queue.length ≤ 23200
  nM : r.marked.length ≤ 600
  szM : ∀ x ∈ r.marked, (x.size : Int) = w
  ndM : r.marked.Nodup
  szQ : ∀ x ∈ r.queue, (x.size : Int) = w
  rest : r.phase = 0 → r.queue = [] ∧ r.marked = [] ∧ r.top = 0 ∧ r.at_ = 0
  go : r.phase ≠ 0 → 0 ≤ r.top ∧ r.top ≤ births ∧ 1 ≤ r.at_ ∧ r.at_ ≤ r.top + 1 ∧ (r.phase = 1 → r.at_ = r.top + 1)
theorem zbf (n : Int) : Lq6 none [.i n] = some [.b (decide (0 ≤ n ∧ n ≤ 1000000000))] := by
  rw [eq6_i]
  by_cases h : 0 ≤ n
  · simp (disch := omega) only [push_cast]; congr 3; exact decide_eq_decide.2 ⟨fun h1 => ⟨h, h1⟩, fun h1 => h1.2⟩
  · simp (disch := omega) only [push_cast]; rw [decide_eq_false (p := 0 ≤ n ∧ n ≤ 1000000000) fun h1 => h h1.1]
theorem zi (n a b : Int) : Lql none [.i n, .i a, .i b] = some [.b (decide (a ≤ n ∧ n ≤ b))] := by
  rw [eql_i]
  by_cases h : a ≤ n
  · simp (disch := omega) only [push_cast]; congr 3; exact decide_eq_decide.2 ⟨fun h1 => ⟨h, h1⟩, fun h1 => h1.2⟩
  · simp (disch := omega) only [push_cast]; rw [decide_eq_false (p := a ≤ n ∧ n ≤ b) fun h1 => h h1.1]
def setM (ks : List Bs) : List (C × C) := ks.map fun k => (.s k, .b true)
theorem ceq_s (x y : Bs) : ceq .s (.s x) (.s y) = decide (x = y) := by
  show (x.data == y.data) = _
  by_cases h : x = y
  · subst h; simp
  · rw [decide_eq_false h, beq_eq_false_iff_ne]
    intro e; apply h; cases x; cases y; exact congrArg _ e
theorem zhg (x : Bs) : ∀ ks : List Bs, mget .s (.s x) (setM ks) = if x ∈ ks then some (.b true) else none
  | [] => by simp [setM, mget]
  | k :: ks => by
    show cond (ceq .s (.s x) (.s k)) (some (.b true)) (mget .s (.s x) (setM ks)) = _
    rw [ceq_s, zhg x ks]
    by_cases h : x = k
    · subst h; simp
    · simp [h]
theorem zfy (x : Bs) : ∀ ks : List Bs, x ∉ ks → mput .s (.s x) (.b true) (setM ks) = setM (ks ++ [x])
  | [], _ => by simp [setM, mput]
  | k :: ks, h => by
    show cond (ceq .s (.s x) (.s k)) _ _ = _
    rw [ceq_s, decide_eq_false (fun e => h (by rw [e]; simp)), cond_false]
    show (C.s k, C.b true) :: mput .s (.s x) (.b true) (setM ks) = _
    rw [zfy x ks (fun e => h (by simp [e]))]; rfl
theorem inM (x : Bs) (ks : List Bs) : (((mget .s (.s x) (setM ks)).getD (.b false)).bool) = decide (x ∈ ks) := by
  rw [zhg]
  by_cases h : x ∈ ks
  · rw [if_pos h, decide_eq_true h]; rfl
  · rw [if_neg h, decide_eq_false h]; rfl
def mkP (w : Int) (m : List Bs) (j : Nat) : Prop := ((nth .empty m j).size : Int) = w ∧ nth .empty m j ∉ m.take j
theorem zd2 (w : Int) (m : List Bs) : (∀ j, 0 ≤ j → j < m.length → mkP w m j) ↔ (∀ x ∈ m, (x.size : Int) = w) ∧ m.Nodup := by
  have hnd : m.Nodup ↔ ∀ j, 0 ≤ j → j < m.length → nth .empty m j ∉ m.take j := by
    constructor
    · intro h j _ hj hm
      obtain ⟨i, h1, h2, h3⟩ := zfx .empty hm
      have := zds (R := fun a b => a ≠ b) .empty h h1 hj
      exact this h3
    · intro h
      rw [List.Nodup, List.pairwise_iff_getElem]
      intro i j hi hj hij he
      apply h j (Nat.zero_le _) hj
      rw [zm _ _ _ hj, ← he]
      exact List.mem_take_iff_getElem.2 ⟨i, by omega, rfl⟩
  rw [hnd]
  constructor
  · intro h
    refine ⟨fun x hx => ?_, fun j h1 h2 => (h j h1 h2).2⟩
    obtain ⟨i, hi, rfl⟩ := zbh .empty hx
    exact (h i (Nat.zero_le _) hi).1
  · rintro ⟨h1, h2⟩ j h3 h4; exact ⟨h1 _ (zk h4), h2 j h3 h4⟩
theorem zdp (w : Int) (m : List Bs) : (∀ j, 0 ≤ j → j < m.length → ((nth .empty m j).size : Int) = w) ↔ ∀ x ∈ m, (x.size : Int) = w := by
  constructor
  · intro h x hx
    obtain ⟨i, hi, rfl⟩ := zbh .empty hx
    exact h i (Nat.zero_le _) hi
  · intro h j _ hj; exact h _ (zk hj)
noncomputable def lastB (births : Int) (r : Round) : Bool := if r.phase = 0 then decide (r.queue = [] ∧ r.marked = [] ∧ r.top = 0 ∧ r.at_ = 0) else decide (0 ≤ r.top ∧ r.top ≤ births ∧ 1 ≤ r.at_ ∧ r.at_ ≤ r.top + 1 ∧ (r.phase = 1 → r.at_ = r.top + 1))
theorem zhn (w births : Int) (r : Round) : RoundOk w births r ↔ (0 ≤ r.phase ∧ r.phase ≤ 2) ∧ (0 ≤ r.rounds ∧ r.rounds ≤ 1000000000) ∧ r.queue.length ≤ 23200 ∧ r.marked.length ≤ 600 ∧ ((∀ x ∈ r.marked, (x.size : Int) = w) ∧ r.marked.Nodup) ∧ (∀ x ∈ r.queue, (x.size : Int) = w) ∧ lastB births r = true := by
  unfold lastB
  constructor
  · intro h
    refine ⟨h.ph, h.rds, h.nQ, h.nM, ⟨h.szM, h.ndM⟩, h.szQ, ?_⟩
    split
    · rename_i h0; exact decide_eq_true (h.rest h0)
    · rename_i h0; exact decide_eq_true (h.go h0)
  · rintro ⟨a, b, c, d, ⟨e1, e2⟩, f, h⟩
    refine ⟨a, b, c, d, e1, e2, f, fun h0 => ?_, fun h0 => ?_⟩
    · rw [if_pos h0] at h; exact of_decide_eq_true h
    · rw [if_neg h0] at h; exact of_decide_eq_true h
theorem zjk (s : State) (r : Round) (hb : 0 ≤ s.births ∧ s.births ≤ 1000000000) : Lqe none (encR r ++ encSt s) = some [.b (decide (RoundOk s.width s.births r))] := by
  show Lqe none [.i r.phase, .l (encS r.queue), .l (encS r.marked), .i r.top, .i r.at_, .i r.rounds, .i s.width, .i s.now, .i s.given, .i s.births, .l (encK s.things), .l (encP s.pins), .l (encL s.leases)] = _
  rw [eqe_i]
  have hri := zhn s.width s.births r
  have no : ∀ p : Prop, (RoundOk s.width s.births r → p) → ¬ p → decide (RoundOk s.width s.births r) = false := fun p h1 h2 => decide_eq_false fun h3 => h2 (h1 h3)
  by_cases h1 : 0 ≤ r.phase
  rotate_left; · rw [no _ (fun h => h.ph.1) h1]; simp (disch := omega) only [push_cast]
  by_cases h2 : r.phase ≤ 2
  rotate_left; · rw [no _ (fun h => h.ph.2) h2]; simp (disch := omega) only [push_cast]
  by_cases h3 : 0 ≤ r.rounds ∧ r.rounds ≤ 1000000000
  rotate_left; · rw [no _ (fun h => h.rds) h3]; simp (disch := omega) only [push_cast, zbf]
  by_cases h4 : r.queue.length ≤ 23200
  rotate_left; · rw [no _ (fun h => h.nQ) h4]; simp (disch := omega) only [push_cast, zbf]
  by_cases h5 : r.marked.length ≤ 600
  rotate_left; · rw [no _ (fun h => h.nM) h5]; simp (disch := omega) only [push_cast, zbf]
  simp (disch := omega) only [push_cast, zbf]
  have l2 := zp (f := fun i : Nat => Lqe (some 12) [.l (encS r.queue), .i (r.queue.length : Int), .i (i : Int), .i s.width, .i s.now, .i s.given, .i s.births, .l (encK s.things), .l (encP s.pins), .l (encL s.leases), .i r.phase, .l (encS r.queue), .l (encS r.marked), .i r.top, .i r.at_, .i r.rounds])
    (P := fun j => ((nth .empty r.queue j).size : Int) = s.width) (n := r.queue.length) (T := some [.b (lastB s.births r)]) (F := some [.b false]) (fun i hi => by
      show (_ → Lqe _ _ = _) ∧ (_ → Lqe _ _ = _)
      rw [eqe_12]
      by_cases hc : ((nth .empty r.queue i).size : Int) = s.width <;> simp (disch := omega) only [push_cast] <;> simp [hc]) (by
      show Lqe _ _ = _
      rw [eqe_12]
      unfold lastB
      by_cases c0 : r.phase = 0
      · rw [if_pos c0]
        by_cases c1 : r.queue.length + r.marked.length = 0
        · have q0 : r.queue = [] := List.eq_nil_of_length_eq_zero (by omega)
          have m0 : r.marked = [] := List.eq_nil_of_length_eq_zero (by omega)
          rw [q0, m0]
          by_cases c2 : r.top = 0
          · simp (disch := omega) only [push_cast]; simp [c2]
          · simp (disch := omega) only [push_cast]; simp [c2]
        · have : ¬ (r.queue = [] ∧ r.marked = [] ∧ r.top = 0 ∧ r.at_ = 0) := by rintro ⟨h, h', _⟩; exact c1 (by rw [h, h']; rfl)
          simp (disch := omega) only [push_cast]; rw [decide_eq_false this]
      · rw [if_neg c0]
        by_cases c1 : 0 ≤ r.top
        · by_cases c2 : r.top ≤ s.births
          · by_cases c3 : 1 ≤ r.at_
            · by_cases c4 : r.at_ ≤ r.top + 1
              · by_cases c5 : r.phase = 1
                · simp (disch := omega) only [push_cast]; congr 3; exact decide_eq_decide.2 ⟨fun h => ⟨c1, c2, c3, c4, fun _ => h⟩, fun h => h.2.2.2.2 c5⟩
                · simp (disch := omega) only [push_cast]; rw [decide_eq_true (p := 0 ≤ r.top ∧ r.top ≤ s.births ∧ 1 ≤ r.at_ ∧ r.at_ ≤ r.top + 1 ∧ (r.phase = 1 → r.at_ = r.top + 1)) ⟨c1, c2, c3, c4, fun h => absurd h c5⟩]
              · simp (disch := omega) only [push_cast]; rw [decide_eq_false fun h => c4 h.2.2.2.1]
            · simp (disch := omega) only [push_cast]; rw [decide_eq_false fun h => c3 h.2.2.1]
          · simp (disch := omega) only [push_cast]; rw [decide_eq_false fun h => c2 h.2.1]
        · simp (disch := omega) only [push_cast]; rw [decide_eq_false fun h => c1 h.1]) 0 (Nat.zero_le _)
  have l1 := zp (f := fun i : Nat => Lqe (some 5) [.l (encS r.marked), .i (r.marked.length : Int), .i (i : Int), .i s.width, .i s.now, .i s.given, .i s.births, .l (encK s.things), .l (encP s.pins), .l (encL s.leases), .i r.phase, .l (encS r.queue), .l (encS r.marked), .i r.top, .i r.at_, .i r.rounds, .m (setM (r.marked.take i))])
    (P := mkP s.width r.marked) (n := r.marked.length) (T := Lqe (some 12) [.l (encS r.queue), .i (r.queue.length : Int), .i 0, .i s.width, .i s.now, .i s.given, .i s.births, .l (encK s.things), .l (encP s.pins), .l (encL s.leases), .i r.phase, .l (encS r.queue), .l (encS r.marked), .i r.top, .i r.at_, .i r.rounds]) (F := some [.b false]) (fun i hi => by
      show (_ → Lqe _ _ = _) ∧ (_ → Lqe _ _ = _)
      rw [eqe_5]
      unfold mkP
      by_cases hc : ((nth .empty r.marked i).size : Int) = s.width
      · by_cases hm : nth .empty r.marked i ∈ r.marked.take i
        · simp (disch := omega) only [push_cast, inM, decide_eq_true hm]; simp [hm]
        · simp (disch := omega) only [push_cast, inM, decide_eq_false hm]; rw [zfy _ _ hm, ← zcg .empty hi]; simp [hm, hc]
      · simp (disch := omega) only [push_cast]; simp [hc]) (by show Lqe _ _ = _; rw [eqe_5]; simp (disch := omega) only [push_cast]) 0 (Nat.zero_le _)
  refine l1.trans ?_
  rw [show Lqe (some 12) [.l (encS r.queue), .i (r.queue.length : Int), .i 0, .i s.width, .i s.now, .i s.given, .i s.births, .l (encK s.things), .l (encP s.pins), .l (encL s.leases), .i r.phase, .l (encS r.queue), .l (encS r.marked), .i r.top, .i r.at_, .i r.rounds] = _ from l2]
  split
  · rename_i hM
    rw [zd2] at hM
    split
    · rename_i hQ
      rw [zdp] at hQ
      cases hl : lastB s.births r
      · rw [no _ (fun h => ((hri.1 h).2.2.2.2.2.2)) (by rw [hl]; simp)]
      · rw [decide_eq_true (hri.2 ⟨⟨h1, h2⟩, h3, h4, h5, hM, hQ, hl⟩)]
    · rename_i hQ
      rw [zdp] at hQ
      rw [no _ (fun h => h.szQ) hQ]
  · rename_i hM
    rw [zd2] at hM
    rw [no _ (fun h => ⟨h.szM, h.ndM⟩) hM]
end KV
end
section
namespace KV
open Go Go.Eng
open Classical
structure Vault where
  width : Int
  limit : Int
  safe : List Bs
  loose : List Bs
  st : State
  rd : Round
def V0 : Vault := ⟨0, 0, [], [], ⟨0, 0, 0, 0, [], [], []⟩, R0⟩
structure VV (v : Vault) : Prop where
  wd : zj v.width = true
  lim : 0 ≤ v.limit ∧ v.limit ≤ 1000000
  log : LogOk v.safe v.loose
  run : runL v.width (empty v.width) (v.safe ++ v.loose) 0 = .inl v.st
  rd : RoundOk v.st.width v.st.births v.rd
theorem VV.vs {v : Vault} (h : VV v) : VS v.st ∧ v.st.width = v.width := zfi _ _ _ _ (zf2 (zbb.1 h.wd)) rfl h.run
end KV
end
section
namespace KV
open Go Go.Eng
open Classical
def BigTs (l : List Bs) : Prop := l.length ≤ 140737488351232 ∧ ∀ x ∈ l, x.size ≤ 140737488351232
theorem zl5 (r : Round) (B : BigTs r.queue ∧ BigTs r.marked) (left : Int) (h0 : 0 ≤ left) (h1 : left ≤ 1048576) : ∃ y, Lqbh none [.i r.phase, .l (encS r.queue), .l (encS r.marked), .i r.top, .i r.at_, .i r.rounds, .i left] = some [.i y] ∧ y ≤ left ∧ (0 ≤ y → r.queue.length ≤ 1048576 ∧ r.marked.length ≤ 1048576) := by
  rw [eqbh_i]
  obtain ⟨y1, a1, a2, a3⟩ := ze3 r.queue left h0 h1 B.1.1 B.1.2
  by_cases c1 : y1 < 0
  · exact ⟨-1, by simp (disch := omega) only [push_cast, a1], by omega, fun h => by omega⟩
  obtain ⟨y2, b1, b2, b3⟩ := ze3 r.marked y1 (by omega) (by omega) B.2.1 B.2.2
  by_cases c2 : y2 < 0
  · exact ⟨-1, by simp (disch := omega) only [push_cast, a1, b1], by omega, fun h => by omega⟩
  refine ⟨y2, by simp (disch := omega) only [push_cast, a1, b1], by omega, fun _ => ?_⟩
  have e1 := a3 (by omega); have e2 := b3 (by omega)
  omega
theorem zly {r : Round} (h : r.queue.length ≤ 1048576 ∧ r.marked.length ≤ 1048576) : Lq9 none [.i r.phase, .l (encS r.queue), .l (encS r.marked), .i r.top, .i r.at_, .i r.rounds] = some [.i r.phase, .i r.top, .i r.at_, .i r.rounds, .l (encS r.queue), .l (encS r.marked)] := by
  rw [eq9_i]; simp (disch := omega) only [push_cast, zga r.queue (by omega), zga r.marked (by omega)]
theorem ziy (a b c d : Int) (Q M : Rw) (h1 : Q.length ≤ 4611686018427387904) (h2 : M.length ≤ 4611686018427387904) : Lqbj none [.i a, .l Q, .l M, .i b, .i c, .i d, .i a, .l Q, .l M, .i b, .i c, .i d] = some [.b true] := by
  rw [eqbj_i]; simp (disch := omega) only [push_cast, ze1 Q h1, ze1 M h2]
end KV
end
section
namespace KV
open Go Go.Eng
open Classical
theorem zcx {α : Type} {f : α → List C} {Q : α → Prop} : ∀ {xs : Rw}, (∀ r ∈ xs, ∃ a, r = f a ∧ Q a) → ∃ l : List α, xs = l.map f ∧ ∀ a ∈ l, Q a
  | [], _ => ⟨[], rfl, fun a h => by simp at h⟩
  | r :: xs, h => by
    obtain ⟨a, rfl, ha⟩ := h r (by simp)
    obtain ⟨l, rfl, hl⟩ := zcx (xs := xs) fun r hr => h r (by simp [hr])
    exact ⟨a :: l, rfl, fun b hb => by rcases List.mem_cons.1 hb with rfl | hb; exact ha; exact hl b hb⟩
section
variable {P : Program}
abbrev B47 : Nat := 140737488351232
theorem dec_l {e : TypeId} {c : C} (h : Ty P B47 (.sl e) c) : ∃ xs, c = .l xs ∧ xs.length ≤ B47 ∧ (∀ r ∈ xs, r.length = (kinds P 8 e).length) ∧ ∀ r ∈ xs, ∀ (o : Nat) (k : CK) (c : C), (kinds P 8 e)[o]? = some k → r[o]? = some c → Ty P B47 k c := by
  cases h with
  | l e xs hl hn h => exact ⟨xs, rfl, hl, hn, h⟩
theorem dec_s {c : C} (h : Ty P B47 .s c) : ∃ x : Bs, c = .s x ∧ x.size ≤ B47 := by cases h with | s x h => exact ⟨x, rfl, h⟩
theorem dec_i {k : IntKind} {c : C} (h : Ty P B47 (.i k) c) : ∃ x : Int, c = .i x := by cases h with | i k x h => exact ⟨x, rfl⟩
theorem decS {e : TypeId} (hk : kinds P 8 e = [.s]) {c : C} (h : Ty P B47 (.sl e) c) : ∃ l : List Bs, c = .l (encS l) ∧ l.length ≤ B47 ∧ ∀ x ∈ l, x.size ≤ B47 := by
  obtain ⟨xs, rfl, h1, h2, h3⟩ := dec_l h
  rw [hk] at h2 h3
  obtain ⟨l, rfl, hl⟩ := zcx (f := fun x : Bs => [.s x]) (Q := fun x => x.size ≤ B47) fun r hr => by
    have := h2 r hr
    match r, this with
    | [c], _ =>
      obtain ⟨x, rfl, hx⟩ := dec_s (h3 _ hr 0 .s c rfl rfl)
      exact ⟨x, rfl, hx⟩
  exact ⟨l, rfl, by simpa using h1, hl⟩
theorem decK {e e9 : TypeId} {k : IntKind} (hk : kinds P 8 e = [.s, .i k, .s, .sl e9]) (h9 : kinds P 8 e9 = [.s]) {c : C} (h : Ty P B47 (.sl e) c) : ∃ l : List Kept, c = .l (encK l) ∧ l.length ≤ B47 ∧ ∀ x ∈ l, BigK x := by
  obtain ⟨xs, rfl, h1, h2, h3⟩ := dec_l h
  rw [hk] at h2 h3
  obtain ⟨l, rfl, hl⟩ := zcx (f := cK) (Q := BigK) fun r hr => by
    have := h2 r hr
    match r, this with
    | [a, b, c, d], _ =>
      obtain ⟨a, rfl, ha⟩ := dec_s (h3 _ hr 0 .s a rfl rfl)
      obtain ⟨b, rfl⟩ := dec_i (h3 _ hr 1 _ b rfl rfl)
      obtain ⟨c, rfl, hc⟩ := dec_s (h3 _ hr 2 .s c rfl rfl)
      obtain ⟨d, rfl, hd, he⟩ := decS h9 (h3 _ hr 3 _ d rfl rfl)
      exact ⟨⟨a, b, ⟨c, d⟩⟩, rfl, ha, hc, hd, he⟩
  exact ⟨l, rfl, by simpa using h1, hl⟩
theorem decP {e : TypeId} (hk : kinds P 8 e = [.s, .s]) {c : C} (h : Ty P B47 (.sl e) c) : ∃ l : List Pin, c = .l (encP l) ∧ l.length ≤ B47 ∧ ∀ x ∈ l, x.name.size ≤ B47 ∧ x.sum.size ≤ B47 := by
  obtain ⟨xs, rfl, h1, h2, h3⟩ := dec_l h
  rw [hk] at h2 h3
  obtain ⟨l, rfl, hl⟩ := zcx (f := cP) (Q := fun x => x.name.size ≤ B47 ∧ x.sum.size ≤ B47) fun r hr => by
    have := h2 r hr
    match r, this with
    | [a, b], _ =>
      obtain ⟨a, rfl, ha⟩ := dec_s (h3 _ hr 0 .s a rfl rfl)
      obtain ⟨b, rfl, hb⟩ := dec_s (h3 _ hr 1 .s b rfl rfl)
      exact ⟨⟨a, b⟩, rfl, ha, hb⟩
  exact ⟨l, rfl, by simpa using h1, hl⟩
theorem decL {e : TypeId} {k k' : IntKind} (hk : kinds P 8 e = [.i k, .s, .i k']) {c : C} (h : Ty P B47 (.sl e) c) : ∃ l : List Lease, c = .l (encL l) ∧ l.length ≤ B47 ∧ ∀ x ∈ l, x.sum.size ≤ B47 := by
  obtain ⟨xs, rfl, h1, h2, h3⟩ := dec_l h
  rw [hk] at h2 h3
  obtain ⟨l, rfl, hl⟩ := zcx (f := cL) (Q := fun x => x.sum.size ≤ B47) fun r hr => by
    have := h2 r hr
    match r, this with
    | [a, b, c], _ =>
      obtain ⟨a, rfl⟩ := dec_i (h3 _ hr 0 _ a rfl rfl)
      obtain ⟨b, rfl, hb⟩ := dec_s (h3 _ hr 1 .s b rfl rfl)
      obtain ⟨c, rfl⟩ := dec_i (h3 _ hr 2 _ c rfl rfl)
      exact ⟨⟨a, b, c⟩, rfl, hb⟩
  exact ⟨l, rfl, by simpa using h1, hl⟩
def stC (s : State) : List C := [.i s.width, .i s.now, .i s.given, .i s.births, .l (encK s.things), .l (encP s.pins), .l (encL s.leases)]
theorem decSt {k1 k2 k3 k4 k5 k6 k7 : IntKind} {eK eP eL e9 : TypeId} (hK : kinds P 8 eK = [.s, .i k5, .s, .sl e9]) (h9 : kinds P 8 e9 = [.s]) (hP : kinds P 8 eP = [.s, .s]) (hL : kinds P 8 eL = [.i k6, .s, .i k7]) {ks : List CK} {xs : List C}
    (h : F2 (Ty P B47) (.i k1 :: .i k2 :: .i k3 :: .i k4 :: .sl eK :: .sl eP :: .sl eL :: ks) xs) : ∃ s ys, xs = stC s ++ ys ∧ BigS s ∧ F2 (Ty P B47) ks ys := by
  cases h with | cons a h =>
  cases h with | cons b h =>
  cases h with | cons c h =>
  cases h with | cons d h =>
  cases h with | cons x h =>
  cases h with | cons y h =>
  cases h with | cons z h =>
  obtain ⟨a', rfl⟩ := dec_i a
  obtain ⟨b', rfl⟩ := dec_i b
  obtain ⟨c', rfl⟩ := dec_i c
  obtain ⟨d', rfl⟩ := dec_i d
  obtain ⟨x', rfl, x1, x2⟩ := decK hK h9 x
  obtain ⟨y', rfl, y1, y2⟩ := decP hP y
  obtain ⟨z', rfl, z1, z2⟩ := decL hL z
  exact ⟨⟨a', b', c', d', x', y', z'⟩, _, rfl, ⟨x1, y1, z1, x2, y2, z2⟩, h⟩
def BigL (l : List Bs) : Prop := l.length ≤ 140737488351232 ∧ ∀ x ∈ l, x.size ≤ 140737488351232
def rdC (r : Round) : List C := [.i r.phase, .l (encS r.queue), .l (encS r.marked), .i r.top, .i r.at_, .i r.rounds]
theorem decRd {k1 k2 k3 k4 : IntKind} {e9 : TypeId} (h9 : kinds P 8 e9 = [.s]) {ks : List CK} {xs : List C}
    (h : F2 (Ty P B47) (.i k1 :: .sl e9 :: .sl e9 :: .i k2 :: .i k3 :: .i k4 :: ks) xs) : ∃ r ys, xs = rdC r ++ ys ∧ (BigL r.queue ∧ BigL r.marked) ∧ F2 (Ty P B47) ks ys := by
  cases h with | cons a h =>
  cases h with | cons x h =>
  cases h with | cons y h =>
  cases h with | cons b h =>
  cases h with | cons c h =>
  cases h with | cons d h =>
  obtain ⟨a', rfl⟩ := dec_i a
  obtain ⟨b', rfl⟩ := dec_i b
  obtain ⟨c', rfl⟩ := dec_i c
  obtain ⟨d', rfl⟩ := dec_i d
  obtain ⟨x', rfl, x1, x2⟩ := decS h9 x
  obtain ⟨y', rfl, y1, y2⟩ := decS h9 y
  exact ⟨⟨a', x', y', b', c', d'⟩, _, rfl, ⟨⟨x1, x2⟩, ⟨y1, y2⟩⟩, h⟩
theorem zmo {xs : List C} (h : F2 (Ty P B47) [] xs) : xs = [] := by cases h; rfl
end
end KV
end
section
namespace KV
open Go Go.Eng
open Classical
theorem zkq (s : State) (r : Round) (hb : 0 ≤ s.births ∧ s.births ≤ 1000000000) : Lqd none (encSt s ++ encR r) = some [.b (decide (RoundOk s.width s.births r))] := by
  show Lqd none [.i s.width, .i s.now, .i s.given, .i s.births, .l (encK s.things), .l (encP s.pins), .l (encL s.leases), .i r.phase, .l (encS r.queue), .l (encS r.marked), .i r.top, .i r.at_, .i r.rounds] = _
  rw [eqd_i]
  have hri := zhn s.width s.births r
  have no : ∀ p : Prop, (RoundOk s.width s.births r → p) → ¬ p → decide (RoundOk s.width s.births r) = false := fun p h1 h2 => decide_eq_false fun h3 => h2 (h1 h3)
  by_cases h1 : 0 ≤ r.phase
  rotate_left; · rw [no _ (fun h => h.ph.1) h1]; simp (disch := omega) only [push_cast]
  by_cases h2 : r.phase ≤ 2
  rotate_left; · rw [no _ (fun h => h.ph.2) h2]; simp (disch := omega) only [push_cast]
  by_cases h3 : 0 ≤ r.rounds ∧ r.rounds ≤ 1000000000
  rotate_left; · rw [no _ (fun h => h.rds) h3]; simp (disch := omega) only [push_cast, zi]
  by_cases h4 : r.queue.length ≤ 23200
  rotate_left; · rw [no _ (fun h => h.nQ) h4]; simp (disch := omega) only [push_cast, zi]
  by_cases h5 : r.marked.length ≤ 600
  rotate_left; · rw [no _ (fun h => h.nM) h5]; simp (disch := omega) only [push_cast, zi]
  simp (disch := omega) only [push_cast, zi]
  have l2 := zp (f := fun i : Nat => Lqd (some 9) [.i (i : Int), .i s.width, .i s.now, .i s.given, .i s.births, .l (encK s.things), .l (encP s.pins), .l (encL s.leases), .i r.phase, .l (encS r.queue), .l (encS r.marked), .i r.top, .i r.at_, .i r.rounds])
    (P := fun j => mkP s.width r.marked j) (n := r.marked.length) (T := some [.b (lastB s.births r)]) (F := some [.b false]) (fun i hi => by
      show (_ → Lqd _ _ = Lqd _ _) ∧ (_ → Lqd _ _ = _)
      rw [eqd_9]
      have hsub : Eng.sub (encS r.marked) 0 i = encS (r.marked.take i) := by rw [zmf]; rfl
      have hlen : (r.marked.take i).length ≤ 4611686018427387904 := by rw [List.length_take]; omega
      by_cases c1 : ((nth .empty r.marked i).size : Int) = s.width
      rotate_left; · exact ⟨fun h => absurd h.1 c1, fun _ => by simp (disch := omega) only [push_cast]⟩
      by_cases c2 : nth .empty r.marked i ∈ r.marked.take i
      · exact ⟨fun h => absurd c2 h.2, fun _ => by simp (disch := omega) only [push_cast, hsub, zgs _ _ hlen]⟩
      · exact ⟨fun _ => by simp (disch := omega) only [push_cast, hsub, zgs _ _ hlen] <;> rfl, fun h => absurd ⟨c1, c2⟩ h⟩) (by
      show Lqd _ _ = _
      rw [eqd_9]
      simp (disch := omega) only [push_cast]
      unfold lastB
      by_cases h0 : r.phase = 0
      · rw [if_pos h0]
        simp (disch := omega) only [push_cast]
        have e1 : ∀ l : List Bs, decide ((l.length : Int) = 0) = decide (l = []) := fun l => decide_eq_decide.2 ⟨fun h => List.eq_nil_of_length_eq_zero (by omega), fun h => by rw [h]; rfl⟩
        by_cases c1 : r.queue = []
        rotate_left; · rw [e1, decide_eq_false c1]; simp [c1]
        by_cases c2 : r.marked = []
        rotate_left; · rw [e1, e1, decide_eq_false c2]; simp [c1, c2]
        by_cases c3 : r.top = 0 <;> simp [c1, c2, c3]
      · rw [if_neg h0]
        simp (disch := omega) only [push_cast, zi]
        by_cases c1 : 0 ≤ r.top ∧ r.top ≤ s.births
        rotate_left; · simp (disch := omega) only [push_cast]; rw [decide_eq_false]; rintro ⟨a, b, _⟩; exact c1 ⟨a, b⟩
        simp (disch := omega) only [push_cast, zi]
        by_cases c2 : 1 ≤ r.at_ ∧ r.at_ ≤ r.top + 1
        rotate_left; · simp (disch := omega) only [push_cast]; rw [decide_eq_false]; rintro ⟨_, _, a, b, _⟩; exact c2 ⟨a, b⟩
        simp (disch := omega) only [push_cast]
        by_cases c3 : r.phase = 2
        · simp (disch := omega) only [push_cast]; rw [decide_eq_true]; exact ⟨c1.1, c1.2, c2.1, c2.2, fun h => by omega⟩
        · simp (disch := omega) only [push_cast]; congr 3; exact decide_eq_decide.2 ⟨fun h => ⟨c1.1, c1.2, c2.1, c2.2, fun _ => h⟩, fun h => h.2.2.2.2 (by omega)⟩) 0 (Nat.zero_le _)
  have l1 := zp (f := fun i : Nat => Lqd (some 4) [.i (i : Int), .i s.width, .i s.now, .i s.given, .i s.births, .l (encK s.things), .l (encP s.pins), .l (encL s.leases), .i r.phase, .l (encS r.queue), .l (encS r.marked), .i r.top, .i r.at_, .i r.rounds])
    (P := fun j => ((nth .empty r.queue j).size : Int) = s.width) (n := r.queue.length) (T := Lqd (some 9) [.i 0, .i s.width, .i s.now, .i s.given, .i s.births, .l (encK s.things), .l (encP s.pins), .l (encL s.leases), .i r.phase, .l (encS r.queue), .l (encS r.marked), .i r.top, .i r.at_, .i r.rounds]) (F := some [.b false]) (fun i hi => by
      show (_ → Lqd _ _ = Lqd _ _) ∧ (_ → Lqd _ _ = _)
      rw [eqd_4]
      by_cases hc : ((nth .empty r.queue i).size : Int) = s.width <;> simp (disch := omega) only [push_cast] <;> simp [hc]) (by
      show Lqd _ _ = _
      rw [eqd_4]; simp (disch := omega) only [push_cast]) 0 (Nat.zero_le _)
  have l1' : Lqd (some 4) [.i 0, .i s.width, .i s.now, .i s.given, .i s.births, .l (encK s.things), .l (encP s.pins), .l (encL s.leases), .i r.phase, .l (encS r.queue), .l (encS r.marked), .i r.top, .i r.at_, .i r.rounds] = _ := l1
  have l2' : Lqd (some 9) [.i 0, .i s.width, .i s.now, .i s.given, .i s.births, .l (encK s.things), .l (encP s.pins), .l (encL s.leases), .i r.phase, .l (encS r.queue), .l (encS r.marked), .i r.top, .i r.at_, .i r.rounds] = _ := l2
  rw [l1', l2']
  by_cases h6 : ∀ j, 0 ≤ j → j < r.queue.length → ((nth .empty r.queue j).size : Int) = s.width
  rotate_left; · rw [if_neg h6, no _ (fun h => (zdp _ _).2 h.szQ) h6]
  rw [if_pos h6]
  by_cases h7 : ∀ j, 0 ≤ j → j < r.marked.length → mkP s.width r.marked j
  rotate_left; · rw [if_neg h7, no _ (fun h => (zd2 _ _).2 ⟨h.szM, h.ndM⟩) h7]
  rw [if_pos h7]
  congr 3
  cases hl : lastB s.births r
  · rw [no _ (fun h => (hri.1 h).2.2.2.2.2.2) (by rw [hl]; simp)]
  · rw [decide_eq_true (hri.2 ⟨⟨h1, h2⟩, h3, h4, h5, (zd2 _ _).1 h7, (zdp _ _).1 h6, hl⟩)]
end KV
end
section
namespace KV
open Go Go.Eng
open Classical
noncomputable def addU (l : List Bs) (x : Bs) : List Bs := if x ∈ l then l else l ++ [x]
theorem zlo {l : List Bs} {x y : Bs} : y ∈ addU l x ↔ y ∈ l ∨ y = x := by
  unfold addU
  split
  · rename_i h; exact ⟨.inl, fun h2 => h2.elim id fun e => by rw [e]; exact h⟩
  · simp
theorem zfz (l : List Bs) : ∀ a y, y ∈ l.foldl addU a ↔ y ∈ a ∨ y ∈ l := by
  induction l with
  | nil => intro a y; simp
  | cons x l ih => intro a y; rw [List.foldl_cons, ih, zlo, List.mem_cons, or_assoc]
noncomputable def zfe (s : State) : List Bs := (s.leases.map (·.sum)).foldl addU ((s.pins.map (·.sum)).foldl addU [])
end KV
end
section
namespace KV
open Go Go.Eng
open Classical
structure VQ (v : Vault) : Prop where
  wd : zj v.width = true
  lim : 0 ≤ v.limit ∧ v.limit ≤ 1000000
  log : LogOk v.safe v.loose
  run : runL v.width (empty v.width) (v.safe ++ v.loose) 0 = .inl v.st
  nq : v.rd.queue.length ≤ 23230
  nm : v.rd.marked.length ≤ 601
  rd : v.rd.queue.length ≤ 23200 → v.rd.marked.length ≤ 600 → RoundOk v.st.width v.st.births v.rd
theorem VQ.vs {v : Vault} (h : VQ v) : VS v.st ∧ v.st.width = v.width := zfi _ _ _ _ (zf2 (zbb.1 h.wd)) rfl h.run
end KV
end
section
namespace KV
open Go Go.Eng
open Classical
def GV (v : Vault) : Prop := VV v ∨ v = V0
theorem GV.nT {v : Vault} (h : GV v) : v.st.things.length ≤ 1000000 ∧ v.st.leases.length ≤ 1000000 := by
  rcases h with h | rfl
  · have h1 := h.vs.1.nT; have h2 := h.vs.1.nL; omega
  · exact ⟨Nat.zero_le _, Nat.zero_le _⟩
end KV
end
section
namespace KV
open Go Go.Eng
open Classical
structure BS (s : State) : Prop where
  nT : s.things.length ≤ 1000
  nP : s.pins.length ≤ 1000
  nL : s.leases.length ≤ 1000
  t : ∀ k ∈ s.things, 1 + szs k.thing.refs + k.thing.text.size ≤ 1000000 ∧ k.thing.refs.length ≤ 40 ∧ k.thing.text.size ≤ 3000 ∧ k.sum.size ≤ 100
  nm : ∀ p ∈ s.pins, p.name.size ≤ 100
  ints : (-10 ≤ s.width ∧ s.width ≤ 100) ∧ (-1 ≤ s.now ∧ s.now ≤ 1000001000) ∧ (-1 ≤ s.given ∧ s.given ≤ 1000001000) ∧ (-1 ≤ s.births ∧ s.births ≤ 1000001000)
theorem BS.names {s : State} (h : BS s) : ∀ p ∈ s.pins, p.name.size ≤ 4611686018427387904 := fun p hp => by have := h.nm p hp; omega
theorem VS.bs {s : State} (V : VS s) : BS s := by
  have h1 := V.nT; have h2 := V.nP; have h3 := V.nL; have a := V.wd; have b := V.now; have c := V.given; have d := V.births
  exact ⟨by omega, by omega, by omega, fun k hk => by
    have := zct (V.okT k hk).1; have := (V.okT k hk).1.text
    have hz : ((sumM (formM k.thing) s.width).size : Int) = s.width := zjq (zbb.2 V.wd)
    rw [← (V.okT k hk).2.1] at hz
    omega, fun p hp => by have := (V.okP p hp).1.hi; omega, by omega, by omega, by omega, by omega⟩
end KV
end
section
namespace KV
open Go Go.Eng
open Classical
def GS (s : State) : Prop := VS s ∨ s = ⟨0, 0, 0, 0, [], [], []⟩
theorem GS.bs {s : State} (h : GS s) : BS s := by
  rcases h with h | rfl
  · exact h.bs
  · exact ⟨Nat.zero_le _, Nat.zero_le _, Nat.zero_le _, (fun k hk => nomatch hk), (fun k hk => nomatch hk), by simp⟩
theorem GS.now {s : State} (h : GS s) : (0 ≤ s.now ∧ s.now ≤ 1000000000) ∧ (0 ≤ s.given ∧ s.given ≤ 1000000000) ∧ (0 ≤ s.births ∧ s.births ≤ 1000000000) ∧ (0 ≤ s.width ∧ s.width ≤ 8) := by
  rcases h with h | rfl
  · have := h.wd; exact ⟨h.now, h.given, h.births, by omega⟩
  · simp
end KV
end
section
namespace KV
open Go Go.Eng
open Classical
def h4 : Rw := [[.i 0], [.i 1], [.i 100000], [.i 100001]]
theorem zj5 {α : Type} {c c' : Bool} {a b : α} (h : c = c') : cond c a b = cond c' a b := by rw [h]
theorem zlb {α β : Type} {x y : Option α} {f : α → Option β} (h : x = y) : x.bind f = y.bind f := by rw [h]
attribute [local congr] zj5 zlb
end KV
end
section
namespace KV
open Go Go.Eng
open Classical
theorem zer {α : Type} (d : α) {R : α → α → Prop} (tr : ∀ a b c, R a b → R b c → R a c) (l : List α) : l.Pairwise R ↔ ∀ j, 0 < j → j < l.length → R (nth d l (j - 1)) (nth d l j) := by
  constructor
  · intro h j h1 h2; exact zds d h (by omega) h2
  · intro h
    rw [List.pairwise_iff_getElem]
    intro i j hi hj hij
    rw [← zm d l i hi, ← zm d l j hj]
    have : ∀ k, i + k + 1 < l.length → R (nth d l i) (nth d l (i + k + 1)) := by
      intro k
      induction k with
      | zero => intro hk; have := h (i + 1) (by omega) hk; rwa [Nat.add_sub_cancel] at this
      | succ k ih => intro hk; exact tr _ _ _ (ih (by omega)) (by have := h (i + (k + 1) + 1) (by omega) hk; rwa [Nat.add_sub_cancel] at this)
    have := this (j - i - 1) (by omega)
    rwa [show i + (j - i - 1) + 1 = j by omega] at this
def setI (ks : List Int) : List (C × C) := ks.map fun k => (.i k, .b true)
theorem ceq_i (k : IntKind) (x y : Int) : ceq (.i k) (.i x) (.i y) = decide (x = y) := by
  show (x == y) = _
  by_cases h : x = y
  · subst h; simp
  · simp [h]
theorem zgy (x : Int) : ∀ ks : List Int, mget (.i .i64) (.i x) (setI ks) = if x ∈ ks then some (.b true) else none
  | [] => by simp [setI, mget]
  | k :: ks => by
    show cond (ceq (.i .i64) (.i x) (.i k)) (some (.b true)) (mget (.i .i64) (.i x) (setI ks)) = _
    rw [ceq_i, zgy x ks]
    by_cases h : x = k
    · subst h; simp
    · simp [h]
theorem zfg (x : Int) : ∀ ks : List Int, x ∉ ks → mput (.i .i64) (.i x) (.b true) (setI ks) = setI (ks ++ [x])
  | [], _ => by simp [setI, mput]
  | k :: ks, h => by
    show cond (ceq (.i .i64) (.i x) (.i k)) _ _ = _
    rw [ceq_i, decide_eq_false (fun e => h (by rw [e]; simp)), cond_false]
    show (C.i k, C.b true) :: mput (.i .i64) (.i x) (.b true) (setI ks) = _
    rw [zfg x ks (fun e => h (by simp [e]))]; rfl
theorem inI (x : Int) (ks : List Int) : (((mget (.i .i64) (.i x) (setI ks)).getD (.b false)).bool) = decide (x ∈ ks) := by
  rw [zgy]
  by_cases h : x ∈ ks
  · rw [if_pos h, decide_eq_true h]; rfl
  · rw [if_neg h, decide_eq_false h]; rfl
def bsT (T : List Kept) (i : Nat) : List Int := (T.take i).map (·.born)
theorem bsT_S (T : List Kept) (i : Nat) (h : i < T.length) : bsT T (i + 1) = bsT T i ++ [(nth K0 T i).born] := by
  unfold bsT
  rw [zm K0 T i h, List.take_add_one, List.map_append, List.getElem?_eq_getElem h]; rfl
structure tP (w births : Int) (T : List Kept) (j : Nat) : Prop where
  adj : 0 < j → slt (nth K0 T (j - 1)).sum (nth K0 T j).sum = true
  ok : ThingOk (nth K0 T j).thing w
  sum : (nth K0 T j).sum = sumM (formM (nth K0 T j).thing) w
  lo : 1 ≤ (nth K0 T j).born
  hi : (nth K0 T j).born ≤ births
  new : (nth K0 T j).born ∉ bsT T j
theorem zj6 (T : List Kept) : (T.map (·.born)).Nodup ↔ ∀ j, 0 ≤ j → j < T.length → (nth K0 T j).born ∉ bsT T j := by
  constructor
  · intro h j _ hj hm
    obtain ⟨a, ha, he⟩ := List.mem_map.1 hm
    obtain ⟨i, hi, rfl⟩ := List.mem_iff_getElem.1 ha
    rw [List.length_take] at hi
    rw [List.getElem_take] at he
    have := List.pairwise_iff_getElem.1 h i j (by rw [List.length_map]; omega) (by rw [List.length_map]; omega) (by omega)
    rw [List.getElem_map, List.getElem_map] at this
    rw [zm K0 T j hj] at he
    exact this he
  · intro h
    rw [List.Nodup, List.pairwise_iff_getElem]
    intro i j hi hj hij he
    rw [List.length_map] at hi hj
    rw [List.getElem_map, List.getElem_map] at he
    apply h j (Nat.zero_le _) hj
    rw [zm K0 T j hj, ← he]
    exact List.mem_map.2 ⟨_, List.mem_take_iff_getElem.2 ⟨i, by omega, rfl⟩, rfl⟩
theorem zen (w births : Int) (T : List Kept) : (∀ j, 0 ≤ j → j < T.length → tP w births T j) ↔ SrtK T ∧ (∀ k ∈ T, ThingOk k.thing w ∧ k.sum = sumM (formM k.thing) w ∧ 1 ≤ k.born ∧ k.born ≤ births) ∧ (T.map (·.born)).Nodup := by
  rw [zj6, show SrtK T ↔ _ from zer K0 (R := fun a b => slt a.sum b.sum = true) (fun a b c h1 h2 => zbo h1 h2) T]
  constructor
  · intro h
    refine ⟨fun j h1 h2 => (h j (by omega) h2).adj h1, fun k hk => ?_, fun j h1 h2 => (h j h1 h2).new⟩
    obtain ⟨j, hj, rfl⟩ := zbh K0 hk
    have := h j (Nat.zero_le _) hj
    exact ⟨this.ok, this.sum, this.lo, this.hi⟩
  · rintro ⟨h1, h2, h3⟩ j h4 h5
    have := h2 _ (zk (d := K0) h5)
    exact ⟨fun h => h1 j h h5, this.1, this.2.1, this.2.2.1, this.2.2.2, h3 j h4 h5⟩
def refIn (T : List Kept) (b : Int) (r : Bs) : Prop := hasT T r ∧ (nth K0 T (lb (qK r) T)).born < b
theorem zgi {T : List Kept} (h : SrtK T) (b : Int) (r : Bs) : refIn T b r ↔ ∃ j ∈ T, j.sum = r ∧ j.born < b := by
  constructor
  · rintro ⟨h1, h2⟩
    obtain ⟨h3, h4⟩ := (zdr h r).1 h1
    exact ⟨_, zk h3, h4, h2⟩
  · rintro ⟨k, hk, rfl, hb⟩
    obtain ⟨j, hj, rfl⟩ := zbh K0 hk
    have := ze5 K0 h (kp (nth K0 T j).sum) (kR (nth K0 T j).sum) hj rfl
    refine ⟨⟨_, zk hj, rfl⟩, ?_⟩
    rw [← this]; exact hb
structure pP (T : List Kept) (P : List Pin) (j : Nat) : Prop where
  has : hasT T (nth P0 P j).sum
  nm : NameOk (nth P0 P j).name
  adj : 0 < j → slt (nth P0 P (j - 1)).name (nth P0 P j).name = true
theorem zmp (T : List Kept) (P : List Pin) : (∀ j, 0 ≤ j → j < P.length → pP T P j) ↔ SrtP P ∧ ∀ p ∈ P, NameOk p.name ∧ hasT T p.sum := by
  rw [show SrtP P ↔ _ from zer P0 (R := fun a b => slt a.name b.name = true) (fun a b c h1 h2 => zbo h1 h2) P]
  constructor
  · intro h
    refine ⟨fun j h1 h2 => (h j (by omega) h2).adj h1, fun k hk => ?_⟩
    obtain ⟨j, hj, rfl⟩ := zbh P0 hk
    have := h j (Nat.zero_le _) hj
    exact ⟨this.nm, this.has⟩
  · rintro ⟨h1, h2⟩ j h4 h5
    have := h2 _ (zk (d := P0) h5)
    exact ⟨this.2, this.1, fun h => h1 j h h5⟩
structure lP (now given : Int) (T : List Kept) (L : List Lease) (j : Nat) : Prop where
  has : hasT T (nth L0 L j).sum
  lo : 1 ≤ (nth L0 L j).number
  hi : (nth L0 L j).number ≤ given
  adj : 0 < j → (nth L0 L (j - 1)).number < (nth L0 L j).number
  t1 : now < (nth L0 L j).till
  t2 : (nth L0 L j).till ≤ now + 100000
theorem zki (now given : Int) (T : List Kept) (L : List Lease) : (∀ j, 0 ≤ j → j < L.length → lP now given T L j) ↔ SrtL L ∧ ∀ l ∈ L, 1 ≤ l.number ∧ l.number ≤ given ∧ hasT T l.sum ∧ now < l.till ∧ l.till ≤ now + 100000 := by
  rw [show SrtL L ↔ _ from zer L0 (R := fun a b => a.number < b.number) (fun a b c h1 h2 => Int.lt_trans h1 h2) L]
  constructor
  · intro h
    refine ⟨fun j h1 h2 => (h j (by omega) h2).adj h1, fun k hk => ?_⟩
    obtain ⟨j, hj, rfl⟩ := zbh L0 hk
    have := h j (Nat.zero_le _) hj
    exact ⟨this.lo, this.hi, this.has, this.t1, this.t2⟩
  · rintro ⟨h1, h2⟩ j h4 h5
    have := h2 _ (zk (d := L0) h5)
    exact ⟨this.2.2.1, this.1, this.2.1, fun h => h1 j h h5, this.2.2.2.1, this.2.2.2.2⟩
theorem zh5 (s : State) : VS s ↔ (1 ≤ s.width ∧ s.width ≤ 8) ∧ (0 ≤ s.now ∧ s.now ≤ 1000000000) ∧ (0 ≤ s.given ∧ s.given ≤ 1000000000) ∧ (0 ≤ s.births ∧ s.births ≤ 1000000000) ∧ s.things.length ≤ 600 ∧ s.pins.length ≤ 100 ∧ s.leases.length ≤ 200 ∧
    (∀ j, 0 ≤ j → j < s.things.length → tP s.width s.births s.things j) ∧ (∀ j, 0 ≤ j → j < s.things.length → ∀ i, 0 ≤ i → i < (nth K0 s.things j).thing.refs.length → refIn s.things (nth K0 s.things j).born (nth .empty (nth K0 s.things j).thing.refs i)) ∧
    (∀ j, 0 ≤ j → j < s.pins.length → pP s.things s.pins j) ∧ (∀ j, 0 ≤ j → j < s.leases.length → lP s.now s.given s.things s.leases j) := by
  rw [zen, zmp, zki]
  constructor
  · intro V
    refine ⟨V.wd, V.now, V.given, V.births, V.nT, V.nP, V.nL, ⟨V.srtT, V.okT, V.ndT⟩, fun j _ hj i _ hi => (zgi V.srtT _ _).2 (V.refs _ (zk hj) _ (zk hi)), ⟨V.srtP, V.okP⟩, ⟨V.srtL, V.okL⟩⟩
  · rintro ⟨a, b, c, d, e, f, g, ⟨h1, h2, h3⟩, i, ⟨j1, j2⟩, ⟨k1, k2⟩⟩
    refine ⟨a, b, c, d, e, f, g, h1, h2, h3, fun k hk r hr => ?_, j1, j2, k1, k2⟩
    obtain ⟨m, hm, rfl⟩ := zbh K0 hk
    obtain ⟨n, hn, rfl⟩ := zbh .empty hr
    exact (zgi h1 _ _).1 (i m (Nat.zero_le _) hm n (Nat.zero_le _) hn)
section
variable {s : State}
theorem zjz (hn : 0 ≤ s.now ∧ s.now ≤ 1000000000) (hT : SrtK s.things) (nT : s.things.length ≤ 600) (nL : s.leases.length ≤ 200) : Lqa (some 30) [.l (encL s.leases), .i (s.leases.length : Int), .i 0, .i s.width, .i s.now, .i s.given, .i s.births, .l (encK s.things), .l (encP s.pins), .l (encL s.leases)]
    = if (∀ j, 0 ≤ j → j < s.leases.length → lP s.now s.given s.things s.leases j) then some [.b true] else some [.b false] := by
  refine zp (f := fun i : Nat => Lqa (some 30) [.l (encL s.leases), .i (s.leases.length : Int), .i (i : Int), .i s.width, .i s.now, .i s.given, .i s.births, .l (encK s.things), .l (encP s.pins), .l (encL s.leases)]) (fun i hi => ?_) ?_ 0 (Nat.zero_le _)
  · show (_ → Lqa _ _ = Lqa _ _) ∧ (_ → Lqa _ _ = _)
    rw [eqa_30]
    simp (disch := omega) only [push_cast, zfa s.width s.now s.given s.births s.things (encP s.pins) (encL s.leases) (nth L0 s.leases i).sum hT (by omega)]
    by_cases c1 : hasT s.things (nth L0 s.leases i).sum
    rotate_left; · exact ⟨fun h => absurd h.has c1, fun _ => by simp (disch := omega) only [push_cast]⟩
    by_cases c2 : 1 ≤ (nth L0 s.leases i).number
    rotate_left; · exact ⟨fun h => absurd h.lo c2, fun _ => by simp (disch := omega) only [push_cast]⟩
    by_cases c3 : (nth L0 s.leases i).number ≤ s.given
    rotate_left; · exact ⟨fun h => absurd h.hi c3, fun _ => by simp (disch := omega) only [push_cast]⟩
    by_cases c0 : 0 < i
    · by_cases c4 : (nth L0 s.leases (i - 1)).number < (nth L0 s.leases i).number
      rotate_left; · exact ⟨fun h => absurd (h.adj c0) c4, fun _ => by simp (disch := omega) only [push_cast]⟩
      by_cases c5 : s.now < (nth L0 s.leases i).till
      rotate_left; · exact ⟨fun h => absurd h.t1 c5, fun _ => by simp (disch := omega) only [push_cast]⟩
      by_cases c6 : (nth L0 s.leases i).till ≤ s.now + 100000
      rotate_left; · exact ⟨fun h => absurd h.t2 c6, fun _ => by simp (disch := omega) only [push_cast]⟩
      exact ⟨fun _ => by simp (disch := omega) only [push_cast] <;> rfl, fun h => absurd ⟨c1, c2, c3, fun _ => c4, c5, c6⟩ h⟩
    · by_cases c5 : s.now < (nth L0 s.leases i).till
      rotate_left; · exact ⟨fun h => absurd h.t1 c5, fun _ => by simp (disch := omega) only [push_cast]⟩
      by_cases c6 : (nth L0 s.leases i).till ≤ s.now + 100000
      rotate_left; · exact ⟨fun h => absurd h.t2 c6, fun _ => by simp (disch := omega) only [push_cast]⟩
      exact ⟨fun _ => by simp (disch := omega) only [push_cast] <;> rfl, fun h => absurd ⟨c1, c2, c3, fun h => absurd h c0, c5, c6⟩ h⟩
  · show Lqa _ _ = _
    rw [eqa_30]; simp (disch := omega) only [push_cast]
theorem zkz (hT : SrtK s.things) (nT : s.things.length ≤ 600) (nP : s.pins.length ≤ 100) (hN : ∀ p ∈ s.pins, p.name.size ≤ 4611686018427387904) : Lqa (some 23) [.l (encP s.pins), .i (s.pins.length : Int), .i 0, .i s.width, .i s.now, .i s.given, .i s.births, .l (encK s.things), .l (encP s.pins), .l (encL s.leases)]
    = if (∀ j, 0 ≤ j → j < s.pins.length → pP s.things s.pins j) then Lqa (some 30) [.l (encL s.leases), .i (s.leases.length : Int), .i 0, .i s.width, .i s.now, .i s.given, .i s.births, .l (encK s.things), .l (encP s.pins), .l (encL s.leases)] else some [.b false] := by
  refine zp (f := fun i : Nat => Lqa (some 23) [.l (encP s.pins), .i (s.pins.length : Int), .i (i : Int), .i s.width, .i s.now, .i s.given, .i s.births, .l (encK s.things), .l (encP s.pins), .l (encL s.leases)]) (fun i hi => ?_) ?_ 0 (Nat.zero_le _)
  · show (_ → Lqa _ _ = Lqa _ _) ∧ (_ → Lqa _ _ = _)
    rw [eqa_23]
    simp (disch := omega) only [push_cast, zfa s.width s.now s.given s.births s.things (encP s.pins) (encL s.leases) (nth P0 s.pins i).sum hT (by omega), zl3 (nth P0 s.pins i).name (hN _ (zk hi))]
    by_cases c1 : hasT s.things (nth P0 s.pins i).sum
    rotate_left; · exact ⟨fun h => absurd h.has c1, fun _ => by simp (disch := omega) only [push_cast]⟩
    by_cases c2 : NameOk (nth P0 s.pins i).name
    rotate_left; · exact ⟨fun h => absurd h.nm c2, fun _ => by unfold nameB; simp (disch := omega) only [push_cast]⟩
    unfold nameB
    by_cases c0 : 0 < i
    · cases c4 : slt (nth P0 s.pins (i - 1)).name (nth P0 s.pins i).name
      · exact ⟨fun h => absurd (h.adj c0) (by simp [c4]), fun _ => by simp (disch := omega) only [push_cast, c4]⟩
      · exact ⟨fun _ => by simp (disch := omega) only [push_cast, c4] <;> rfl, fun h => absurd ⟨c1, c2, fun _ => c4⟩ h⟩
    · exact ⟨fun _ => by simp (disch := omega) only [push_cast] <;> rfl, fun h => absurd ⟨c1, c2, fun h => absurd h c0⟩ h⟩
  · show Lqa _ _ = _
    rw [eqa_23]; simp (disch := omega) only [push_cast]
theorem zm1 (hT : SrtK s.things) (nT : s.things.length ≤ 600) (hR : ∀ k ∈ s.things, k.thing.refs.length ≤ 30) : Lqa (some 12) [.l (encK s.things), .i (s.things.length : Int), .i 0, .i s.width, .i s.now, .i s.given, .i s.births, .l (encK s.things), .l (encP s.pins), .l (encL s.leases)]
    = if (∀ j, 0 ≤ j → j < s.things.length → ∀ i, 0 ≤ i → i < (nth K0 s.things j).thing.refs.length → refIn s.things (nth K0 s.things j).born (nth .empty (nth K0 s.things j).thing.refs i)) then Lqa (some 23) [.l (encP s.pins), .i (s.pins.length : Int), .i 0, .i s.width, .i s.now, .i s.given, .i s.births, .l (encK s.things), .l (encP s.pins), .l (encL s.leases)] else some [.b false] := by
  refine zp (f := fun i : Nat => Lqa (some 12) [.l (encK s.things), .i (s.things.length : Int), .i (i : Int), .i s.width, .i s.now, .i s.given, .i s.births, .l (encK s.things), .l (encP s.pins), .l (encL s.leases)]) (P := fun j => ∀ i, 0 ≤ i → i < (nth K0 s.things j).thing.refs.length → refIn s.things (nth K0 s.things j).born (nth .empty (nth K0 s.things j).thing.refs i)) (fun i hi => ?_) ?_ 0 (Nat.zero_le _)
  · have hr := hR _ (zk (d := K0) hi)
    have inner := zp (f := fun j : Nat => Lqa (some 15) [.l (encK s.things), .i (s.things.length : Int), .i (i : Int), .l (encS (nth K0 s.things i).thing.refs), .i ((nth K0 s.things i).thing.refs.length : Int), .i (j : Int), .i s.width, .i s.now, .i s.given, .i s.births, .l (encK s.things), .l (encP s.pins), .l (encL s.leases), .s (nth K0 s.things i).sum, .i (nth K0 s.things i).born, .s (nth K0 s.things i).thing.text, .l (encS (nth K0 s.things i).thing.refs)])
      (P := fun j => refIn s.things (nth K0 s.things i).born (nth .empty (nth K0 s.things i).thing.refs j)) (n := (nth K0 s.things i).thing.refs.length) (T := Lqa (some 12) [.l (encK s.things), .i (s.things.length : Int), .i ((i + 1 : Nat) : Int), .i s.width, .i s.now, .i s.given, .i s.births, .l (encK s.things), .l (encP s.pins), .l (encL s.leases)]) (F := some [.b false])
      (fun j hj => by
        show (_ → Lqa _ _ = Lqa _ _) ∧ (_ → Lqa _ _ = _)
        rw [eqa_15]
        simp (disch := omega) only [push_cast, zfa s.width s.now s.given s.births s.things (encP s.pins) (encL s.leases) (nth .empty (nth K0 s.things i).thing.refs j) hT (by omega)]
        by_cases c1 : hasT s.things (nth .empty (nth K0 s.things i).thing.refs j)
        rotate_left; · exact ⟨fun h => absurd h.1 c1, fun _ => by simp (disch := omega) only [push_cast]⟩
        have hl := ((zdr hT _).1 c1).1
        by_cases c2 : (nth K0 s.things (lb (qK (nth .empty (nth K0 s.things i).thing.refs j)) s.things)).born < (nth K0 s.things i).born
        rotate_left; · exact ⟨fun h => absurd h.2 c2, fun _ => by simp (disch := omega) only [push_cast]⟩
        exact ⟨fun _ => by simp (disch := omega) only [push_cast] <;> rfl, fun h => absurd ⟨c1, c2⟩ h⟩)
      (by show Lqa _ _ = Lqa _ _; rw [eqa_15]; simp (disch := omega) only [push_cast] <;> rfl) 0 (Nat.zero_le _)
    show (_ → Lqa _ _ = Lqa _ _) ∧ (_ → Lqa _ _ = _)
    rw [eqa_12]
    simp (disch := omega) only [push_cast]
    have inner' : Lqa (some 15) [.l (encK s.things), .i (s.things.length : Int), .i (i : Int), .l (encS (nth K0 s.things i).thing.refs), .i ((nth K0 s.things i).thing.refs.length : Int), .i 0, .i s.width, .i s.now, .i s.given, .i s.births, .l (encK s.things), .l (encP s.pins), .l (encL s.leases), .s (nth K0 s.things i).sum, .i (nth K0 s.things i).born, .s (nth K0 s.things i).thing.text, .l (encS (nth K0 s.things i).thing.refs)] = _ := inner
    rw [inner']
    exact ⟨fun h => if_pos h, fun h => if_neg h⟩
  · show Lqa _ _ = _
    rw [eqa_12]; simp (disch := omega) only [push_cast]
theorem ivs_5 (nT : s.things.length ≤ 600) : Lqa (some 5) [.l (encK s.things), .i (s.things.length : Int), .i 0, .i s.width, .i s.now, .i s.given, .i s.births, .l (encK s.things), .l (encP s.pins), .l (encL s.leases), .m []]
    = if (∀ j, 0 ≤ j → j < s.things.length → tP s.width s.births s.things j) then Lqa (some 12) [.l (encK s.things), .i (s.things.length : Int), .i 0, .i s.width, .i s.now, .i s.given, .i s.births, .l (encK s.things), .l (encP s.pins), .l (encL s.leases)] else some [.b false] := by
  refine zp (f := fun i : Nat => Lqa (some 5) [.l (encK s.things), .i (s.things.length : Int), .i (i : Int), .i s.width, .i s.now, .i s.given, .i s.births, .l (encK s.things), .l (encP s.pins), .l (encL s.leases), .m (setI (bsT s.things i))]) (fun i hi => ?_) ?_ 0 (Nat.zero_le _)
  · show (_ → Lqa _ _ = Lqa _ _) ∧ (_ → Lqa _ _ = _)
    rw [eqa_5, bsT_S _ _ hi]
    by_cases c1 : ThingOk (nth K0 s.things i).thing s.width
    rotate_left
    · refine ⟨fun h => absurd h.ok c1, fun _ => ?_⟩
      have : zr (nth K0 s.things i).thing s.width = false := decide_eq_false c1
      by_cases c0 : 0 < i
      · cases c4 : slt (nth K0 s.things (i - 1)).sum (nth K0 s.things i).sum <;> simp (disch := omega) only [push_cast, z9, c4, this]
      · simp (disch := omega) only [push_cast, z9, this]
    have ht : zr (nth K0 s.things i).thing s.width = true := decide_eq_true c1
    have hz : (formM (nth K0 s.things i).thing).size ≤ 1099511627776 := by
      rw [zg2]; have := zct c1; omega
    by_cases c2 : (nth K0 s.things i).sum = sumM (formM (nth K0 s.things i).thing) s.width
    rotate_left
    · refine ⟨fun h => absurd h.sum c2, fun _ => ?_⟩
      by_cases c0 : 0 < i
      · cases c4 : slt (nth K0 s.things (i - 1)).sum (nth K0 s.things i).sum <;> simp (disch := omega) only [push_cast, z9, c4, ht, zbi c1, zbl _ s.width hz]
      · simp (disch := omega) only [push_cast, z9, ht, zbi c1, zbl _ s.width hz]
    by_cases c3 : 1 ≤ (nth K0 s.things i).born
    rotate_left
    · refine ⟨fun h => absurd h.lo c3, fun _ => ?_⟩
      by_cases c0 : 0 < i
      · cases c4 : slt (nth K0 s.things (i - 1)).sum (nth K0 s.things i).sum <;> simp (disch := omega) only [push_cast, z9, c4, ht, zbi c1, zbl _ s.width hz]
      · simp (disch := omega) only [push_cast, z9, ht, zbi c1, zbl _ s.width hz]
    by_cases c5 : (nth K0 s.things i).born ≤ s.births
    rotate_left
    · refine ⟨fun h => absurd h.hi c5, fun _ => ?_⟩
      by_cases c0 : 0 < i
      · cases c4 : slt (nth K0 s.things (i - 1)).sum (nth K0 s.things i).sum <;> simp (disch := omega) only [push_cast, z9, c4, ht, zbi c1, zbl _ s.width hz]
      · simp (disch := omega) only [push_cast, z9, ht, zbi c1, zbl _ s.width hz]
    by_cases c6 : (nth K0 s.things i).born ∈ bsT s.things i
    · refine ⟨fun h => absurd c6 h.new, fun _ => ?_⟩
      by_cases c0 : 0 < i
      · cases c4 : slt (nth K0 s.things (i - 1)).sum (nth K0 s.things i).sum <;> simp (disch := omega) only [push_cast, z9, c4, ht, zbi c1, zbl _ s.width hz, inI]
      · simp (disch := omega) only [push_cast, z9, ht, zbi c1, zbl _ s.width hz, inI]
    by_cases c0 : 0 < i
    · cases c4 : slt (nth K0 s.things (i - 1)).sum (nth K0 s.things i).sum
      · exact ⟨fun h => absurd (h.adj c0) (by simp [c4]), fun _ => by simp (disch := omega) only [push_cast, c4]⟩
      · exact ⟨fun _ => by simp (disch := omega) only [push_cast, z9, c4, ht, zbi c1, zbl _ s.width hz, ← c2, inI, zfg _ _ c6] <;> rfl, fun h => absurd ⟨fun _ => c4, c1, c2, c3, c5, c6⟩ h⟩
    · exact ⟨fun _ => by simp (disch := omega) only [push_cast, z9, ht, zbi c1, zbl _ s.width hz, ← c2, inI, zfg _ _ c6] <;> rfl, fun h => absurd ⟨fun h => absurd h c0, c1, c2, c3, c5, c6⟩ h⟩
  · show Lqa _ _ = _
    rw [eqa_5]; simp (disch := omega) only [push_cast]
theorem zk2 (s : State) (hN : ∀ p ∈ s.pins, p.name.size ≤ 4611686018427387904) : Lqa none (encSt s) = some [.b (decide (VS s))] := by
  unfold encSt
  rw [eqa_i]
  have hv := zh5 s
  by_cases h1 : 1 ≤ s.width ∧ s.width ≤ 8
  rotate_left; · rw [decide_eq_false fun V : VS s => h1 V.wd]; have : zj s.width = false := by cases h : zj s.width; { rfl }; { exact absurd (zbb.1 h) h1 }
                 simp (disch := omega) only [push_cast, zbm, this]
  have hw : zj s.width = true := zbb.2 h1
  by_cases h2 : 0 ≤ s.now ∧ s.now ≤ 1000000000
  rotate_left; · rw [decide_eq_false fun V : VS s => h2 V.now]; simp (disch := omega) only [push_cast, zbm, hw, zbf]
  by_cases h3 : 0 ≤ s.given ∧ s.given ≤ 1000000000
  rotate_left; · rw [decide_eq_false fun V : VS s => h3 V.given]; simp (disch := omega) only [push_cast, zbm, hw, zbf]
  by_cases h4 : 0 ≤ s.births ∧ s.births ≤ 1000000000
  rotate_left; · rw [decide_eq_false fun V : VS s => h4 V.births]; simp (disch := omega) only [push_cast, zbm, hw, zbf]
  by_cases h5 : s.things.length ≤ 600
  rotate_left; · rw [decide_eq_false fun V : VS s => h5 V.nT]; simp (disch := omega) only [push_cast, zbm, hw, zbf]
  by_cases h6 : s.pins.length ≤ 100
  rotate_left; · rw [decide_eq_false fun V : VS s => h6 V.nP]; simp (disch := omega) only [push_cast, zbm, hw, zbf]
  by_cases h7 : s.leases.length ≤ 200
  rotate_left; · rw [decide_eq_false fun V : VS s => h7 V.nL]; simp (disch := omega) only [push_cast, zbm, hw, zbf]
  simp (disch := omega) only [push_cast, zbm, hw, zbf, ivs_5 h5]
  by_cases h8 : ∀ j, 0 ≤ j → j < s.things.length → tP s.width s.births s.things j
  rotate_left; · rw [if_neg h8, decide_eq_false fun V : VS s => h8 (hv.1 V).2.2.2.2.2.2.2.1]
  have hs := (zen _ _ _).1 h8
  rw [if_pos h8, zm1 hs.1 h5 fun k hk => (hs.2.1 k hk).1.refs]
  by_cases h9 : ∀ j, 0 ≤ j → j < s.things.length → ∀ i, 0 ≤ i → i < (nth K0 s.things j).thing.refs.length → refIn s.things (nth K0 s.things j).born (nth .empty (nth K0 s.things j).thing.refs i)
  rotate_left; · rw [if_neg h9, decide_eq_false fun V : VS s => h9 (hv.1 V).2.2.2.2.2.2.2.2.1]
  rw [if_pos h9, zkz hs.1 h5 h6 hN]
  by_cases h10 : ∀ j, 0 ≤ j → j < s.pins.length → pP s.things s.pins j
  rotate_left; · rw [if_neg h10, decide_eq_false fun V : VS s => h10 (hv.1 V).2.2.2.2.2.2.2.2.2.1]
  rw [if_pos h10, zjz h2 hs.1 h5 h7]
  by_cases h11 : ∀ j, 0 ≤ j → j < s.leases.length → lP s.now s.given s.things s.leases j
  rotate_left; · rw [if_neg h11, decide_eq_false fun V : VS s => h11 (hv.1 V).2.2.2.2.2.2.2.2.2.2]
  rw [if_pos h11, decide_eq_true (hv.2 ⟨h1, h2, h3, h4, h5, h6, h7, h8, h9, h10, h11⟩)]
end
theorem VS.names {s : State} (V : VS s) : ∀ p ∈ s.pins, p.name.size ≤ 4611686018427387904 := fun p hp => by have := (V.okP p hp).1.hi; omega
end KV
end
section
namespace KV
open Go Go.Eng
open Classical
noncomputable def near (T : List Kept) (i : Nat) : Rw := (List.range 601).map fun b : Nat => [.b (decide ((b : Int) ∈ bsT T i))]
def farL (T : List Kept) (i : Nat) : List Int := (bsT T i).filter fun b => decide (600 < b)
def encN (l : List Int) : Rw := l.map fun n => [.i n]
@[push_cast] theorem znc (l : List Int) : (encN l).length = l.length := by simp [encN]
@[push_cast] theorem zm5 (l : List Int) (i : Nat) : (rd (encN l) i 0).int = nth 0 l i := by
  rcases Nat.lt_or_ge i l.length with h | h
  · rw [encN, zej _ _ _ _ h, zm _ _ _ h]; rfl
  · rw [zfm _ _ _ h]; unfold encN; rw [ze0 _ _ _ _ h]; rfl
@[push_cast] theorem zev (T : List Kept) (i : Nat) : (near T i).length = 601 := by simp [near]
theorem zj3 (T : List Kept) (i b : Nat) (h : b ≤ 600) : (rd (near T i) b 0).bool = decide ((b : Int) ∈ bsT T i) := by
  rw [near, zej _ _ _ _ (by rw [List.length_range]; omega), List.getElem_range]; rfl
theorem zlm (T : List Kept) (i b : Nat) (hi : i < T.length) (h : b ≤ 600) (hb : (nth K0 T i).born = (b : Int)) : wrs (near T i) b 0 [.b true] = near T (i + 1) := by
  have e : (near T i).getD b [] = [.b (decide ((b : Int) ∈ bsT T i))] := by
    unfold near
    rw [List.getD_eq_getElem?_getD, List.getElem?_map, List.getElem?_range (by omega)]; rfl
  have h1 : wrs (near T i) b 0 [.b true] = (near T i).set b [.b true] := by
    unfold wrs wrs wr
    rw [e]; rfl
  rw [h1]
  apply List.ext_getElem?
  intro j
  rw [List.getElem?_set]
  rcases Nat.lt_or_ge j 601 with hj | hj
  · by_cases hjb : b = j
    · subst hjb
      rw [if_pos rfl, if_pos (by rw [zev]; exact hj)]
      unfold near
      rw [List.getElem?_map, List.getElem?_range hj, Option.map_some, bsT_S _ _ hi, hb]
      simp
    · rw [if_neg hjb]
      unfold near
      rw [List.getElem?_map, List.getElem?_map, List.getElem?_range hj, Option.map_some, Option.map_some, bsT_S _ _ hi, hb]
      have : ((j : Int) ∈ bsT T i) ↔ ((j : Int) ∈ bsT T i ++ [(b : Int)]) := by
        rw [List.mem_append, List.mem_singleton]
        exact ⟨.inl, fun h => h.elim id fun h => absurd (by omega : b = j) hjb⟩
      rw [decide_eq_decide.2 this]
  · rw [if_neg (by omega), List.getElem?_eq_none (by rw [zev]; exact hj), List.getElem?_eq_none (by rw [zev]; exact hj)]
theorem far_S (T : List Kept) (i : Nat) (hi : i < T.length) : farL T (i + 1) = farL T i ++ (if 600 < (nth K0 T i).born then [(nth K0 T i).born] else []) := by
  unfold farL
  rw [bsT_S _ _ hi, List.filter_append]
  congr 1
  split
  · rename_i h; simp [h]
  · rename_i h; simp [h]
theorem zl6 (T : List Kept) (i : Nat) (hi : i < T.length) (h : 600 < (nth K0 T i).born) : near T (i + 1) = near T i := by
  unfold near
  apply List.map_congr_left
  intro b hb
  rw [List.mem_range] at hb
  rw [bsT_S _ _ hi]
  have : ((b : Int) ∈ bsT T i ++ [(nth K0 T i).born]) ↔ ((b : Int) ∈ bsT T i) := by
    rw [List.mem_append, List.mem_singleton]
    exact ⟨fun h1 => h1.elim id fun h1 => absurd h1 (by omega), .inl⟩
  rw [decide_eq_decide.2 this]
theorem zku (T : List Kept) (i : Nat) : (farL T i).length ≤ T.length := by
  unfold farL bsT
  refine Nat.le_trans (List.length_filter_le _ _) ?_
  rw [List.length_map, List.length_take]; omega
theorem zif (T : List Kept) (i : Nat) {b : Int} (h : 600 < b) : b ∈ farL T i ↔ b ∈ bsT T i := by
  unfold farL; rw [List.mem_filter]; simp [h]
section
variable {s : State}
theorem zl0 (hT : SrtK s.things) (nT : s.things.length ≤ 600) (hR : ∀ k ∈ s.things, k.thing.refs.length ≤ 30) : Lqb (some 20) [.i 0, .i s.width, .i s.now, .i s.given, .i s.births, .l (encK s.things), .l (encP s.pins), .l (encL s.leases)]
    = if (∀ j, 0 ≤ j → j < s.things.length → ∀ i, 0 ≤ i → i < (nth K0 s.things j).thing.refs.length → refIn s.things (nth K0 s.things j).born (nth .empty (nth K0 s.things j).thing.refs i)) then some [.b true] else some [.b false] := by
  refine zp (f := fun i : Nat => Lqb (some 20) [.i (i : Int), .i s.width, .i s.now, .i s.given, .i s.births, .l (encK s.things), .l (encP s.pins), .l (encL s.leases)]) (P := fun j => ∀ i, 0 ≤ i → i < (nth K0 s.things j).thing.refs.length → refIn s.things (nth K0 s.things j).born (nth .empty (nth K0 s.things j).thing.refs i)) (fun i hi => ?_) ?_ 0 (Nat.zero_le _)
  · have hr := hR _ (zk (d := K0) hi)
    have inner := zp (f := fun j : Nat => Lqb (some 23) [.i (i : Int), .i (j : Int), .i s.width, .i s.now, .i s.given, .i s.births, .l (encK s.things), .l (encP s.pins), .l (encL s.leases)])
      (P := fun j => refIn s.things (nth K0 s.things i).born (nth .empty (nth K0 s.things i).thing.refs j)) (n := (nth K0 s.things i).thing.refs.length) (T := Lqb (some 20) [.i ((i + 1 : Nat) : Int), .i s.width, .i s.now, .i s.given, .i s.births, .l (encK s.things), .l (encP s.pins), .l (encL s.leases)]) (F := some [.b false])
      (fun j hj => by
        show (_ → Lqb _ _ = Lqb _ _) ∧ (_ → Lqb _ _ = _)
        rw [eqb_23]
        have hf := zeu (T := s.things) (x := nth .empty (nth K0 s.things i).thing.refs j)
        simp (disch := omega) only [push_cast, zeo s.width s.now s.given s.births s.things (encP s.pins) (encL s.leases) (nth .empty (nth K0 s.things i).thing.refs j) hT (by omega)]
        by_cases c1 : hasT s.things (nth .empty (nth K0 s.things i).thing.refs j)
        rotate_left; · exact ⟨fun h => absurd h.1 c1, fun _ => by have := hf.2 c1; simp (disch := omega) only [push_cast]⟩
        have hl := ((zdr hT _).1 c1).1
        have hfi : findT s.things (nth .empty (nth K0 s.things i).thing.refs j) = (lb (qK (nth .empty (nth K0 s.things i).thing.refs j)) s.things : Int) := if_pos c1
        rw [hfi]
        by_cases c2 : (nth K0 s.things (lb (qK (nth .empty (nth K0 s.things i).thing.refs j)) s.things)).born < (nth K0 s.things i).born
        rotate_left; · exact ⟨fun h => absurd h.2 c2, fun _ => by simp (disch := omega) only [push_cast]⟩
        exact ⟨fun _ => by simp (disch := omega) only [push_cast] <;> rfl, fun h => absurd ⟨c1, c2⟩ h⟩)
      (by show Lqb _ _ = Lqb _ _; rw [eqb_23]; simp (disch := omega) only [push_cast] <;> rfl) 0 (Nat.zero_le _)
    show (_ → Lqb _ _ = Lqb _ _) ∧ (_ → Lqb _ _ = _)
    rw [eqb_20]
    simp (disch := omega) only [push_cast]
    have inner' : Lqb (some 23) [.i (i : Int), .i 0, .i s.width, .i s.now, .i s.given, .i s.births, .l (encK s.things), .l (encP s.pins), .l (encL s.leases)] = _ := inner
    rw [inner']
    exact ⟨fun h => if_pos h, fun h => if_neg h⟩
  · show Lqb _ _ = _
    rw [eqb_20]; simp (disch := omega) only [push_cast]
theorem zkm (nT : s.things.length ≤ 600) (i : Nat) (hi : i < s.things.length) (l : List Int) (hl : l.length ≤ 1000000) (nrw : Rw) (b : Int) (x y : Bs) (z : Rw) :
    Lqb (some 14) [.i (i : Int), .i 0, .i s.width, .i s.now, .i s.given, .i s.births, .l (encK s.things), .l (encP s.pins), .l (encL s.leases), .l nrw, .l (encN l), .s x, .i b, .s y, .l z] =
      if b ∈ l then some [.b false] else Lqb (some 4) [.i ((i + 1 : Nat) : Int), .i s.width, .i s.now, .i s.given, .i s.births, .l (encK s.things), .l (encP s.pins), .l (encL s.leases), .l nrw, .l (encN (l ++ [b]))] := by
  have := zib (f := fun j : Nat => Lqb (some 14) [.i (i : Int), .i (j : Int), .i s.width, .i s.now, .i s.given, .i s.births, .l (encK s.things), .l (encP s.pins), .l (encL s.leases), .l nrw, .l (encN l), .s x, .i b, .s y, .l z]) (0 : Int) (l := l) (p := fun r => r = b) (T := some [.b false])
    (E := Lqb (some 4) [.i ((i + 1 : Nat) : Int), .i s.width, .i s.now, .i s.given, .i s.births, .l (encK s.things), .l (encP s.pins), .l (encL s.leases), .l nrw, .l (encN (l ++ [b]))]) (fun j hj => by
    show Lqb _ _ = cond _ _ (Lqb _ _)
    rw [eqb_14, mostE]; simp (disch := omega) only [push_cast]) (by
    show Lqb _ _ = Lqb _ _
    have : encN (l ++ [b]) = encN l ++ [[.i b]] := by simp [encN]
    rw [eqb_14, mostE, this]; simp (disch := omega) only [push_cast])
  refine Eq.trans this ?_
  by_cases h : b ∈ l
  · rw [if_pos h, if_pos ⟨b, h, rfl⟩]
  · rw [if_neg h, if_neg (by rintro ⟨r, hr, rfl⟩; exact h hr)]
theorem sto_4 (nT : s.things.length ≤ 600) (hb : 0 ≤ s.births ∧ s.births ≤ 1000000000) : Lqb (some 4) [.i 0, .i s.width, .i s.now, .i s.given, .i s.births, .l (encK s.things), .l (encP s.pins), .l (encL s.leases), .l (near s.things 0), .l (encN (farL s.things 0))]
    = if (∀ j, 0 ≤ j → j < s.things.length → tP s.width s.births s.things j) then Lqb (some 20) [.i 0, .i s.width, .i s.now, .i s.given, .i s.births, .l (encK s.things), .l (encP s.pins), .l (encL s.leases)] else some [.b false] := by
  refine zp (f := fun i : Nat => Lqb (some 4) [.i (i : Int), .i s.width, .i s.now, .i s.given, .i s.births, .l (encK s.things), .l (encP s.pins), .l (encL s.leases), .l (near s.things i), .l (encN (farL s.things i))]) (fun i hi => ?_) ?_ 0 (Nat.zero_le _)
  · show (_ → Lqb _ _ = Lqb _ _) ∧ (_ → Lqb _ _ = _)
    have hfl := zku s.things i
    rw [eqb_4]
    by_cases c1 : ThingOk (nth K0 s.things i).thing s.width
    rotate_left
    · refine ⟨fun h => absurd h.ok c1, fun _ => ?_⟩
      have : zr (nth K0 s.things i).thing s.width = false := decide_eq_false c1
      simp (disch := omega) only [push_cast, zb9, this]
    have ht : zr (nth K0 s.things i).thing s.width = true := decide_eq_true c1
    have hz : (formM (nth K0 s.things i).thing).size ≤ 1099511627776 := by
      rw [zg2]; have := zct c1; omega
    have hft : formT (nth K0 s.things i).thing s.width = formM (nth K0 s.things i).thing := if_pos ht
    by_cases c2 : (nth K0 s.things i).sum = sumM (formM (nth K0 s.things i).thing) s.width
    rotate_left
    · refine ⟨fun h => absurd h.sum c2, fun _ => ?_⟩
      simp (disch := omega) only [push_cast, zb9, ht, zc9, hft, zda _ s.width hz]
    have tail : ∀ X : Option Lv, X = (Lql none [.i (nth K0 s.things i).born, .i 1, .i s.births]).bind (fun y4 =>
         cond (!(g y4 0).bool) (some [.b false]) (
         cond (decide ((nth K0 s.things i).born ≤ 600)) (
          cond (inb ((nth K0 s.things i).born) (near s.things i).length) (
           cond ((rd (near s.things i) (((nth K0 s.things i).born).toNat) 0).bool) (some [.b false]) (
            cond (inb ((nth K0 s.things i).born) (near s.things i).length) (
             Lqb (some 4) [.i ((i + 1 : Nat) : Int), .i s.width, .i s.now, .i s.given, .i s.births, .l (encK s.things), .l (encP s.pins), .l (encL s.leases), .l (wrs (near s.things i) (((nth K0 s.things i).born).toNat) 0 ([.b true] : List C)), .l (encN (farL s.things i))]) (none))) (none)) (
          Lqb (some 14) [.i (i : Int), .i 0, .i s.width, .i s.now, .i s.given, .i s.births, .l (encK s.things), .l (encP s.pins), .l (encL s.leases), .l (near s.things i), .l (encN (farL s.things i)), .s (nth K0 s.things i).sum, .i (nth K0 s.things i).born, .s (nth K0 s.things i).thing.text, .l (encS (nth K0 s.things i).thing.refs)]))) →
        (0 < i → slt (nth K0 s.things (i - 1)).sum (nth K0 s.things i).sum = true) →
        (tP s.width s.births s.things i → X = Lqb (some 4) [.i ((i + 1 : Nat) : Int), .i s.width, .i s.now, .i s.given, .i s.births, .l (encK s.things), .l (encP s.pins), .l (encL s.leases), .l (near s.things (i + 1)), .l (encN (farL s.things (i + 1)))]) ∧ (¬ tP s.width s.births s.things i → X = some [.b false]) := by
      rintro X rfl hadj
      by_cases c3 : 1 ≤ (nth K0 s.things i).born ∧ (nth K0 s.things i).born ≤ s.births
      rotate_left; · exact ⟨fun h => absurd ⟨h.lo, h.hi⟩ c3, fun _ => by simp (disch := omega) only [push_cast, zi]⟩
      by_cases c5 : (nth K0 s.things i).born ≤ 600
      · obtain ⟨b, hbb⟩ : ∃ b : Nat, (nth K0 s.things i).born = b := ⟨((nth K0 s.things i).born).toNat, by omega⟩
        have hrd := zj3 s.things i b (by omega)
        by_cases c6 : (nth K0 s.things i).born ∈ bsT s.things i
        · refine ⟨fun h => absurd c6 h.new, fun _ => ?_⟩
          rw [hbb] at c6
          simp (disch := omega) only [push_cast, zi, hbb, hrd, decide_eq_true c6]
        · refine ⟨fun _ => ?_, fun h => absurd ⟨hadj, c1, c2, c3.1, c3.2, c6⟩ h⟩
          have hw := zlm s.things i b hi (by omega) hbb
          rw [far_S _ _ hi, if_neg (by omega), List.append_nil]
          rw [hbb] at c6
          simp (disch := omega) only [push_cast, zi, hbb, hrd, decide_eq_false c6, hw]
      · have h14 := zkm nT i hi (farL s.things i) (by omega) (near s.things i) (nth K0 s.things i).born (nth K0 s.things i).sum (nth K0 s.things i).thing.text (encS (nth K0 s.things i).thing.refs)
        by_cases c6 : (nth K0 s.things i).born ∈ bsT s.things i
        · refine ⟨fun h => absurd c6 h.new, fun _ => ?_⟩
          rw [if_pos ((zif _ _ (by omega)).2 c6)] at h14
          simp (disch := omega) only [push_cast, zi]
          exact h14
        · refine ⟨fun _ => ?_, fun h => absurd ⟨hadj, c1, c2, c3.1, c3.2, c6⟩ h⟩
          rw [if_neg (fun h => c6 ((zif _ _ (by omega)).1 h))] at h14
          rw [far_S _ _ hi, if_pos (by omega), zl6 _ _ hi (by omega)]
          simp (disch := omega) only [push_cast, zi]
          exact h14
    by_cases c0 : 0 < i
    · cases c4 : slt (nth K0 s.things (i - 1)).sum (nth K0 s.things i).sum
      · exact ⟨fun h => absurd (h.adj c0) (by simp [c4]), fun _ => by simp (disch := omega) only [push_cast, zb9, ht, zc9, hft, zda _ s.width hz, ← c2, c4]⟩
      · refine tail _ ?_ (fun _ => c4)
        simp (disch := omega) only [push_cast, zb9, ht, zc9, hft, zda _ s.width hz, ← c2, c4]
    · refine tail _ ?_ (fun h => absurd h c0)
      simp (disch := omega) only [push_cast, zb9, ht, zc9, hft, zda _ s.width hz, ← c2]
  · show Lqb _ _ = _
    rw [eqb_4]; simp (disch := omega) only [push_cast]
theorem zkb (hn : 0 ≤ s.now ∧ s.now ≤ 1000000000) (hT : SrtK s.things) (nT : s.things.length ≤ 600) (nL : s.leases.length ≤ 200) : Lqc (some 11) [.i 0, .i s.width, .i s.now, .i s.given, .i s.births, .l (encK s.things), .l (encP s.pins), .l (encL s.leases)]
    = if (∀ j, 0 ≤ j → j < s.leases.length → lP s.now s.given s.things s.leases j) then some [.b true] else some [.b false] := by
  refine zp (f := fun i : Nat => Lqc (some 11) [.i (i : Int), .i s.width, .i s.now, .i s.given, .i s.births, .l (encK s.things), .l (encP s.pins), .l (encL s.leases)]) (fun i hi => ?_) ?_ 0 (Nat.zero_le _)
  · show (_ → Lqc _ _ = Lqc _ _) ∧ (_ → Lqc _ _ = _)
    rw [eqc_11]
    have hf := zeu (T := s.things) (x := (nth L0 s.leases i).sum)
    have hfe := zeo s.width s.now s.given s.births s.things (encP s.pins) (encL s.leases) (nth L0 s.leases i).sum hT (by omega)
    by_cases c2 : 1 ≤ (nth L0 s.leases i).number ∧ (nth L0 s.leases i).number ≤ s.given
    rotate_left; · exact ⟨fun h => absurd ⟨h.lo, h.hi⟩ c2, fun _ => by simp (disch := omega) only [push_cast, zi]⟩
    by_cases c0 : 0 < i
    · by_cases c4 : (nth L0 s.leases (i - 1)).number < (nth L0 s.leases i).number
      rotate_left; · exact ⟨fun h => absurd (h.adj c0) c4, fun _ => by simp (disch := omega) only [push_cast, zi]⟩
      by_cases c1 : hasT s.things (nth L0 s.leases i).sum
      rotate_left; · exact ⟨fun h => absurd h.has c1, fun _ => by have := hf.2 c1; simp (disch := omega) only [push_cast, zi, hfe]⟩
      have c1' : ¬ findT s.things (nth L0 s.leases i).sum < 0 := fun h => hf.1 h c1
      by_cases c5 : s.now < (nth L0 s.leases i).till
      rotate_left; · exact ⟨fun h => absurd h.t1 c5, fun _ => by simp (disch := omega) only [push_cast, zi, hfe]⟩
      by_cases c6 : (nth L0 s.leases i).till ≤ s.now + 100000
      rotate_left; · exact ⟨fun h => absurd h.t2 c6, fun _ => by simp (disch := omega) only [push_cast, zi, hfe]⟩
      exact ⟨fun _ => by simp (disch := omega) only [push_cast, zi, hfe] <;> rfl, fun h => absurd ⟨c1, c2.1, c2.2, fun _ => c4, c5, c6⟩ h⟩
    · by_cases c1 : hasT s.things (nth L0 s.leases i).sum
      rotate_left; · exact ⟨fun h => absurd h.has c1, fun _ => by have := hf.2 c1; simp (disch := omega) only [push_cast, zi, hfe]⟩
      have c1' : ¬ findT s.things (nth L0 s.leases i).sum < 0 := fun h => hf.1 h c1
      by_cases c5 : s.now < (nth L0 s.leases i).till
      rotate_left; · exact ⟨fun h => absurd h.t1 c5, fun _ => by simp (disch := omega) only [push_cast, zi, hfe]⟩
      by_cases c6 : (nth L0 s.leases i).till ≤ s.now + 100000
      rotate_left; · exact ⟨fun h => absurd h.t2 c6, fun _ => by simp (disch := omega) only [push_cast, zi, hfe]⟩
      exact ⟨fun _ => by simp (disch := omega) only [push_cast, zi, hfe] <;> rfl, fun h => absurd ⟨c1, c2.1, c2.2, fun h => absurd h c0, c5, c6⟩ h⟩
  · show Lqc _ _ = _
    rw [eqc_11]; simp (disch := omega) only [push_cast]
theorem svs_6 (hT : SrtK s.things) (nT : s.things.length ≤ 600) (nP : s.pins.length ≤ 100) (hN : ∀ p ∈ s.pins, p.name.size ≤ 4611686018427387904) : Lqc (some 6) [.i 0, .i s.width, .i s.now, .i s.given, .i s.births, .l (encK s.things), .l (encP s.pins), .l (encL s.leases)]
    = if (∀ j, 0 ≤ j → j < s.pins.length → pP s.things s.pins j) then Lqc (some 11) [.i 0, .i s.width, .i s.now, .i s.given, .i s.births, .l (encK s.things), .l (encP s.pins), .l (encL s.leases)] else some [.b false] := by
  refine zp (f := fun i : Nat => Lqc (some 6) [.i (i : Int), .i s.width, .i s.now, .i s.given, .i s.births, .l (encK s.things), .l (encP s.pins), .l (encL s.leases)]) (fun i hi => ?_) ?_ 0 (Nat.zero_le _)
  · show (_ → Lqc _ _ = Lqc _ _) ∧ (_ → Lqc _ _ = _)
    rw [eqc_6]
    have hf := zeu (T := s.things) (x := (nth P0 s.pins i).sum)
    have hfe := zeo s.width s.now s.given s.births s.things (encP s.pins) (encL s.leases) (nth P0 s.pins i).sum hT (by omega)
    have hne := zjv (nth P0 s.pins i).name (hN _ (zk hi))
    unfold nameB at hne
    by_cases c2 : NameOk (nth P0 s.pins i).name
    rotate_left; · exact ⟨fun h => absurd h.nm c2, fun _ => by simp (disch := omega) only [push_cast, hne]⟩
    by_cases c0 : 0 < i
    · cases c4 : slt (nth P0 s.pins (i - 1)).name (nth P0 s.pins i).name
      · exact ⟨fun h => absurd (h.adj c0) (by simp [c4]), fun _ => by simp (disch := omega) only [push_cast, hne, c4]⟩
      · by_cases c1 : hasT s.things (nth P0 s.pins i).sum
        rotate_left; · exact ⟨fun h => absurd h.has c1, fun _ => by have := hf.2 c1; simp (disch := omega) only [push_cast, hne, c4, hfe]⟩
        have c1' : ¬ findT s.things (nth P0 s.pins i).sum < 0 := fun h => hf.1 h c1
        exact ⟨fun _ => by simp (disch := omega) only [push_cast, hne, c4, hfe] <;> rfl, fun h => absurd ⟨c1, c2, fun _ => c4⟩ h⟩
    · by_cases c1 : hasT s.things (nth P0 s.pins i).sum
      rotate_left; · exact ⟨fun h => absurd h.has c1, fun _ => by have := hf.2 c1; simp (disch := omega) only [push_cast, hne, hfe]⟩
      have c1' : ¬ findT s.things (nth P0 s.pins i).sum < 0 := fun h => hf.1 h c1
      exact ⟨fun _ => by simp (disch := omega) only [push_cast, hne, hfe] <;> rfl, fun h => absurd ⟨c1, c2, fun h => absurd h c0⟩ h⟩
  · show Lqc _ _ = _
    rw [eqc_6]; simp (disch := omega) only [push_cast]
theorem zio (T : List Kept) : List.replicate 601 ([.b false] : List C) = near T 0 := by
  unfold near bsT
  simp only [List.take_zero, List.map_nil, List.not_mem_nil, decide_false]
  rw [List.map_const', List.length_range]
theorem zls (s : State) (hN : ∀ p ∈ s.pins, p.name.size ≤ 4611686018427387904) : Lqc none (encSt s) = some [.b (decide (VS s))] := by
  unfold encSt
  rw [eqc_i]
  have hv := zh5 s
  by_cases h1 : 1 ≤ s.width ∧ s.width ≤ 8
  rotate_left; · rw [decide_eq_false fun V : VS s => h1 V.wd]; have : zj s.width = false := by cases h : zj s.width; { rfl }; { exact absurd (zbb.1 h) h1 }
                 simp (disch := omega) only [push_cast, z8, this]
  have hw : zj s.width = true := zbb.2 h1
  by_cases h2 : 0 ≤ s.now ∧ s.now ≤ 1000000000
  rotate_left; · rw [decide_eq_false fun V : VS s => h2 V.now]; simp (disch := omega) only [push_cast, z8, hw, zi]
  by_cases h3 : 0 ≤ s.given ∧ s.given ≤ 1000000000
  rotate_left; · rw [decide_eq_false fun V : VS s => h3 V.given]; simp (disch := omega) only [push_cast, z8, hw, zi]
  by_cases h4 : 0 ≤ s.births ∧ s.births ≤ 1000000000
  rotate_left; · rw [decide_eq_false fun V : VS s => h4 V.births]; simp (disch := omega) only [push_cast, z8, hw, zi]
  by_cases h5 : s.things.length ≤ 600
  rotate_left; · rw [decide_eq_false fun V : VS s => h5 V.nT]; simp (disch := omega) only [push_cast, z8, hw, zi]
  by_cases h6 : s.pins.length ≤ 100
  rotate_left; · rw [decide_eq_false fun V : VS s => h6 V.nP]; simp (disch := omega) only [push_cast, z8, hw, zi]
  by_cases h7 : s.leases.length ≤ 200
  rotate_left; · rw [decide_eq_false fun V : VS s => h7 V.nL]; simp (disch := omega) only [push_cast, z8, hw, zi]
  have hto : Lqb none [.i s.width, .i s.now, .i s.given, .i s.births, .l (encK s.things), .l (encP s.pins), .l (encL s.leases)] = _ := (eqb_i _ _ _ _ _ _ _).trans ((by rw [zio s.things]; rfl : _ = Lqb (some 4) [.i 0, .i s.width, .i s.now, .i s.given, .i s.births, .l (encK s.things), .l (encP s.pins), .l (encL s.leases), .l (near s.things 0), .l (encN (farL s.things 0))]).trans (sto_4 h5 h4))
  by_cases h8 : ∀ j, 0 ≤ j → j < s.things.length → tP s.width s.births s.things j
  rotate_left; · rw [if_neg h8] at hto; rw [decide_eq_false fun V : VS s => h8 (hv.1 V).2.2.2.2.2.2.2.1]; simp (disch := omega) only [push_cast, z8, hw, zi, hto]
  have hs := (zen _ _ _).1 h8
  rw [if_pos h8, zl0 hs.1 h5 fun k hk => (hs.2.1 k hk).1.refs] at hto
  by_cases h9 : ∀ j, 0 ≤ j → j < s.things.length → ∀ i, 0 ≤ i → i < (nth K0 s.things j).thing.refs.length → refIn s.things (nth K0 s.things j).born (nth .empty (nth K0 s.things j).thing.refs i)
  rotate_left; · rw [if_neg h9] at hto; rw [decide_eq_false fun V : VS s => h9 (hv.1 V).2.2.2.2.2.2.2.2.1]; simp (disch := omega) only [push_cast, z8, hw, zi, hto]
  rw [if_pos h9] at hto
  simp (disch := omega) only [push_cast, z8, hw, zi, hto, svs_6 hs.1 h5 h6 hN]
  by_cases h10 : ∀ j, 0 ≤ j → j < s.pins.length → pP s.things s.pins j
  rotate_left; · rw [if_neg h10, decide_eq_false fun V : VS s => h10 (hv.1 V).2.2.2.2.2.2.2.2.2.1]
  rw [if_pos h10, zkb h2 hs.1 h5 h7]
  by_cases h11 : ∀ j, 0 ≤ j → j < s.leases.length → lP s.now s.given s.things s.leases j
  rotate_left; · rw [if_neg h11, decide_eq_false fun V : VS s => h11 (hv.1 V).2.2.2.2.2.2.2.2.2.2]
  rw [if_pos h11, decide_eq_true (hv.2 ⟨h1, h2, h3, h4, h5, h6, h7, h8, h9, h10, h11⟩)]
end
end KV
end
section
namespace KV
open Go Go.Eng
open Classical
inductive Rch (T : List Kept) (F : List Bs) : Bs → Prop where
  | base (x : Bs) (h : x ∈ F) : Rch T F x
  | ref (k : Kept) (x : Bs) (hk : k ∈ T) (h : Rch T F k.sum) (hx : x ∈ k.thing.refs) : Rch T F x
def Liv (s : State) (x : Bs) : Prop := Rch s.things (zfe s) x
end KV
end
section
namespace KV
open Go Go.Eng
open Classical
theorem zi4 {s : State} {x : Bs} : x ∈ zfe s ↔ held s x := by
  unfold zfe held
  rw [zfz, zfz]
  simp only [List.mem_map, List.not_mem_nil, false_or]
structure CR (s : State) (r : Round) : Prop where
  t1 : ∀ x, held s x → x ∈ r.marked ∨ x ∈ r.queue
  t2 : ∀ k ∈ s.things, k.sum ∈ r.marked → ∀ y ∈ k.thing.refs, y ∈ r.marked ∨ y ∈ r.queue
  t3 : ∀ k ∈ s.things, r.at_ ≤ k.born → k.sum ∈ r.marked ∨ k.sum ∈ r.queue
  lm : ∀ x ∈ r.marked, Liv s x
  lq : ∀ x ∈ r.queue, Liv s x
theorem CR.all {s : State} {r : Round} (h : CR s r) (hq : r.queue = []) (V : VS s) {x : Bs} (hx : Liv s x) : x ∈ r.marked := by
  induction hx with
  | base x hx => have := h.t1 x (zi4.1 hx); rw [hq] at this; exact this.resolve_right (fun h => nomatch h)
  | ref k x hk h1 hx ih => have := h.t2 k hk ih x hx; rw [hq] at this; exact this.resolve_right (fun h => nomatch h)
structure UK (s s' : State) : Prop where
  ints : s'.width = s.width ∧ s'.births = s.births ∧ s'.now = s.now ∧ s'.given = s.given
  pins : s'.pins = s.pins
  leases : s'.leases = s.leases
  sub : s'.things.Sublist s.things
  liv : ∀ x, Liv s' x ↔ Liv s x
theorem UK.trans {a b c : State} (h : UK a b) (k : UK b c) : UK a c := by
  obtain ⟨a1, a2, a3, a4⟩ := h.ints
  obtain ⟨b1, b2, b3, b4⟩ := k.ints
  exact ⟨⟨b1.trans a1, b2.trans a2, b3.trans a3, b4.trans a4⟩, k.pins.trans h.pins, k.leases.trans h.leases, k.sub.trans h.sub, fun x => (k.liv x).trans (h.liv x)⟩
end KV
end
section
namespace KV
open Go Go.Eng
open Classical
theorem zk7 {s : State} (hN : ∀ p ∈ s.pins, p.name.size ≤ 4611686018427387904) (r : Round) : Lq8 none (encSt s ++ encR r) = some [.b (decide (VS s ∧ RoundOk s.width s.births r))] := by
  show Lq8 none [.i s.width, .i s.now, .i s.given, .i s.births, .l (encK s.things), .l (encP s.pins), .l (encL s.leases), .i r.phase, .l (encS r.queue), .l (encS r.marked), .i r.top, .i r.at_, .i r.rounds] = _
  have h1 := zls s hN
  unfold encSt at h1
  rw [eq8_i, h1]
  by_cases V : VS s
  · have h2 := zkq s r V.births
    have h2' : Lqd none [.i s.width, .i s.now, .i s.given, .i s.births, .l (encK s.things), .l (encP s.pins), .l (encL s.leases), .i r.phase, .l (encS r.queue), .l (encS r.marked), .i r.top, .i r.at_, .i r.rounds] = _ := h2
    rw [decide_eq_true V]
    simp (disch := omega) only [push_cast, h2']
    congr 3
    exact decide_eq_decide.2 ⟨fun h => ⟨V, h⟩, fun h => h.2⟩
  · rw [decide_eq_false V, decide_eq_false (p := VS s ∧ RoundOk s.width s.births r) fun h => V h.1]; simp (disch := omega) only [push_cast]
end KV
end
section
namespace KV
open Go Go.Eng
open Classical
theorem zkw {s : State} (hN : ∀ p ∈ s.pins, p.name.size ≤ 4611686018427387904) (r : Round) : Lqbi none [.i s.width, .i s.now, .i s.given, .i s.births, .l (encK s.things), .l (encP s.pins), .l (encL s.leases), .i r.phase, .l (encS r.queue), .l (encS r.marked), .i r.top, .i r.at_, .i r.rounds] = some [.b (decide (VS s ∧ RoundOk s.width s.births r))] := by
  have h1 := zk2 s hN
  unfold encSt at h1
  rw [eqbi_i, h1]
  by_cases V : VS s
  · have h2 : Lqe none [.i r.phase, .l (encS r.queue), .l (encS r.marked), .i r.top, .i r.at_, .i r.rounds, .i s.width, .i s.now, .i s.given, .i s.births, .l (encK s.things), .l (encP s.pins), .l (encL s.leases)] = _ := zjk s r V.births
    rw [decide_eq_true V]
    simp (disch := omega) only [push_cast, h2]
    congr 3
    exact decide_eq_decide.2 ⟨fun h => ⟨V, h⟩, fun h => h.2⟩
  · rw [decide_eq_false V, decide_eq_false (p := VS s ∧ RoundOk s.width s.births r) fun h => V h.1]; simp (disch := omega) only [push_cast]
end KV
end
section
namespace KV
open Go Go.Eng
open Classical
theorem zis (s : State) (r : Round) (B : BigS s) (Br : BigL r.queue ∧ BigL r.marked) : Lqbt none [.i s.width, .i s.now, .i s.given, .i s.births, .l (encK s.things), .l (encP s.pins), .l (encL s.leases), .i r.phase, .l (encS r.queue), .l (encS r.marked), .i r.top, .i r.at_, .i r.rounds] = some [.b true] := by
  rw [eqbt_i]
  obtain ⟨y, y1, y2, y3⟩ := zk1 s B 1048576 (by omega) (by omega)
  by_cases hy : y < 0
  · simp (disch := omega) only [push_cast, y1]
  have H := y3 (by omega)
  obtain ⟨z, z1, z2, z3⟩ := zl5 r Br y (by omega) (by omega)
  by_cases hz : z < 0
  · simp (disch := omega) only [push_cast, y1, z1]
  have R := z3 (by omega)
  have h1 : Lq8 none [.i s.width, .i s.now, .i s.given, .i s.births, .l (encK s.things), .l (encP s.pins), .l (encL s.leases), .i r.phase, .l (encS r.queue), .l (encS r.marked), .i r.top, .i r.at_, .i r.rounds] = _ := zk7 H.names r
  have h2 := zkw H.names r
  generalize decide (VS s ∧ RoundOk s.width s.births r) = b at h1 h2
  cases b <;> simp (disch := omega) only [push_cast, y1, z1, zjl H, zly R, h1, h2, H.eq, ziy r.phase r.top r.at_ r.rounds (encS r.queue) (encS r.marked) (by rw [zw]; omega) (by rw [zw]; omega)] <;> rfl
end KV
end
