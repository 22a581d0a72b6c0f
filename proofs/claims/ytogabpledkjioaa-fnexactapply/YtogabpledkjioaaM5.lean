/- Plain laws over the walks' closed forms. -/
import Derived.IntWalk
import Derived.WideShapes
import Derived.Laws.Strings
import Derived.Test.YtogabpledkjioaaM1
import Derived.Test.YtogabpledkjioaaM2
import Derived.Test.YtogabpledkjioaaM3
import Derived.Test.YtogabpledkjioaaM4
set_option linter.unusedSimpArgs false
set_option linter.unusedVariables false
set_option linter.unusedSectionVars false
section
namespace KV
open Go Go.Eng
abbrev Bs := ByteArray
theorem w64 {n : Int} (h : -9223372036854775808 ≤ n ∧ n ≤ 9223372036854775807) : IntKind.i64.wrap n = n := IntWalk.i64_in n h
theorem w8 {n : Int} (h : 0 ≤ n ∧ n ≤ 255) : IntKind.u8.wrap n = n := IntWalk.u8_in n h
theorem inb_f {i : Int} {n : Nat} (h : i < 0 ∨ (n : Int) ≤ i) : inb i n = false := by
  simp only [inb, Bool.and_eq_false_iff, decide_eq_false_iff_not]; omega
theorem dlt_f {i n : Nat} (h : n ≤ i) : decide ((i : Int) < (n : Int)) = false := by simp; omega
theorem zl3 (x y : Bs) : Eng.seq x y = decide (x = y) := by
  unfold Eng.seq
  rw [ByteArray.toList_eq, ByteArray.toList_eq]
  by_cases h : x = y
  · subst h; simp
  · simp only [h, decide_false, beq_eq_false_iff_ne]
    exact fun e => h (Go.WideShapes.bytes_inj e)
theorem zjs : ∀ x : List UInt8, Op.bytesLess x x = false
  | [] => rfl
  | a :: x => by simp [Op.bytesLess, zjs x]
theorem zjh : ∀ {x y z : List UInt8}, Op.bytesLess x y = true → Op.bytesLess y z = true → Op.bytesLess x z = true
  | [], [], _, h, _ => by simp [Op.bytesLess] at h
  | [], _ :: _, [], _, h => by simp [Op.bytesLess] at h
  | [], _ :: _, _ :: _, _, _ => rfl
  | _ :: _, [], _, h, _ => by simp [Op.bytesLess] at h
  | _ :: _, _ :: _, [], _, h => by simp [Op.bytesLess] at h
  | a :: x, b :: y, c :: z, h, k => by
    simp only [Op.bytesLess, Bool.or_eq_true, decide_eq_true_eq, Bool.and_eq_true, beq_iff_eq] at h k ⊢
    rcases h with h | ⟨rfl, h⟩ <;> rcases k with k | ⟨rfl, k⟩
    · exact .inl (UInt8.lt_trans h k)
    · exact .inl h
    · exact .inl k
    · exact .inr ⟨rfl, zjh h k⟩
theorem zjp : ∀ (x y : List UInt8), Op.bytesLess x y = true ∨ x = y ∨ Op.bytesLess y x = true
  | [], [] => .inr (.inl rfl)
  | [], _ :: _ => .inl rfl
  | _ :: _, [] => .inr (.inr rfl)
  | a :: x, b :: y => by
    simp only [Op.bytesLess, Bool.or_eq_true, decide_eq_true_eq, Bool.and_eq_true, beq_iff_eq, List.cons.injEq]
    rcases zjp x y with h | h | h
    · rcases Nat.lt_trichotomy a.toNat b.toNat with k | k | k
      · exact .inl (.inl (UInt8.lt_iff_toNat_lt.2 k))
      · exact .inl (.inr ⟨UInt8.toNat_inj.1 k, h⟩)
      · exact .inr (.inr (.inl (UInt8.lt_iff_toNat_lt.2 k)))
    · rcases Nat.lt_trichotomy a.toNat b.toNat with k | k | k
      · exact .inl (.inl (UInt8.lt_iff_toNat_lt.2 k))
      · exact .inr (.inl ⟨UInt8.toNat_inj.1 k, h⟩)
      · exact .inr (.inr (.inl (UInt8.lt_iff_toNat_lt.2 k)))
    · rcases Nat.lt_trichotomy a.toNat b.toNat with k | k | k
      · exact .inl (.inl (UInt8.lt_iff_toNat_lt.2 k))
      · exact .inr (.inr (.inr ⟨(UInt8.toNat_inj.1 k).symm, h⟩))
      · exact .inr (.inr (.inl (UInt8.lt_iff_toNat_lt.2 k)))
theorem zdy (x : Bs) : slt x x = false := zjs _
theorem zb1 {x y z : Bs} (h : slt x y = true) (k : slt y z = true) : slt x z = true := zjh h k
theorem zl6 (x y : Bs) : slt x y = true ∨ x = y ∨ slt y x = true := by
  rcases zjp x.toList y.toList with h | h | h
  · exact .inl h
  · rw [ByteArray.toList_eq, ByteArray.toList_eq] at h; exact .inr (.inl (Go.WideShapes.bytes_inj h))
  · exact .inr (.inr h)
theorem zm3 {x y : Bs} (h : slt x y = true) : x ≠ y := fun e => by rw [e, zdy] at h; cases h
theorem znm {x y : Bs} (h : slt x y = true) : slt y x = false := by
  cases k : slt y x
  · rfl
  · have := zb1 h k; rw [zdy] at this; cases this
theorem zhl {x y : Bs} : slt x y = false ↔ x = y ∨ slt y x = true := by
  constructor
  · intro h; rcases zl6 x y with k | k | k
    · rw [h] at k; cases k
    · exact .inl k
    · exact .inr k
  · rintro (rfl | h)
    · exact zdy _
    · exact znm h
theorem zfp {α : Type} (f : α → List C) (l : List α) (i o : Nat) (h : i < l.length) : rd (l.map f) i o = (f l[i]).getD o (.i 0) := by
  simp [rd, List.getD_eq_getElem?_getD, h]
theorem ze7 {α : Type} (f : α → List C) (l : List α) (a b : Nat) : Eng.sub (l.map f) a b = ((l.drop a).take (b - a)).map f := by
  simp [Eng.sub, List.map_take, List.map_drop]
def encS (l : List Bs) : Rw := l.map fun s => [.s s]
theorem zr (l : List Bs) : (encS l).length = l.length := by simp [encS]
@[push_cast] theorem cpos {p : Prop} [Decidable p] {α : Type} {a b : α} (h : p) : cond (decide p) a b = a := by simp [h]
@[push_cast] theorem cneg {p : Prop} [Decidable p] {α : Type} {a b : α} (h : ¬ p) : cond (decide p) a b = b := by simp [h]
@[push_cast] theorem cnot {α : Type} (c : Bool) (a b : α) : cond (!c) a b = cond c b a := by cases c <;> rfl
attribute [push_cast] cond_true cond_false Option.bind_some Option.bind_none Int.toNat_natCast
@[push_cast] theorem notT : (!true) = false := Eq.trans rfl rfl
@[push_cast] theorem notF : (!false) = true := Eq.trans rfl rfl
@[push_cast] theorem g0 (a : Lf) (l : List Lf) : g (a :: l) 0 = a := Eq.trans rfl rfl
@[push_cast] theorem g1 (a b : Lf) (l : List Lf) : g (a :: b :: l) 1 = b := Eq.trans rfl rfl
@[push_cast] theorem g2 (a b c : Lf) (l : List Lf) : g (a :: b :: c :: l) 2 = c := Eq.trans rfl rfl
@[push_cast] theorem g3 (a b c d : Lf) (l : List Lf) : g (a :: b :: c :: d :: l) 3 = d := Eq.trans rfl rfl
@[push_cast] theorem g4 (a b c d e : Lf) (l : List Lf) : g (a :: b :: c :: d :: e :: l) 4 = e := Eq.trans rfl rfl
@[push_cast] theorem g5 (a b c d e f : Lf) (l : List Lf) : g (a :: b :: c :: d :: e :: f :: l) 5 = f := Eq.trans rfl rfl
@[push_cast] theorem g6 (a b c d e f h : Lf) (l : List Lf) : g (a :: b :: c :: d :: e :: f :: h :: l) 6 = h := Eq.trans rfl rfl
@[push_cast] theorem gS (a b c d e f h : Lf) (l : List Lf) (n : Nat) : g (a :: b :: c :: d :: e :: f :: h :: l) (n + 7) = g l n := Eq.trans rfl rfl
@[push_cast] theorem lfI (n : Int) : (Lf.i n).int = n := Eq.trans rfl rfl
@[push_cast] theorem lfB (n : Bool) : (Lf.b n).bool = n := Eq.trans rfl rfl
@[push_cast] theorem lfS (n : ByteArray) : (Lf.s n).str = n := Eq.trans rfl rfl
@[push_cast] theorem lfL (n : Rw) : (Lf.l n).list = n := Eq.trans rfl rfl
@[push_cast] theorem lfM (n : List (C × C)) : (Lf.m n).map = n := Eq.trans rfl rfl
attribute [push_cast] w64 w8
@[push_cast] theorem inbp {i : Int} {n : Nat} (h : 0 ≤ i ∧ i < (n : Int)) : inb i n = true := by simp [inb, h]
@[push_cast] theorem inbn {i : Int} {n : Nat} (h : ¬ (0 ≤ i ∧ i < (n : Int))) : inb i n = false := inb_f (by omega)
@[push_cast] theorem tnA (i : Nat) : ((i : Int) + 1).toNat = i + 1 := by omega
@[push_cast] theorem tnM (i : Nat) : ((i : Int) - 1).toNat = i - 1 := by omega
@[push_cast] theorem bneI (a b : Int) : (a != b) = !decide (a = b) := by
  by_cases h : a = b
  · subst h; simp
  · simp [h]
@[push_cast] theorem beqI (a b : Int) : (a == b) = decide (a = b) := by
  by_cases h : a = b
  · subst h; simp
  · simp [h]
attribute [push_cast] zl3 zr
@[push_cast] theorem lenC {α : Type} (a : α) (l : List α) : (a :: l).length = l.length + 1 := Eq.trans rfl rfl
@[push_cast] theorem lenN {α : Type} : ([] : List α).length = 0 := Eq.trans rfl rfl
@[push_cast] theorem ifT {α : Type} (a b : α) : (if True then a else b) = a := if_pos trivial
@[push_cast] theorem ifF {α : Type} (a b : α) : (if False then a else b) = b := if_neg id
@[push_cast] theorem ftE : (false = true) = False := by simp
attribute [push_cast] eq_self
@[push_cast] theorem decT [Decidable True] : decide True = true := by simp
@[push_cast] theorem decF [Decidable False] : decide False = false := by simp
def nth {α : Type} (d : α) (l : List α) (i : Nat) : α := l.getD i d
theorem ze5 {α : Type} (d x : α) (l : List α) : nth d (x :: l) 0 = x := rfl
theorem zc5 {α : Type} (d x : α) (l : List α) (i : Nat) : nth d (x :: l) (i + 1) = nth d l i := rfl
theorem zn {α : Type} (d : α) (l : List α) (i : Nat) (h : i < l.length) : nth d l i = l[i] := by
  unfold nth; rw [List.getD_eq_getElem?_getD, List.getElem?_eq_getElem h]; rfl
theorem zo3 {α : Type} {d : α} {l : List α} {i : Nat} (h : i < l.length) : l[i]? = some (nth d l i) := by
  rw [zn d l i h, List.getElem?_eq_getElem h]
theorem zl {α : Type} {l : List α} {i : Nat} {d : α} (h : i < l.length) : nth d l i ∈ l := by
  rw [zn d l i h]; exact List.getElem_mem h
theorem zb0 {α : Type} {l : List α} {x : α} (d : α) (h : x ∈ l) : ∃ i, i < l.length ∧ nth d l i = x := by
  obtain ⟨i, h1, h2⟩ := List.mem_iff_getElem.1 h
  exact ⟨i, h1, by rw [zn d l i h1]; exact h2⟩
theorem zdo {α : Type} (d : α) {l : List α} {i : Nat} (h : i < l.length) : l.drop i = nth d l i :: l.drop (i + 1) := by
  rw [List.drop_eq_getElem_cons h, zn d l i h]
theorem zba {α : Type} (d : α) {l : List α} {i : Nat} (h : i < l.length) : l.take (i + 1) = l.take i ++ [nth d l i] := by
  rw [List.take_add_one, zo3 (d := d) h]; rfl
theorem zjf {α : Type} (f : α → List C) (d : α) (l : List α) (i o : Nat) (h : i < l.length) : rd (l.map f) i o = (f (nth d l i)).getD o (.i 0) := by
  rw [zfp f l i o h, zn d l i h]
theorem zfh {α : Type} (f : α → List C) (l : List α) (i o : Nat) (h : l.length ≤ i) : rd (l.map f) i o = .i 0 := by
  have : (l.map f).getD i [] = [] := by
    rw [List.getD_eq_getElem?_getD, List.getElem?_eq_none (by simpa using h)]; rfl
  unfold rd
  rw [this]; rfl
@[push_cast] theorem zpx (l : List Bs) (i : Nat) : (rd (encS l) i 0).str = nth .empty l i := by
  rcases Nat.lt_or_ge i l.length with h | h
  · rw [encS, zjf _ .empty _ _ _ h]; rfl
  · rw [encS, zfh _ _ _ _ h, nth, List.getD_eq_getElem?_getD, List.getElem?_eq_none h]; rfl
end KV
end
section

end
section
namespace KV
open Go Go.Eng
open Classical in
theorem z9 {β : Type} {f : Nat → β} {P : Nat → Prop} {n : Nat} {T F : β} (step : ∀ i, i < n → (P i → f i = f (i + 1)) ∧ (¬ P i → f i = F)) (last : f n = T) :
    ∀ i, i ≤ n → f i = if (∀ j, i ≤ j → j < n → P j) then T else F := by
  intro i hi
  generalize hk : n - i = k
  induction k generalizing i with
  | zero =>
    have : i = n := by omega
    subst this
    rw [if_pos (fun j h1 h2 => absurd h2 (by omega)), last]
  | succ k ih =>
    have hlt : i < n := by omega
    by_cases h : P i
    · rw [(step i hlt).1 h, ih (i + 1) (by omega) (by omega)]
      by_cases h2 : ∀ j, i + 1 ≤ j → j < n → P j
      · rw [if_pos h2, if_pos fun j h3 h4 => by
          rcases Nat.eq_or_lt_of_le h3 with rfl | h5
          · exact h
          · exact h2 j h5 h4]
      · rw [if_neg h2, if_neg fun h3 => h2 fun j h4 h5 => h3 j (by omega) h5]
    · rw [(step i hlt).2 h, if_neg fun h3 => h (h3 i (Nat.le_refl _) hlt)]
theorem zgv {β σ : Type} {f : Nat → σ → β} {g : Nat → σ → σ} {n : Nat} (step : ∀ i s, i < n → f i s = f (i + 1) (g i s)) :
    ∀ i, i ≤ n → ∀ s, f i s = f n ((List.range' i (n - i)).foldl (fun s i => g i s) s) := by
  intro i hi
  generalize hk : n - i = k
  induction k generalizing i with
  | zero =>
    intro s
    have : i = n := by omega
    subst this; rfl
  | succ k ih =>
    intro s
    rw [step i s (by omega), ih (i + 1) (by omega) (by omega)]
    rfl
theorem zy {β σ : Type} {f : Nat → σ → β} {I : Nat → σ → Prop} {n : Nat} {T : β} (step : ∀ i s, i < n → I i s → ∃ s', f i s = f (i + 1) s' ∧ I (i + 1) s') (last : ∀ s, I n s → f n s = T) :
    ∀ i s, i ≤ n → I i s → f i s = T := by
  intro i s hi
  generalize hk : n - i = k
  induction k generalizing i s with
  | zero =>
    intro h
    have : i = n := by omega
    subst this; exact last s h
  | succ k ih =>
    intro h
    obtain ⟨s', h1, h2⟩ := step i s (by omega) h
    rw [h1]; exact ih (i + 1) s' (by omega) (by omega) h2
theorem zb3 {β σ : Type} {f : Nat → σ → β} {I : Nat → σ → Prop} {n : Nat} {T : β → Prop} (step : ∀ i s, i < n → I i s → (∃ s', f i s = f (i + 1) s' ∧ I (i + 1) s') ∨ T (f i s)) (last : ∀ s, I n s → T (f n s)) :
    ∀ i s, i ≤ n → I i s → T (f i s) := by
  intro i s hi
  generalize hk : n - i = k
  induction k generalizing i s with
  | zero =>
    intro h
    have : i = n := by omega
    subst this; exact last s h
  | succ k ih =>
    intro h
    rcases step i s (by omega) h with ⟨s', h1, h2⟩ | h1
    · rw [h1]; exact ih (i + 1) s' (by omega) (by omega) h2
    · exact h1
theorem zcl (xs ys : Rw) : bytesOf (xs ++ ys) = bytesOf xs ++ bytesOf ys := by
  apply Go.WideShapes.bytes_inj
  simp [bytesOf, ByteArray.data_append]
theorem ziq (s : Bs) : bytesOf (rowsOf s) = s := by
  apply Go.WideShapes.bytes_inj
  simp only [bytesOf, rowsOf, List.map_map]
  rw [show ((fun r : List C => UInt8.ofNat (r.getD 0 (.i 0)).int.toNat) ∘ fun b : UInt8 => [C.i (b.toNat : Int)]) = id from funext fun b => by simp only [Function.comp, List.getD_cons_zero, C.int, Int.toNat_natCast, UInt8.ofNat_toNat, id]]
  simp only [List.map_id, Array.toArray_toList]
theorem zdx (xs : Rw) : (bytesOf xs).size = xs.length := by
  show (xs.map _).toArray.size = _
  simp only [List.size_toArray, List.length_map]
theorem zg4 (s : Bs) : (rowsOf s).length = s.size := by
  show (s.data.toList.map _).length = s.data.size
  simp only [List.length_map, Array.length_toList]
theorem zcm (s : Bs) (n : Nat) : 0 ≤ byteAt s n ∧ byteAt s n < 256 := by
  unfold byteAt
  generalize s.data.getD n 0 = b
  have := b.toNat_lt
  omega
theorem size_extract (s : Bs) (a b : Nat) : (s.extract a b).size = min b s.size - a := ByteArray.size_extract
theorem zdg (s t : Bs) : (s ++ t).size = s.size + t.size := ByteArray.size_append
end KV
end
section
namespace KV
open Go Go.Eng
open Classical
def zm (w : Int) : Bool := decide (1 ≤ w) && decide (w ≤ 8)
theorem zbi {w : Int} : zm w = true ↔ 1 ≤ w ∧ w ≤ 8 := by simp [zm]
theorem zbt (w : Int) : Lq3 none [.i w] = some [.b (zm w)] := by
  rw [eq3_i]; unfold zm
  cases decide (1 ≤ w) <;> rfl
theorem zbe (w : Int) : Lq2 none [.i w] = some [.b (zm w)] := by
  rw [eq2_i]; unfold zm
  cases decide (1 ≤ w) <;> rfl
structure Thing where
  text : Bs
  refs : List Bs
def Asc (l : List Bs) : Prop := l.Pairwise fun a b => slt a b = true
theorem zoe (l : List Bs) : Asc l ↔ ∀ j, 0 < j → j < l.length → slt (nth .empty l (j - 1)) (nth .empty l j) = true := by
  induction l with
  | nil => exact ⟨fun _ j _ h => absurd h (by simp), fun _ => List.Pairwise.nil⟩
  | cons a l ih =>
    unfold Asc at ih ⊢
    rw [List.pairwise_cons, ih]
    constructor
    · rintro ⟨h1, h2⟩ j hj hl
      cases j with
      | zero => omega
      | succ j =>
        simp only [Nat.add_sub_cancel, zc5]
        cases j with
        | zero =>
          simp only [List.length_cons] at hl
          exact h1 _ (zl (by omega))
        | succ j =>
          simp only [zc5]
          simp only [List.length_cons] at hl
          exact h2 (j + 1) (by omega) (by omega)
    · intro h
      have h2 : ∀ j, 0 < j → j < l.length → slt (nth .empty l (j - 1)) (nth .empty l j) = true := fun j hj hl => by
        have := h (j + 1) (by omega) (by simp; omega)
        cases j with
        | zero => omega
        | succ j => simpa [zc5, ze5] using this
      refine ⟨fun b hb => ?_, h2⟩
      obtain ⟨i, hi, rfl⟩ := zb0 .empty hb
      clear hb
      induction i with
      | zero => have := h 1 (by omega) (by simp; omega); simpa [zc5, ze5] using this
      | succ i ihi => exact zb1 (ihi (by omega)) (h2 (i + 1) (by omega) hi)
structure ThingOk (t : Thing) (w : Int) : Prop where
  wd : 1 ≤ w ∧ w ≤ 8
  text : t.text.size ≤ 2000
  refs : t.refs.length ≤ 30
  size : ∀ r ∈ t.refs, (r.size : Int) = w
  asc : Asc t.refs
noncomputable def z0 (t : Thing) (w : Int) : Bool := decide (ThingOk t w)
theorem zdk {t : Thing} {w : Int} : z0 t w = true ↔ ThingOk t w := by simp [z0]
def refP (l : List Bs) (w : Int) (j : Nat) : Prop := ((nth .empty l j).size : Int) = w ∧ (0 < j → slt (nth .empty l (j - 1)) (nth .empty l j) = true)
theorem znr (l : List Bs) (w : Int) : (∀ j, 0 ≤ j → j < l.length → refP l w j) ↔ (∀ r ∈ l, (r.size : Int) = w) ∧ Asc l := by
  rw [zoe]
  constructor
  · intro h
    refine ⟨fun r hr => ?_, fun j h1 h2 => (h j (by omega) h2).2 h1⟩
    obtain ⟨i, hi, rfl⟩ := zb0 .empty hr
    exact (h i (by omega) hi).1
  · rintro ⟨h1, h2⟩ j _ hj
    exact ⟨h1 _ (zl hj), fun h => h2 j h hj⟩
theorem zoi (l : List Bs) (x : Bs) (w : Int) (hl : l.length ≤ 30) : ∀ i : Nat, i ≤ l.length →
    Lqr (some 4) [.i w, .l (encS l), .i (l.length : Int), .i (i : Int), .s x, .l (encS l)] = if (∀ j, i ≤ j → j < l.length → refP l w j) then some [.b (zm w)] else some [.b false] := by
  refine z9 (f := fun i : Nat => Lqr (some 4) [.i w, .l (encS l), .i (l.length : Int), .i (i : Int), .s x, .l (encS l)]) (fun i hi => ?_) ?_
  · show (_ → Lqr _ _ = _) ∧ (_ → Lqr _ _ = _)
    rw [eqr_4]
    unfold refP
    by_cases h0 : 0 < i <;> by_cases h1 : ((nth .empty l i).size : Int) = w <;> simp (disch := omega) only [push_cast]
    · cases slt (nth .empty l (i - 1)) (nth .empty l i) <;> simp [h0, h1]
    · simp [h1]
    · simp [h0, h1]
    · simp [h1]
  · show Lqr _ _ = _
    rw [eqr_4]; simp (disch := omega) only [push_cast, zbt]
theorem zdd (t : Thing) (w : Int) : ThingOk t w ↔ zm w = true ∧ t.text.size ≤ 2000 ∧ t.refs.length ≤ 30 ∧ ∀ j, 0 ≤ j → j < t.refs.length → refP t.refs w j := by
  rw [znr, zbi]
  exact ⟨fun h => ⟨h.wd, h.text, h.refs, h.size, h.asc⟩, fun h => ⟨h.1, h.2.1, h.2.2.1, h.2.2.2.1, h.2.2.2.2⟩⟩
theorem zbh (t : Thing) (w : Int) : Lqr none [.s t.text, .l (encS t.refs), .i w] = some [.b (z0 t w)] := by
  rw [eqr_i, zr]
  by_cases h1 : t.text.size ≤ 2000
  · by_cases h2 : t.refs.length ≤ 30
    · rw [show decide ((2000 : Int) < (t.text.size : Int)) = false by simp; omega, show decide ((30 : Int) < (t.refs.length : Int)) = false by simp; omega]
      simp only [cond_false]
      have := zoi t.refs t.text w h2 0 (Nat.zero_le _)
      rw [show ((0 : Nat) : Int) = 0 from rfl] at this
      rw [this]
      unfold z0
      by_cases h3 : ∀ j, 0 ≤ j → j < t.refs.length → refP t.refs w j
      · rw [if_pos h3]; congr 3
        cases hw : zm w
        · exact (decide_eq_false fun h => by rw [zdd, hw] at h; cases h.1).symm
        · exact (decide_eq_true ((zdd t w).2 ⟨hw, h1, h2, h3⟩)).symm
      · rw [if_neg h3, decide_eq_false fun h => h3 ((zdd t w).1 h).2.2.2]
    · rw [show decide ((2000 : Int) < (t.text.size : Int)) = false by simp; omega, show decide ((30 : Int) < (t.refs.length : Int)) = true by simp; omega]
      simp only [cond_false, cond_true]
      unfold z0
      rw [decide_eq_false fun h => h2 h.refs]
  · rw [show decide ((2000 : Int) < (t.text.size : Int)) = true by simp; omega]
    simp only [cond_true]
    unfold z0
    rw [decide_eq_false fun h => h1 h.text]
theorem zl2 (l : List Bs) (x : Bs) (w : Int) (hl : l.length ≤ 30) : ∀ i : Nat, i ≤ l.length →
    Lqo (some 4) [.i w, .i (i : Int), .s x, .l (encS l)] = if (∀ j, i ≤ j → j < l.length → refP l w j) then some [.b true] else some [.b false] := by
  refine z9 (f := fun i : Nat => Lqo (some 4) [.i w, .i (i : Int), .s x, .l (encS l)]) (fun i hi => ?_) ?_
  · show (_ → Lqo _ _ = _) ∧ (_ → Lqo _ _ = _)
    rw [eqo_4]
    unfold refP
    by_cases h0 : 0 < i <;> by_cases h1 : ((nth .empty l i).size : Int) = w <;> simp (disch := omega) only [push_cast]
    · cases slt (nth .empty l (i - 1)) (nth .empty l i) <;> simp [h0, h1]
    · simp [h1]
    · simp [h0, h1]
    · simp [h1]
  · show Lqo _ _ = _
    rw [eqo_4]; simp (disch := omega) only [push_cast]
theorem zcn (t : Thing) (w : Int) : Lqo none [.s t.text, .l (encS t.refs), .i w] = some [.b (z0 t w)] := by
  rw [eqo_i, zbe, zr]
  simp only [Option.bind_some, g, List.getD_cons_zero, Lf.bool]
  unfold z0
  cases hw : zm w
  · simp (disch := omega) only [push_cast]; rw [decide_eq_false (p := ThingOk t w) fun h => by rw [zdd, hw] at h; cases h.1]
  by_cases h1 : t.text.size ≤ 2000
  · by_cases h2 : t.refs.length ≤ 30
    · rw [show decide ((2000 : Int) < (t.text.size : Int)) = false by simp; omega, show decide ((30 : Int) < (t.refs.length : Int)) = false by simp; omega]
      simp only [cond_false, Bool.not_true]
      have := zl2 t.refs t.text w h2 0 (Nat.zero_le _)
      rw [show ((0 : Nat) : Int) = 0 from rfl] at this
      rw [this]
      by_cases h3 : ∀ j, 0 ≤ j → j < t.refs.length → refP t.refs w j
      · rw [if_pos h3, decide_eq_true ((zdd t w).2 ⟨hw, h1, h2, h3⟩)]
      · rw [if_neg h3, decide_eq_false fun h => h3 ((zdd t w).1 h).2.2.2]
    · rw [show decide ((2000 : Int) < (t.text.size : Int)) = false by simp; omega, show decide ((30 : Int) < (t.refs.length : Int)) = true by simp; omega]
      simp only [cond_false, cond_true, Bool.not_true]
      rw [decide_eq_false fun h => h2 h.refs]
  · rw [show decide ((2000 : Int) < (t.text.size : Int)) = true by simp; omega]
    simp only [cond_true, cond_false, Bool.not_true]
    rw [decide_eq_false fun h => h1 h.text]
theorem ze1 (n : Int) : IntKind.u64.wrap n = n % 18446744073709551616 := by simp [IntKind.wrap, IntKind.bits, IntKind.signed]
def step1 (h b : Int) : Int := IntKind.u64.wrap ((IntKind.u64.wrap (BitVec.ofInt (IntKind.u64).bits h ^^^ BitVec.ofInt (IntKind.u64).bits (IntKind.u64.wrap b)).toNat) * 1099511628211)
def hash (s : Bs) : Int := (List.range' 0 s.size).foldl (fun h i => step1 h (byteAt s i)) 14695981039346656037
def digs : Nat → Int → List Int
  | 0, _ => []
  | n + 1, h => digs n (h / 256) ++ [h % 256]
theorem zh6 : ∀ n h, (digs n h).length = n
  | 0, _ => rfl
  | n + 1, h => by simp [digs, zh6 n]
def rowI (l : List Int) : Rw := l.map fun d => [.i d]
noncomputable def sumM (s : Bs) (w : Int) : Bs := if zm w = true then bytesOf (rowI (digs w.toNat (hash s))) else ⟨#[]⟩
theorem zob {s : Bs} {w : Int} (h : zm w = true) : ((sumM s w).size : Int) = w := by
  rw [sumM, if_pos h, zdx, rowI, List.length_map, zh6]
  have := zbi.1 h; omega
theorem zpi (n : Int) : 0 ≤ IntKind.u64.wrap n ∧ IntKind.u64.wrap n < 18446744073709551616 := by rw [ze1]; omega
theorem zib (s : Bs) : 0 ≤ hash s ∧ hash s < 18446744073709551616 := by
  unfold hash
  generalize List.range' 0 s.size = l
  have : ∀ (l : List Nat) (h : Int), (0 ≤ h ∧ h < 18446744073709551616) → 0 ≤ l.foldl (fun h i => step1 h (byteAt s i)) h ∧ l.foldl (fun h i => step1 h (byteAt s i)) h < 18446744073709551616 := by
    intro l
    induction l with
    | nil => exact fun h hh => hh
    | cons a l ih => exact fun h _ => ih _ (zpi _)
  exact this l _ (by omega)
theorem wrI (l : List Int) (i : Nat) (d : Int) (h : i < l.length) : wrs (rowI l) i 0 [.i d] = rowI (l.set i d) := by
  unfold wrs wrs wr rowI
  rw [List.map_set]
  congr 1
  have : (l.map fun d => [C.i d]).getD i [] = [.i l[i]] := by simp [List.getD_eq_getElem?_getD, h]
  rw [this]; rfl
theorem zlr (n : Nat) : ∀ (h : Int) (l r : List Int), 0 ≤ h → h < 18446744073709551616 → l.length = n → n + r.length ≤ 8 →
    Lql (some 12) [.i h, .i ((n : Int) - 1), .l (rowI (l ++ r))] = some [.s (bytesOf (rowI (digs n h ++ r)))] := by
  induction n with
  | zero =>
    intro h l r h0 h1 hl hr
    rw [eql_12]
    have : l = [] := List.eq_nil_of_length_eq_zero hl
    subst this
    simp (disch := omega) only [push_cast] <;> rfl
  | succ n ih =>
    intro h l r h0 h1 hl hr
    rw [eql_12]
    have hlen : (rowI (l ++ r)).length = n + 1 + r.length := by simp [rowI, hl]
    have e : ((n + 1 : Nat) : Int) - 1 = (n : Int) := by omega
    rw [e, hlen]
    have hu : IntKind.u8.wrap h = h % 256 := by rw [IntKind.wrap_u8]
    simp (disch := omega) only [push_cast, wrI]
    rw [hu, wrI _ _ _ (by simp [hl]; omega)]
    have hset : (l ++ r).set n (h % 256) = l.take n ++ (h % 256 :: r) := by
      rw [List.set_append_left _ _ (by omega)]
      have : l = l.take n ++ [l[n]] := by
        conv => lhs; rw [← List.take_append_drop n l, List.drop_eq_getElem_cons (by omega), List.drop_of_length_le (by omega)]
      conv => lhs; rw [this]
      rw [List.set_append_right _ _ (by simp; omega)]
      simp [hl]
    rw [hset]
    have hf : h.fdiv (2 ^ 8) = h / 256 := by rw [Int.fdiv_eq_ediv_of_nonneg _ (by omega)]; rfl
    rw [hf, ih (h / 256) (l.take n) (h % 256 :: r) (by omega) (by omega) (by simp [hl]) (by simp; omega)]
    simp [digs]
theorem zbw (s : Bs) (w : Int) (hs : s.size ≤ 1099511627776) : Lql none [.s s, .i w] = some [.s (sumM s w)] := by
  rw [eql_i, zbt]
  unfold sumM
  cases hw : zm w
  · simp (disch := omega) only [push_cast] <;> rfl
  · simp (disch := omega) only [push_cast]
    have := zgv (f := fun (i : Nat) (h : Int) => Lql (some 5) [.s s, .i w, .i h, .i (s.size : Int), .i (i : Int)]) (g := fun i h => step1 h (byteAt s i)) (n := s.size) (fun i h hi => by
      show Lql _ _ = Lql _ _
      rw [eql_5]; simp (disch := omega) only [push_cast] <;> rfl) 0 (Nat.zero_le _) 14695981039346656037
    rw [show ((0 : Nat) : Int) = 0 from rfl] at this
    rw [this, Nat.sub_zero, show (List.range' 0 s.size).foldl (fun h i => step1 h (byteAt s i)) 14695981039346656037 = hash s from rfl, eql_5]
    have h8 := zbi.1 hw
    have hr := zib s
    have hm : (most : Int) = 1099511627776 := rfl
    obtain ⟨n, rfl⟩ : ∃ n : Nat, w = (n : Int) := ⟨w.toNat, by omega⟩
    simp (disch := omega) only [push_cast, hm]
    have h12 := zlr n (hash s) (List.replicate n 0) [] hr.1 hr.2 (by simp) (by simp; omega)
    rw [List.append_nil, List.append_nil, show rowI (List.replicate n 0) = List.replicate n [C.i 0] by simp [rowI]] at h12
    exact h12
theorem zo9 (n : Nat) : ∀ (h : Int) (r : List Int) (w : Nat), 0 ≤ h → h < 18446744073709551616 → r.length + n = w → w ≤ 8 →
    Lqp (some 10) [.i (w : Int), .i h, .i (r.length : Int), .l (rowI r)] = some [.s (bytesOf (rowI (digs n h ++ r)))] := by
  induction n with
  | zero =>
    intro h r w h0 h1 hr hw
    rw [eqp_10]
    simp (disch := omega) only [push_cast] <;> rfl
  | succ n ih =>
    intro h r w h0 h1 hr hw
    rw [eqp_10]
    have hm : most = 1099511627776 := rfl
    have hlen : (rowI r).length = r.length := by simp [rowI]
    have hu : IntKind.u8.wrap (h.tmod 256) = h % 256 := by rw [Int.tmod_eq_emod_of_nonneg h0, w8 (by omega)]
    have hq : IntKind.u64.wrap (h.tdiv 256) = h / 256 := by rw [Int.tdiv_eq_ediv_of_nonneg h0, ze1]; omega
    rw [hu, hq]
    simp (disch := omega) only [push_cast, List.length_cons, List.length_nil, hm, hlen]
    have := ih (h / 256) (h % 256 :: r) w (by omega) (by omega) (by simp; omega) hw
    simp only [List.length_cons] at this
    rw [show ([[C.i (h % 256)]] : Rw) ++ rowI r = rowI (h % 256 :: r) from rfl, show ((r.length : Int) + 1) = ((r.length + 1 : Nat) : Int) by omega, this]
    simp [digs]
theorem zd2 (s : Bs) (w : Int) (hs : s.size ≤ 1099511627776) : Lqp none [.s s, .i w] = some [.s (sumM s w)] := by
  rw [eqp_i, zbe]
  unfold sumM
  cases hw : zm w
  · simp (disch := omega) only [push_cast] <;> rfl
  · simp (disch := omega) only [push_cast]
    have := zgv (f := fun (i : Nat) (h : Int) => Lqp (some 5) [.s s, .i w, .i h, .i (i : Int)]) (g := fun i h => step1 h (byteAt s i)) (n := s.size) (fun i h hi => by
      show Lqp _ _ = Lqp _ _
      rw [eqp_5]; simp (disch := omega) only [push_cast] <;> rfl) 0 (Nat.zero_le _) 14695981039346656037
    rw [show ((0 : Nat) : Int) = 0 from rfl] at this
    rw [this, Nat.sub_zero, show (List.range' 0 s.size).foldl (fun h i => step1 h (byteAt s i)) 14695981039346656037 = hash s from rfl, eqp_5]
    have h8 := zbi.1 hw
    have hr := zib s
    obtain ⟨n, rfl⟩ : ∃ n : Nat, w = (n : Int) := ⟨w.toNat, by omega⟩
    simp (disch := omega) only [push_cast]
    have := zo9 n (hash s) [] n hr.1 hr.2 (by simp) (by omega)
    rw [List.append_nil] at this
    exact this
end KV
end
section
namespace KV
open Go Go.Eng
open Classical
theorem mostE : most = 1099511627776 := rfl
theorem zgn (x : Bs) (l : Rw) (h : l.length ≤ 1099511627776) : Lqb2 none [.s x, .l l] = some [.s x, .l l] := by
  rw [eqb2_i, mostE]; simp (disch := omega) only [push_cast, List.length_nil, List.nil_append]
def szs (l : List Bs) : Nat := (l.map (·.size)).sum
theorem zh1 (a : Bs) (l : List Bs) : szs (a :: l) = a.size + szs l := rfl
theorem zjv (l m : List Bs) : szs (l ++ m) = szs l + szs m := by simp [szs]
theorem zhv (l : List Bs) (i : Nat) : szs (l.take i) ≤ szs l := by
  conv => rhs; rw [← List.take_append_drop i l, zjv]
  omega
def hd (n : Nat) : Bs := bytesOf [[.i (IntKind.u8.wrap (n : Int))]]
theorem zdu (n : Nat) : (hd n).size = 1 := by rw [hd, zdx]; rfl
def cat (a : Bs) (l : List Bs) : Bs := l.foldl (· ++ ·) a
theorem zd0 (l : List Bs) : ∀ a, (cat a l).size = a.size + szs l := by
  induction l with
  | nil => intro a; rfl
  | cons x l ih => intro a; show (cat (a ++ x) l).size = _; rw [ih, zdg, zh1]; omega
theorem zek (a : Bs) (l : List Bs) (i : Nat) (h : i < l.length) : cat a (l.take (i + 1)) = cat a (l.take i) ++ nth .empty l i := by
  unfold cat; rw [zba .empty h, List.foldl_append]; rfl
def formM (t : Thing) : Bs := cat (hd t.refs.length) t.refs ++ t.text
theorem zet (t : Thing) : (formM t).size = 1 + szs t.refs + t.text.size := by rw [formM, zdg, zd0, zdu]
theorem zmy (t : Thing) (h : 1 + szs t.refs + t.text.size ≤ 1099511627776) (hl : t.refs.length ≤ 4611686018427387904) : Lqs none [.s t.text, .l (encS t.refs)] = some [.s (formM t)] := by
  rw [eqs_i]
  have := zy (f := fun (i : Nat) (a : Bs) => Lqs (some 3) [.s a, .l (encS t.refs), .i (t.refs.length : Int), .i (i : Int), .s t.text, .l (encS t.refs)]) (n := t.refs.length) (T := some [.s (formM t)])
    (I := fun i a => a = cat (hd t.refs.length) (t.refs.take i)) (fun i a hi hI => ⟨_, by
      show Lqs _ _ = Lqs _ _
      rw [eqs_3, mostE]
      have : a.size + (nth .empty t.refs i).size ≤ 1 + szs t.refs := by
        rw [hI, ← zdg, ← zek _ _ _ hi, zd0, zdu]
        have := zhv t.refs (i + 1); omega
      simp (disch := omega) only [push_cast] <;> rfl, by show _ = _; rw [hI, zek _ _ _ hi]⟩) (fun a hI => by
      show Lqs _ _ = _
      have : a.size + t.text.size ≤ 1099511627776 := by rw [hI, List.take_length, zd0, zdu]; omega
      rw [eqs_3, mostE]; simp (disch := omega) only [push_cast]
      rw [hI, List.take_length]; rfl) 0 (hd t.refs.length) (Nat.zero_le _) rfl
  rw [zr]; exact this
theorem zci {t : Thing} {w : Int} (h : ThingOk t w) : 1 + szs t.refs + t.text.size ≤ 2241 ∧ t.refs.length ≤ 30 := by
  have h1 := h.refs; have h2 := h.text; have h3 := h.wd
  have : ∀ l : List Bs, (∀ r ∈ l, (r.size : Int) = w) → szs l ≤ 8 * l.length := by
    intro l
    induction l with
    | nil => intro _; simp [szs]
    | cons a l ih => intro hl; rw [zh1, List.length_cons]; have := hl a (by simp); have := ih fun r hr => hl r (by simp [hr]); omega
  have := this _ h.size
  omega
theorem zbn {t : Thing} {w : Int} (h : ThingOk t w) : Lqs none [.s t.text, .l (encS t.refs)] = some [.s (formM t)] := by
  have := zci h
  exact zmy t (by omega) (by omega)
noncomputable def formT (t : Thing) (w : Int) : Bs := if z0 t w = true then formM t else ⟨#[]⟩
theorem zc2 (t : Thing) (w : Int) : Lqt none [.s t.text, .l (encS t.refs), .i w] = some [.s (formT t w)] := by
  rw [eqt_i, zcn]
  unfold formT
  cases ht : z0 t w
  · simp (disch := omega) only [push_cast] <;> rfl
  · simp (disch := omega) only [push_cast]
    have hk := zci (zdk.1 ht)
    have := zy (f := fun (i : Nat) (a : Rw) => Lqt (some 5) [.i (i : Int), .s t.text, .l (encS t.refs), .l a]) (n := t.refs.length) (T := some [.s (formM t)])
      (I := fun i a => bytesOf a = cat (hd t.refs.length) (t.refs.take i)) (fun i a hi hI => ⟨_, by
        show Lqt _ _ = Lqt _ _
        rw [eqt_5, mostE]
        have : a.length + (nth .empty t.refs i).size ≤ 1 + szs t.refs := by
          rw [← zdx, hI, ← zdg, ← zek _ _ _ hi, zd0, zdu]
          have := zhv t.refs (i + 1); omega
        simp (disch := omega) only [push_cast, zg4] <;> rfl, by show _ = _; rw [zcl, ziq, hI, zek _ _ _ hi]⟩) (fun a hI => by
        show Lqt _ _ = _
        have : a.length + t.text.size ≤ 1099511627776 := by rw [← zdx, hI, List.take_length, zd0, zdu]; omega
        rw [eqt_5, mostE]; simp (disch := omega) only [push_cast, zg4]
        rw [zcl, ziq, hI, List.take_length]; rfl) 0 [[.i (IntKind.u8.wrap (t.refs.length : Int))]] (Nat.zero_le _) rfl
    exact this
def chunk (s : Bs) (w i : Nat) : Bs := s.extract (1 + i * w) (1 + i * w + w)
def parts (s : Bs) (w : Nat) : Thing := ⟨s.extract (1 + (byteAt s 0).toNat * w) s.size, (List.range (byteAt s 0).toNat).map (chunk s w)⟩
noncomputable def readT (s : Bs) (w : Int) : Option Thing :=
  if zm w = true ∧ 1 ≤ s.size ∧ 1 + (byteAt s 0).toNat * w.toNat ≤ s.size then (if z0 (parts s w.toNat) w = true then some (parts s w.toNat) else none) else none
theorem zog {α : Type} (f : Nat → α) (i : Nat) : (List.range (i + 1)).map f = (List.range i).map f ++ [f i] := by rw [List.range_succ, List.map_append]; rfl
end KV
end
section
namespace KV
open Go Go.Eng
open Classical
structure Entry where
  kind : Int
  sum : Bs
  name : Bs
  number : Int
  thing : Thing
abbrev E0 : Bs := ⟨#[]⟩
def encE (e : Entry) : Lv := [.i e.kind, .s e.sum, .s e.name, .i e.number, .s e.thing.text, .l (encS e.thing.refs)]
structure NameOk (s : Bs) : Prop where
  lo : 1 ≤ s.size
  hi : s.size ≤ 40
  by_ : ∀ j, 0 ≤ j → j < s.size → 33 ≤ byteAt s j ∧ byteAt s j ≤ 126
noncomputable def nameB (s : Bs) : Bool := decide (NameOk s)
theorem zhg {s : Bs} : nameB s = true ↔ NameOk s := by simp [nameB]
theorem zg6 (s : Bs) : (if (∀ j, 0 ≤ j → j < s.size → 33 ≤ byteAt s j ∧ byteAt s j ≤ 126) then cond (decide (1 ≤ (s.size : Int))) (some [Lf.b (decide ((s.size : Int) ≤ 40))]) (some [.b false]) else some [.b false]) = some [.b (nameB s)] := by
  unfold nameB
  by_cases h : ∀ j, 0 ≤ j → j < s.size → 33 ≤ byteAt s j ∧ byteAt s j ≤ 126
  · rw [if_pos h]
    by_cases h1 : 1 ≤ s.size
    · rw [show decide (1 ≤ (s.size : Int)) = true by simp; omega]
      by_cases h2 : s.size ≤ 40
      · rw [decide_eq_true (p := NameOk s) ⟨h1, h2, h⟩, show decide ((s.size : Int) ≤ 40) = true by simp; omega]; rfl
      · rw [decide_eq_false (p := NameOk s) fun h => h2 h.hi, show decide ((s.size : Int) ≤ 40) = false by simp; omega]; rfl
    · rw [decide_eq_false (p := NameOk s) fun h => h1 h.lo, show decide (1 ≤ (s.size : Int)) = false by simp; omega]; rfl
  · rw [if_neg h, decide_eq_false (p := NameOk s) fun h1 => h h1.by_]
theorem zir (s : Bs) (hs : s.size ≤ 4611686018427387904) : Lqy none [.s s] = some [.b (nameB s)] := by
  rw [eqy_i]
  have := z9 (f := fun i : Nat => Lqy (some 2) [.s s, .i (s.size : Int), .i (i : Int)]) (n := s.size) (P := fun j => 33 ≤ byteAt s j ∧ byteAt s j ≤ 126) (F := some [.b false])
    (T := cond (decide (1 ≤ (s.size : Int))) (some [Lf.b (decide ((s.size : Int) ≤ 40))]) (some [.b false])) (fun i hi => by
      show (_ → Lqy _ _ = _) ∧ (_ → Lqy _ _ = _)
      rw [eqy_2]
      by_cases h1 : 33 ≤ byteAt s i <;> by_cases h2 : byteAt s i ≤ 126 <;> simp (disch := omega) only [push_cast] <;> simp [h1, h2]) (by
      show Lqy _ _ = _
      rw [eqy_2, dlt_f (Nat.le_refl _)]; rfl) 0 (Nat.zero_le _)
  rw [zg6] at this
  exact this
theorem zhx (s : Bs) (hs : s.size ≤ 4611686018427387904) : Lqx none [.s s] = some [.b (nameB s)] := by
  rw [eqx_i]
  have := z9 (f := fun i : Nat => Lqx (some 2) [.s s, .i (i : Int)]) (n := s.size) (P := fun j => 33 ≤ byteAt s j ∧ byteAt s j ≤ 126) (F := some [.b false])
    (T := cond (decide (1 ≤ (s.size : Int))) (some [Lf.b (decide ((s.size : Int) ≤ 40))]) (some [.b false])) (fun i hi => by
      show (_ → Lqx _ _ = _) ∧ (_ → Lqx _ _ = _)
      rw [eqx_2]
      by_cases h1 : 33 ≤ byteAt s i <;> by_cases h2 : byteAt s i ≤ 126 <;> simp (disch := omega) only [push_cast] <;> simp [h1, h2]) (by
      show Lqx _ _ = _
      rw [eqx_2, dlt_f (Nat.le_refl _)]; rfl) 0 (Nat.zero_le _)
  rw [zg6] at this
  exact this
def uS (k : Int) : Bool := decide (k = 2 ∨ k = 4 ∨ k = 7)
def uN (k : Int) : Bool := decide (k = 2 ∨ k = 3)
theorem znb (k : Int) : Lqb8 none [.i k] = some [.b (uS k)] := by
  rw [eqb8_i]; unfold uS
  by_cases h1 : k = 2 <;> by_cases h2 : k = 4 <;> by_cases h3 : k = 7 <;> simp (disch := omega) only [push_cast] <;> simp [h1, h2, h3]
theorem zj5 (k : Int) : Lqb9 none [.i k] = some [.b (uN k)] := by
  rw [eqb9_i]; unfold uN
  by_cases h1 : k = 2 <;> by_cases h2 : k = 3 <;> simp (disch := omega) only [push_cast] <;> simp [h1, h2]
noncomputable def sumB (k : Int) (s : Bs) (w : Int) : Bool := if uS k = true then decide ((s.size : Int) = w) else decide (s = E0)
noncomputable def namB (k : Int) (n : Bs) : Bool := if uN k = true then nameB n else decide (n = E0)
def numB (k m : Int) : Bool := if k = 1 ∨ k = 4 ∨ k = 6 then decide (1 ≤ m ∧ m ≤ 100000) else if k = 5 then decide (1 ≤ m ∧ m ≤ 1000000000) else decide (m = 0)
noncomputable def thgB (k : Int) (t : Thing) (w : Int) : Bool := if k = 1 then z0 t w else decide (t.text = E0) && decide (t.refs.length = 0)
noncomputable def zj (e : Entry) (w : Int) : Bool := decide (1 ≤ e.kind ∧ e.kind ≤ 7) && (zm w && (sumB e.kind e.sum w && (namB e.kind e.name && (numB e.kind e.number && thgB e.kind e.thing w))))
theorem zce (w lo hi k m : Int) (s n : Bs) (t : Thing) : Lqe (some 15) [.i w, .i lo, .i hi, .i k, .s s, .s n, .i m, .s t.text, .l (encS t.refs)] = some [.b (decide (lo ≤ m ∧ m ≤ hi) && thgB k t w)] := by
  rw [eqe_15]; unfold thgB
  by_cases h1 : lo ≤ m
  · by_cases h2 : m ≤ hi
    · by_cases h3 : k = 1
      · simp (disch := omega) only [push_cast, zbh, if_pos h3] <;> simp [h1, h2]
      · by_cases h4 : t.text = E0
        · simp (disch := omega) only [push_cast, if_neg h3] <;> simp [h1, h2, h4]
        · simp (disch := omega) only [push_cast, if_neg h3]; rw [decide_eq_false h4] <;> simp
    · simp (disch := omega) only [push_cast]; rw [decide_eq_false fun h => h2 h.2]; rfl
  · simp (disch := omega) only [push_cast]; rw [decide_eq_false fun h => h1 h.1]; rfl
theorem zmb (w k m : Int) (s n : Bs) (t : Thing) (hk : 1 ≤ k ∧ k ≤ 7) : Lqe (some 7) [.i w, .i k, .s s, .s n, .i m, .s t.text, .l (encS t.refs)] = some [.b (numB k m && thgB k t w)] := by
  rw [eqe_7]; unfold numB
  have : k = 1 ∨ k = 2 ∨ k = 3 ∨ k = 4 ∨ k = 5 ∨ k = 6 ∨ k = 7 := by omega
  rcases this with h | h | h | h | h | h | h
  · subst h; simp (disch := omega) only [push_cast, zce] <;> simp
  · subst h; simp (disch := omega) only [push_cast]; rw [eqe_13]; simp (disch := omega) only [push_cast, zce]; rw [show decide (0 ≤ m ∧ m ≤ 0) = decide (m = 0) from decide_eq_decide.2 (by omega)] <;> simp
  · subst h; simp (disch := omega) only [push_cast]; rw [eqe_13]; simp (disch := omega) only [push_cast, zce]; rw [show decide (0 ≤ m ∧ m ≤ 0) = decide (m = 0) from decide_eq_decide.2 (by omega)] <;> simp
  · subst h; simp (disch := omega) only [push_cast, zce] <;> simp
  · subst h; simp (disch := omega) only [push_cast]; rw [eqe_13]; simp (disch := omega) only [push_cast, zce] <;> simp
  · subst h; simp (disch := omega) only [push_cast, zce] <;> simp
  · subst h; simp (disch := omega) only [push_cast]; rw [eqe_13]; simp (disch := omega) only [push_cast, zce]; rw [show decide (0 ≤ m ∧ m ≤ 0) = decide (m = 0) from decide_eq_decide.2 (by omega)] <;> simp
theorem zmd (w k m : Int) (s n : Bs) (t : Thing) (hk : 1 ≤ k ∧ k ≤ 7) (hn : n.size ≤ 4611686018427387904) : Lqe (some 5) [.i w, .i k, .s s, .s n, .i m, .s t.text, .l (encS t.refs)] = some [.b (namB k n && (numB k m && thgB k t w))] := by
  rw [eqe_5]; unfold namB
  rw [zj5, zir n hn, zmb w k m s n t hk]
  cases hu : uN k
  · by_cases h : n = E0
    · subst h; simp (disch := omega) only [push_cast] <;> simp
    · simp (disch := omega) only [push_cast] <;> simp [h]
  · cases nameB n
    · simp (disch := omega) only [push_cast] <;> simp
    · simp (disch := omega) only [push_cast] <;> simp
theorem zmg (e : Entry) (w : Int) (hn : e.name.size ≤ 4611686018427387904) : Lqe none (encE e ++ [.i w]) = some [.b (zj e w)] := by
  show Lqe none [.i e.kind, .s e.sum, .s e.name, .i e.number, .s e.thing.text, .l (encS e.thing.refs), .i w] = _
  rw [eqe_i]; unfold zj
  by_cases h1 : 1 ≤ e.kind
  · by_cases h7 : e.kind ≤ 7
    · simp (disch := omega) only [push_cast, zbt, znb, zmd w e.kind e.number e.sum e.name e.thing ⟨h1, h7⟩ hn]
      rw [decide_eq_true (show 1 ≤ e.kind ∧ e.kind ≤ 7 from ⟨h1, h7⟩), Bool.true_and]
      unfold sumB
      cases zm w
      · rfl
      · cases hu : uS e.kind
        · simp (disch := omega) only [push_cast]
          by_cases h : e.sum = E0
          · rw [cpos h]; simp [h]
          · rw [cneg h]; simp [h]
        · simp (disch := omega) only [push_cast]
          by_cases h : (e.sum.size : Int) = w
          · rw [cpos h]; simp [h]
          · rw [cneg h]; simp [h]
    · simp (disch := omega) only [push_cast]; rw [decide_eq_false fun h => h7 h.2]; rfl
  · simp (disch := omega) only [push_cast]; rw [decide_eq_false fun h => h1 h.1]; rfl
theorem zk5 (w k m : Int) (s n : Bs) (t : Thing) (b : Bool) (hb : b = decide (k = 1)) : Lqq (some 8) [.i w, .b b, .i k, .s s, .s n, .i m, .s t.text, .l (encS t.refs)] = some [.b (thgB k t w)] := by
  subst hb
  rw [eqq_8]; unfold thgB
  by_cases h : k = 1
  · simp (disch := omega) only [push_cast, zcn, if_pos h]
  · simp (disch := omega) only [push_cast, if_neg h]
    by_cases h4 : t.text = E0
    · rw [cpos h4]; simp [h4]
    · rw [cneg h4]; simp [h4]
theorem zk1 (w k m : Int) (s n : Bs) (t : Thing) (a b : Bool) (ha : a = uN k) (hb : b = decide (k = 1)) (hn : n.size ≤ 4611686018427387904) :
    Lqq (some 6) [.i w, .b a, .b b, .i k, .s s, .s n, .i m, .s t.text, .l (encS t.refs)] = some [.b (namB k n && thgB k t w)] := by
  subst ha
  rw [eqq_6, zhx n hn, zk5 w k m s n t b hb]; unfold namB
  cases hu : uN k
  · simp (disch := omega) only [push_cast]
    by_cases h : n = E0
    · rw [cpos h]; simp [h]
    · rw [cneg h]; simp [h]
  · cases nameB n
    · simp (disch := omega) only [push_cast] <;> simp
    · simp (disch := omega) only [push_cast] <;> simp
theorem zpd (m u : Int) : Lqb1 none [.i m, .i u] = some [.b (if u = 1 then decide (1 ≤ m ∧ m ≤ 100000) else if u = 2 then decide (1 ≤ m ∧ m ≤ 1000000000) else decide (m = 0))] := by
  rw [eqb1_i]
  by_cases h1 : u = 1
  · subst h1; simp (disch := omega) only [push_cast]
    by_cases h : 1 ≤ m
    · simp (disch := omega) only [push_cast] <;> simp [h]
    · simp (disch := omega) only [push_cast] <;> simp [h]
  · by_cases h2 : u = 2
    · subst h2; simp (disch := omega) only [push_cast]
      by_cases h : 1 ≤ m
      · simp (disch := omega) only [push_cast] <;> simp [h]
      · simp (disch := omega) only [push_cast] <;> simp [h]
    · simp (disch := omega) only [push_cast] <;> simp [h1, h2]
def nU (k : Int) : Int := if k = 1 ∨ k = 4 ∨ k = 6 then 1 else if k = 5 then 2 else 0
theorem zno (k : Int) (hk : 1 ≤ k ∧ k ≤ 7) : Lqcl none [.i k] = some [.b (uS k), .b (uN k), .i (nU k), .b (decide (k = 1))] := by
  rw [eqcl_i]
  have : k = 1 ∨ k = 2 ∨ k = 3 ∨ k = 4 ∨ k = 5 ∨ k = 6 ∨ k = 7 := by omega
  rcases this with h | h | h | h | h | h | h <;> rw [h] <;> rfl
theorem zox (k m : Int) (hk : 1 ≤ k ∧ k ≤ 7) : Lqb1 none [.i m, .i (nU k)] = some [.b (numB k m)] := by
  rw [zpd]
  have : k = 1 ∨ k = 2 ∨ k = 3 ∨ k = 4 ∨ k = 5 ∨ k = 6 ∨ k = 7 := by omega
  rcases this with h | h | h | h | h | h | h <;> rw [h] <;> rfl
theorem zmr (e : Entry) (w : Int) (hn : e.name.size ≤ 4611686018427387904) : Lqq none (encE e ++ [.i w]) = some [.b (zj e w)] := by
  show Lqq none [.i e.kind, .s e.sum, .s e.name, .i e.number, .s e.thing.text, .l (encS e.thing.refs), .i w] = _
  rw [eqq_i, zbe]; unfold zj
  cases zm w
  · simp (disch := omega) only [push_cast] <;> simp
  by_cases h1 : 1 ≤ e.kind
  · by_cases h7 : e.kind ≤ 7
    · rw [decide_eq_true (show 1 ≤ e.kind ∧ e.kind ≤ 7 from ⟨h1, h7⟩), Bool.true_and, Bool.true_and]
      simp (disch := omega) only [push_cast, zno e.kind ⟨h1, h7⟩, zox e.kind e.number ⟨h1, h7⟩, zk1 w e.kind e.number e.sum e.name e.thing _ _ rfl rfl hn]
      unfold sumB
      cases hus : uS e.kind
      · by_cases h : e.sum = E0
        · cases numB e.kind e.number <;> simp (disch := omega) only [push_cast] <;> simp [h]
        · simp (disch := omega) only [push_cast] <;> simp [h]
      · by_cases h : (e.sum.size : Int) = w
        · cases numB e.kind e.number <;> simp (disch := omega) only [push_cast] <;> simp [h]
        · simp (disch := omega) only [push_cast] <;> simp [h]
    · simp (disch := omega) only [push_cast]; rw [decide_eq_false fun h => h7 h.2]; rfl
  · simp (disch := omega) only [push_cast]; rw [decide_eq_false fun h => h1 h.1]; rfl
end KV
end
section
namespace KV
open Go Go.Eng
open Classical
theorem EntryOk.kd {e : Entry} {w : Int} (h : zj e w = true) : 1 ≤ e.kind ∧ e.kind ≤ 7 := by
  unfold zj at h; simp only [Bool.and_eq_true, decide_eq_true_eq] at h; exact h.1
theorem EntryOk.wd {e : Entry} {w : Int} (h : zj e w = true) : zm w = true := by
  unfold zj at h; simp only [Bool.and_eq_true, decide_eq_true_eq] at h; exact h.2.1
theorem EntryOk.nm {e : Entry} {w : Int} (h : zj e w = true) : e.name.size ≤ 40 := by
  unfold zj namB at h; simp only [Bool.and_eq_true, decide_eq_true_eq] at h
  have := h.2.2.2.1
  split at this
  · exact (zhg.1 this).hi
  · have := of_decide_eq_true this; rw [this]; decide
theorem EntryOk.num {e : Entry} {w : Int} (h : zj e w = true) : 0 ≤ e.number ∧ e.number ≤ 1000000000 := by
  unfold zj numB at h; simp only [Bool.and_eq_true, decide_eq_true_eq] at h
  have := h.2.2.2.2.1
  split at this
  · have := of_decide_eq_true this; omega
  · split at this
    · have := of_decide_eq_true this; omega
    · have := of_decide_eq_true this; omega
theorem EntryOk.sum {e : Entry} {w : Int} (h : zj e w = true) : e.sum.size ≤ 8 := by
  have hw := zbi.1 (EntryOk.wd h)
  unfold zj sumB at h; simp only [Bool.and_eq_true, decide_eq_true_eq] at h
  have := h.2.2.1
  split at this
  · have := of_decide_eq_true this; omega
  · have := of_decide_eq_true this; rw [this]; decide
theorem EntryOk.thing {e : Entry} {w : Int} (h : zj e w = true) (hk : e.kind = 1) : ThingOk e.thing w := by
  unfold zj thgB at h; simp only [Bool.and_eq_true, decide_eq_true_eq, if_pos hk] at h
  exact zdk.1 h.2.2.2.2.2
def hd6 (k m : Int) (n : Nat) : Bs := bytesOf [[.i k], [.i (m / 16777216)], [.i (m / 65536 % 256)], [.i (m / 256 % 256)], [.i (m % 256)], [.i (n : Int)]]
def formE (e : Entry) : Bs := hd6 e.kind e.number e.name.size ++ e.name ++ e.sum ++ (if e.kind = 1 then formM e.thing else E0)
theorem zg7 (s : Bs) : s ++ E0 = s := by
  apply Go.WideShapes.bytes_inj; simp [ByteArray.data_append]
theorem zb2 (s : Bs) {a b c : Nat} (h1 : a ≤ b) (h2 : b ≤ c) : s.extract a b ++ s.extract b c = s.extract a c := by
  apply Go.WideShapes.bytes_inj
  simp only [ByteArray.data_append, ByteArray.data_extract, Array.toList_append, Array.toList_extract, List.extract_eq_take_drop]
  apply List.ext_getElem?
  intro i
  rw [List.getElem?_append]
  simp only [List.length_take, List.length_drop, Array.length_toList, List.getElem?_take, List.getElem?_drop]
  have hs : ∀ j, s.data.size ≤ j → s.data.toList[j]? = none := fun j hj => List.getElem?_eq_none (by simpa using hj)
  by_cases h : i < min (b - a) (s.data.size - a)
  · rw [if_pos h, if_pos (by omega), if_pos (by omega)]
  · rw [if_neg h]
    by_cases h3 : i < c - a
    · by_cases h4 : b - a ≤ s.data.size - a
      · rw [if_pos h3, if_pos (by omega)]; congr 1; omega
      · rw [if_pos h3, hs (a + i) (by omega)]
        split
        · exact hs _ (by omega)
        · rfl
    · by_cases h4 : b - a ≤ s.data.size - a
      · rw [if_neg h3, if_neg (by omega)]
      · rw [if_neg h3]
        split
        · exact hs _ (by omega)
        · rfl
theorem zf5 (s : Bs) : s.extract 0 s.size = s := by
  apply Go.WideShapes.bytes_inj
  simp only [ByteArray.data_extract, Array.toList_extract, List.extract_eq_take_drop]
  rw [List.drop_zero, Nat.sub_zero, List.take_of_length_le]
  show s.data.toList.length ≤ s.data.size
  rw [Array.length_toList]; exact Nat.le_refl _
theorem zcp (s : Bs) (i : Nat) (h : i < s.size) : s.extract i (i + 1) = bytesOf [[.i (byteAt s i)]] := by
  apply Go.WideShapes.bytes_inj
  have h' : i < s.data.toList.length := by simpa using h
  simp only [ByteArray.data_extract, Array.toList_extract, List.extract_eq_take_drop]
  rw [List.drop_eq_getElem_cons h', show i + 1 - i = 1 by omega]
  simp only [List.take_succ_cons, List.take_zero]
  show _ = [UInt8.ofNat (byteAt s i).toNat]
  have : s.data.getD i 0 = s.data.toList[i] := by simp [Array.getD]; rw [dif_pos h]
  rw [byteAt, this, Int.toNat_natCast, UInt8.ofNat_toNat]
theorem zml {s : Bs} {w : Int} {t : Thing} (h : readT s w = some t) : formM t = s ∧ ThingOk t w := by
  unfold readT at h
  split at h
  · rename_i hc
    split at h
    · rename_i ht
      cases h
      refine ⟨?_, zdk.1 ht⟩
      have hb := zcm s 0
      obtain ⟨k, hk⟩ : ∃ k : Nat, byteAt s 0 = (k : Int) := ⟨(byteAt s 0).toNat, by omega⟩
      have hkn : (byteAt s 0).toNat = k := by rw [hk]; rfl
      obtain ⟨hw, h0, h1⟩ := hc
      rw [hkn] at h1
      unfold formM parts
      simp only [List.length_map, List.length_range, hkn]
      have hcat : ∀ i, i ≤ k → cat (hd k) ((List.range i).map (chunk s w.toNat)) = s.extract 0 (1 + i * w.toNat) := by
        intro i
        induction i with
        | zero =>
          intro _
          rw [Nat.zero_mul, zcp s 0 (by omega)]
          show hd k = _
          unfold hd
          rw [hk, w8 (by omega)]
        | succ i ih =>
          intro hi
          have hm : (i + 1) * w.toNat = i * w.toNat + w.toNat := Nat.succ_mul _ _
          have hm2 : (i + 1) * w.toNat ≤ k * w.toNat := Nat.mul_le_mul_right _ hi
          unfold cat at ih ⊢
          rw [zog, List.foldl_append, ih (by omega)]
          show _ ++ chunk s w.toNat i = _
          unfold chunk
          rw [zb2 s (by omega) (by omega), hm]; congr 1; omega
      rw [hcat k (Nat.le_refl _), zb2 s (by omega) h1, zf5]
    · cases h
  · cases h
def num4 (s : Bs) : Int := byteAt s 1 * 16777216 + byteAt s 2 * 65536 + byteAt s 3 * 256 + byteAt s 4
def nmEnd (s : Bs) : Nat := 6 + (byteAt s 5).toNat
noncomputable def readE (s : Bs) (w : Int) : Option Entry :=
  if zm w = true ∧ 6 ≤ s.size ∧ nmEnd s ≤ s.size then
    (if byteAt s 0 = 1 then (match readT (s.extract (nmEnd s) s.size) w with
      | none => none
      | some t => if zj ⟨1, E0, s.extract 6 (nmEnd s), num4 s, t⟩ w = true then some ⟨1, E0, s.extract 6 (nmEnd s), num4 s, t⟩ else none)
    else if zj ⟨byteAt s 0, s.extract (nmEnd s) s.size, s.extract 6 (nmEnd s), num4 s, ⟨E0, []⟩⟩ w = true then some ⟨byteAt s 0, s.extract (nmEnd s) s.size, s.extract 6 (nmEnd s), num4 s, ⟨E0, []⟩⟩ else none)
  else none
theorem zj4 (s : Bs) (h : 6 ≤ s.size) : hd6 (byteAt s 0) (num4 s) (byteAt s 5).toNat = s.extract 0 6 := by
  have b0 := zcm s 0; have b1 := zcm s 1; have b2 := zcm s 2; have b3 := zcm s 3; have b4 := zcm s 4; have b5 := zcm s 5
  unfold hd6 num4
  have e : ∀ a b c d e f : Int, bytesOf [[.i a], [.i b], [.i c], [.i d], [.i e], [.i f]] = bytesOf [[.i a]] ++ bytesOf [[.i b]] ++ bytesOf [[.i c]] ++ bytesOf [[.i d]] ++ bytesOf [[.i e]] ++ bytesOf [[.i f]] := fun a b c d e f => by
    rw [← zcl, ← zcl, ← zcl, ← zcl, ← zcl]; rfl
  have n1 : (byteAt s 1 * 16777216 + byteAt s 2 * 65536 + byteAt s 3 * 256 + byteAt s 4) / 16777216 = byteAt s 1 := by omega
  have n2 : (byteAt s 1 * 16777216 + byteAt s 2 * 65536 + byteAt s 3 * 256 + byteAt s 4) / 65536 % 256 = byteAt s 2 := by omega
  have n3 : (byteAt s 1 * 16777216 + byteAt s 2 * 65536 + byteAt s 3 * 256 + byteAt s 4) / 256 % 256 = byteAt s 3 := by omega
  have n4 : (byteAt s 1 * 16777216 + byteAt s 2 * 65536 + byteAt s 3 * 256 + byteAt s 4) % 256 = byteAt s 4 := by omega
  have n5 : (((byteAt s 5).toNat : Nat) : Int) = byteAt s 5 := by omega
  rw [n1, n2, n3, n4, n5, e, ← zcp s 0 (by omega), ← zcp s 1 (by omega), ← zcp s 2 (by omega), ← zcp s 3 (by omega), ← zcp s 4 (by omega), ← zcp s 5 (by omega)]
  rw [zb2 s (by omega) (by omega), zb2 s (by omega) (by omega), zb2 s (by omega) (by omega), zb2 s (by omega) (by omega), zb2 s (by omega) (by omega)]
theorem zha (s : Bs) (x : Thing) (h6 : 6 ≤ s.size) (h : nmEnd s ≤ s.size) (a : Bs) (hx : (if byteAt s 0 = 1 then formM x else E0) = (if byteAt s 0 = 1 then s.extract (nmEnd s) s.size else E0)) (ha : a = if byteAt s 0 = 1 then E0 else s.extract (nmEnd s) s.size) :
    formE ⟨byteAt s 0, a, s.extract 6 (nmEnd s), num4 s, x⟩ = s := by
  unfold formE
  simp only
  have hn : (s.extract 6 (nmEnd s)).size = (byteAt s 5).toNat := by rw [size_extract]; unfold nmEnd at h ⊢; omega
  rw [hn, zj4 s h6, zb2 s (by omega) (by unfold nmEnd; omega), hx, ha]
  split
  · rw [zg7, zb2 s (by omega) h, zf5]
  · rw [zg7, zb2 s (by omega) h, zf5]
theorem znv {s : Bs} {w : Int} {e : Entry} (h : readE s w = some e) : formE e = s ∧ zj e w = true := by
  unfold readE at h
  split at h
  · rename_i hc
    obtain ⟨hw, h6, hl⟩ := hc
    split at h
    · rename_i h1
      cases ht : readT (s.extract (nmEnd s) s.size) w with
      | none => rw [ht] at h; cases h
      | some t =>
        rw [ht] at h
        simp only at h
        split at h
        · rename_i he
          cases h
          refine ⟨?_, he⟩
          have := zha s t h6 hl E0 (by rw [if_pos h1, if_pos h1, (zml ht).1]) (by rw [if_pos h1])
          rw [h1] at this; exact this
        · cases h
    · rename_i h1
      split at h
      · rename_i he
        cases h
        exact ⟨zha s ⟨E0, []⟩ h6 hl _ (by rw [if_neg h1, if_neg h1]) (by rw [if_neg h1]), he⟩
      · cases h
  · cases h
end KV
end
section
namespace KV
open Go Go.Eng
open Classical
structure Kept where
  sum : Bs
  born : Int
  thing : Thing
structure Pin where
  name : Bs
  sum : Bs
structure Lease where
  number : Int
  sum : Bs
  till : Int
structure State where
  width : Int
  now : Int
  given : Int
  births : Int
  things : List Kept
  pins : List Pin
  leases : List Lease
def K0 : Kept := ⟨.empty, 0, ⟨.empty, []⟩⟩
def P0 : Pin := ⟨.empty, .empty⟩
def L0 : Lease := ⟨0, .empty, 0⟩
def cK (k : Kept) : List C := [.s k.sum, .i k.born, .s k.thing.text, .l (encS k.thing.refs)]
def cP (p : Pin) : List C := [.s p.name, .s p.sum]
def cL (l : Lease) : List C := [.i l.number, .s l.sum, .i l.till]
def encK (l : List Kept) : Rw := l.map cK
def encP (l : List Pin) : Rw := l.map cP
def encL (l : List Lease) : Rw := l.map cL
def encSt (s : State) : Lv := [.i s.width, .i s.now, .i s.given, .i s.births, .l (encK s.things), .l (encP s.pins), .l (encL s.leases)]
@[push_cast] theorem zbl (l : List Kept) : (encK l).length = l.length := by simp [encK]
@[push_cast] theorem zbj (l : List Pin) : (encP l).length = l.length := by simp [encP]
@[push_cast] theorem zbq (l : List Lease) : (encL l).length = l.length := by simp [encL]
theorem zgi {α : Type} (d : α) (l : List α) (i : Nat) (h : l.length ≤ i) : nth d l i = d := by
  rw [nth, List.getD_eq_getElem?_getD, List.getElem?_eq_none h]; rfl
theorem zb6 {α β : Type} (f : α → List C) (d : α) (l : List α) (i o : Nat) (g : C → β) (h : g (.i 0) = g ((f d).getD o (.i 0))) : g (rd (l.map f) i o) = g ((f (nth d l i)).getD o (.i 0)) := by
  rcases Nat.lt_or_ge i l.length with h1 | h1
  · rw [zjf f d _ _ _ h1]
  · rw [zfh _ _ _ _ h1, zgi d l i h1, h]
@[push_cast] theorem zpz (l : List Kept) (i : Nat) : (rd (encK l) i 0).str = (nth K0 l i).sum := zb6 cK K0 l i 0 C.str rfl
@[push_cast] theorem zpy (l : List Kept) (i : Nat) : (rd (encK l) i 1).int = (nth K0 l i).born := zb6 cK K0 l i 1 C.int rfl
@[push_cast] theorem zp1 (l : List Kept) (i : Nat) : (rd (encK l) i 2).str = (nth K0 l i).thing.text := zb6 cK K0 l i 2 C.str rfl
@[push_cast] theorem zi4 (l : List Kept) (i : Nat) : (rd (encK l) i 3).list = encS (nth K0 l i).thing.refs := zb6 cK K0 l i 3 C.list rfl
@[push_cast] theorem zpr (l : List Pin) (i : Nat) : (rd (encP l) i 0).str = (nth P0 l i).name := zb6 cP P0 l i 0 C.str rfl
@[push_cast] theorem zpt (l : List Pin) (i : Nat) : (rd (encP l) i 1).str = (nth P0 l i).sum := zb6 cP P0 l i 1 C.str rfl
@[push_cast] theorem zp0 (l : List Lease) (i : Nat) : (rd (encL l) i 0).int = (nth L0 l i).number := zb6 cL L0 l i 0 C.int rfl
@[push_cast] theorem zpu (l : List Lease) (i : Nat) : (rd (encL l) i 1).str = (nth L0 l i).sum := zb6 cL L0 l i 1 C.str rfl
@[push_cast] theorem zpv (l : List Lease) (i : Nat) : (rd (encL l) i 2).int = (nth L0 l i).till := zb6 cL L0 l i 2 C.int rfl
theorem zbm (l m : List Kept) : encK l ++ encK m = encK (l ++ m) := by simp [encK]
theorem zcd (l m : List Pin) : encP l ++ encP m = encP (l ++ m) := by simp [encP]
theorem zc7 (l m : List Lease) : encL l ++ encL m = encL (l ++ m) := by simp [encL]
theorem zdc (a : Bs) (b : Int) (c : Bs) (r : List Bs) : ([[.s a, .i b, .s c, .l (encS r)]] : Rw) = encK [⟨a, b, ⟨c, r⟩⟩] := rfl
theorem zfx (a b : Bs) : ([[.s a, .s b]] : Rw) = encP [⟨a, b⟩] := rfl
theorem zef (l : List Kept) (a b : Nat) : Eng.sub (encK l) a b = encK ((l.drop a).take (b - a)) := ze7 _ _ _ _
theorem zew (l : List Pin) (a b : Nat) : Eng.sub (encP l) a b = encP ((l.drop a).take (b - a)) := ze7 _ _ _ _
theorem zit (l : List Lease) (a b : Nat) : Eng.sub (encL l) a b = encL ((l.drop a).take (b - a)) := ze7 _ _ _ _
theorem wrP (l : List Pin) (i : Nat) (x : Bs) (h : i < l.length) : wrs (encP l) i 1 [.s x] = encP (l.set i ⟨(nth P0 l i).name, x⟩) := by
  unfold wrs wrs wr encP
  rw [List.map_set]
  congr 1
  have : (l.map cP).getD i [] = cP (nth P0 l i) := by rw [zn P0 l i h, List.getD_eq_getElem?_getD]; simp [h]
  rw [this]; rfl
theorem zf1 {f : Nat → Nat → Option Lv} {q : Nat → Bool} {n r : Nat} (hr : r ≤ n) (h1 : ∀ j, j < r → q j = true) (h2 : ∀ j, r ≤ j → j < n → q j = false)
    (step : ∀ lo hi, lo < hi → hi ≤ n → f lo hi = cond (q ((lo + hi) / 2)) (f ((lo + hi) / 2 + 1) hi) (f lo ((lo + hi) / 2))) (last : ∀ lo, lo ≤ n → f lo lo = some [.i (lo : Int)]) : f 0 n = some [.i (r : Int)] := by
  have : ∀ m lo hi, hi - lo = m → lo ≤ r → r ≤ hi → hi ≤ n → f lo hi = some [.i (r : Int)] := by
    intro m
    induction m using Nat.strongRecOn with
    | ind m ih =>
      intro lo hi hm hlo hhi hn
      rcases Nat.lt_or_ge lo hi with hlt | hge
      · rw [step lo hi hlt hn]
        rcases Nat.lt_or_ge ((lo + hi) / 2) r with h | h
        · rw [h1 _ h]; exact ih _ (by omega) _ _ rfl (by omega) hhi hn
        · rw [h2 _ h (by omega)]; exact ih _ (by omega) _ _ rfl hlo h (by omega)
      · have e1 : lo = r := by omega
        have e2 : hi = r := by omega
        subst e1; subst e2; exact last _ hn
  exact this n 0 n (by omega) (by omega) hr (Nat.le_refl _)
theorem zhb {α : Type} {f : Nat → Option Lv} {l : List α} {d : α} {p : α → Bool} {ret : Nat → Option Lv} {e : Option Lv} (step : ∀ i, i < l.length → f i = cond (p (nth d l i)) (ret i) (f (i + 1))) (last : f l.length = e) :
    f 0 = match l.findIdx? p with | some i => ret i | none => e := by
  have : ∀ m i, l.length - i = m → i ≤ l.length → f i = match (l.drop i).findIdx? p with | some j => ret (i + j) | none => e := by
    intro m
    induction m with
    | zero =>
      intro i hm hi
      have : i = l.length := by omega
      subst this; rw [last, List.drop_length]; rfl
    | succ m ih =>
      intro i hm hi
      rw [step i (by omega), zdo d (show i < l.length by omega), List.findIdx?_cons]
      cases p (nth d l i)
      · rw [cond_false, ih (i + 1) (by omega) (by omega)]
        cases (l.drop (i + 1)).findIdx? p with
        | none => rfl
        | some j => simp only [Option.map_some]; rw [show i + 1 + j = i + (j + 1) by omega]; rfl
      · rfl
  have h := this l.length 0 (by omega) (by omega)
  rw [List.drop_zero] at h
  rw [h]
  cases l.findIdx? p with
  | none => rfl
  | some j => simp
def lb {α : Type} (q : α → Bool) (l : List α) : Nat := (l.takeWhile q).length
theorem lb_le {α : Type} (q : α → Bool) (l : List α) : lb q l ≤ l.length := by
  unfold lb
  induction l with
  | nil => simp
  | cons a l ih => rw [List.takeWhile_cons]; split <;> simp <;> omega
theorem lb_lt {α : Type} (q : α → Bool) (d : α) : ∀ (l : List α) j, j < lb q l → q (nth d l j) = true
  | [], j, h => by simp [lb] at h
  | a :: l, j, h => by
    unfold lb at h
    rw [List.takeWhile_cons] at h
    split at h
    · rename_i hq
      cases j with
      | zero => exact hq
      | succ j => rw [zc5]; exact lb_lt q d l j (by simpa [lb] using h)
    · simp at h
theorem lb_at {α : Type} (q : α → Bool) (d : α) : ∀ (l : List α), lb q l < l.length → q (nth d l (lb q l)) = false
  | [], h => by simp at h
  | a :: l, h => by
    unfold lb at h ⊢
    rw [List.takeWhile_cons] at h ⊢
    split
    · rename_i hq
      rw [if_pos hq] at h
      simp only [List.length_cons, zc5] at h ⊢
      exact lb_at q d l (by unfold lb; omega)
    · rename_i hq; simp only [List.length_nil, ze5]; simpa using hq
end KV
end
section
namespace KV
open Go Go.Eng
open Classical
theorem zim : ∀ (n : Nat) (k : Int) (s : Bs), n ≤ 18 → 0 ≤ k → k < 10 ^ n → s.size + n + 1 ≤ 1099511627776 → ∃ t, Lqd (some 4) [.i k, .s s] = some [.s t]
  | 0, k, s, hn, h0, h1, hs => by
    have hk : k = 0 := by have : (10 : Int) ^ 0 = 1 := rfl; omega
    have h2 : (⟨#[109]⟩ : Bs).size = 1 := rfl
    refine ⟨(⟨#[109]⟩ : Bs) ++ s, ?_⟩
    rw [eqd_4, mostE, hk]; simp (disch := omega) only [push_cast]
  | n + 1, k, s, hn, h0, h1, hs => by
    have h2 : (⟨#[109]⟩ : Bs).size = 1 := rfl
    by_cases hk : 0 < k
    · have h3 : k.tdiv 10 = k / 10 := Int.tdiv_eq_ediv_of_nonneg h0
      have h4 : (10 : Int) ^ (n + 1) = 10 ^ n * 10 := Int.pow_succ 10 n
      have h5 : (10 : Int) ^ n ≤ 10 ^ 18 := by
        have : (10 : Nat) ^ n ≤ 10 ^ 18 := Nat.pow_le_pow_right (by omega) (by omega)
        exact_mod_cast this
      have h6 : (10 : Int) ^ 18 = 1000000000000000000 := by decide
      have h7 : k / 10 < 10 ^ n := by omega
      generalize hb : bytesOf ([[.i (IntKind.u8.wrap (IntKind.i64.wrap (48 + (k.tmod 10))))]] : Rw) = b
      have h8 : b.size = 1 := by rw [← hb, zdx]; rfl
      obtain ⟨t, ht⟩ := zim n (k / 10) (b ++ s) (by omega) (by omega) h7 (by rw [zdg]; omega)
      refine ⟨t, ?_⟩
      rw [eqd_4, mostE, hb, h3]
      have h9 : IntKind.i64.wrap (k / 10) = k / 10 := w64 (by omega)
      simp (disch := omega) only [push_cast, h9]
      exact ht
    · have hk : k = 0 := by omega
      refine ⟨(⟨#[109]⟩ : Bs) ++ s, ?_⟩
      rw [eqd_4, mostE, hk]; simp (disch := omega) only [push_cast]
noncomputable def mt (k : Int) : Bs := (g ((Lqd none [.i k]).getD []) 0).str
theorem zbr {k : Int} (h : k < 1000000000000000000) : Lqd none [.i k] = some [.s (mt k)] := by
  have : ∃ t, Lqd none [.i k] = some [.s t] := by
    by_cases hk : k ≤ 0
    · exact ⟨⟨#[109, 48]⟩, by rw [eqd_i]; simp (disch := omega) only [push_cast]⟩
    · have h6 : (10 : Int) ^ 18 = 1000000000000000000 := by decide
      have h7 : (⟨#[]⟩ : Bs).size = 0 := rfl
      obtain ⟨t, ht⟩ := zim 18 k (⟨#[]⟩ : Bs) (by omega) (by omega) (by omega) (by omega)
      exact ⟨t, by rw [eqd_i]; simp (disch := omega) only [push_cast]; exact ht⟩
  obtain ⟨t, ht⟩ := this
  unfold mt
  rw [ht]; rfl
theorem zd8 (xs : Rw) (i o : Nat) (c : C) : wrs xs i o [c] = wr xs i o c := rfl
theorem castS (i : Nat) : ((i + 1 : Nat) : Int) = (i : Int) + 1 := by omega
def MarkS (k : Int) (ys : Rw) : Prop := ∀ i, i < ys.length → (rd ys i 0).str = mt (k + (i : Int))
theorem zht (xs : Rw) (k : Int) (hk : 0 ≤ k) (hb : k + (xs.length : Int) ≤ 100000000000000000) : ∃ ys, Lqw none [.i k, .l xs] = some [.i (k + (xs.length : Int)), .l ys] ∧ ys.length = xs.length ∧ MarkS k ys := by
  rw [eqw_i]
  have := zb3 (f := fun (i : Nat) (a : Rw) => Lqw (some 2) [.i (k + (i : Int)), .i (i : Int), .l a]) (n := xs.length)
    (T := fun r => ∃ ys, r = some [.i (k + (xs.length : Int)), .l ys] ∧ ys.length = xs.length ∧ MarkS k ys)
    (I := fun i a => a.length = xs.length ∧ ∀ j, j < i → (rd a j 0).str = mt (k + (j : Int))) (fun i a hi hI => .inl ⟨wr a i 0 (.s (mt (k + (i : Int)))), by
      show Lqw _ _ = Lqw _ _
      rw [show k + ((i + 1 : Nat) : Int) = k + (i : Int) + 1 by omega, castS]
      have h1 := hI.1
      rw [eqw_2, zbr (by omega)]
      simp (disch := omega) only [push_cast, zd8], by rw [zi]; exact hI.1, fun j hj => by
        rw [rd_wr (by rw [hI.1]; exact hi)]
        by_cases h : j = i
        · subst h; rw [if_pos ⟨rfl, rfl⟩]; rfl
        · rw [if_neg fun q => h q.1]; exact hI.2 j (by omega)⟩) (fun a hI => ⟨a, by
      show Lqw _ _ = _
      have h1 := hI.1
      rw [eqw_2]; simp (disch := omega) only [push_cast], hI.1, fun j hj => hI.2 j (by rw [← hI.1]; exact hj)⟩) 0 xs (Nat.zero_le _) ⟨rfl, fun j hj => by omega⟩
  simpa using this
theorem zkp {ys : Rw} {k : Int} (hk : 0 ≤ k) (hb : k + (ys.length : Int) ≤ 100000000000000000) (h : MarkS k ys) : Lqbj none [.l ys, .i k] = some [.i (k + (ys.length : Int))] := by
  rw [eqbj_i]
  have := zy (f := fun (i : Nat) (_ : Unit) => Lqbj (some 2) [.l ys, .i (k + (i : Int)), .i (i : Int)]) (n := ys.length) (T := some [.i (k + (ys.length : Int))]) (I := fun i _ => True)
    (fun i _ hi _ => ⟨(), by
      show Lqbj _ _ = Lqbj _ _
      rw [show k + ((i + 1 : Nat) : Int) = k + (i : Int) + 1 by omega, castS]
      rw [eqbj_2, zbr (by omega)]
      simp (disch := omega) only [push_cast, h i hi], trivial⟩) (fun _ _ => by
      show Lqbj _ _ = _
      rw [eqbj_2]; simp (disch := omega) only [push_cast]) 0 () (Nat.zero_le _) trivial
  simpa using this
end KV
end
section
namespace KV
open Go Go.Eng
open Classical
def offK (xs : Rw) : Nat → Int
  | 0 => 0
  | i + 1 => offK xs i + 3 + ((rd xs i 3).list.length : Int)
theorem zb4 (xs : Rw) : ∀ {i j : Nat}, i ≤ j → offK xs i ≤ offK xs j
  | i, 0, h => by have : i = 0 := by omega
                  subst this; exact Int.le_refl _
  | i, j + 1, h => by
    rcases Nat.lt_or_ge i (j + 1) with h1 | h1
    · have := zb4 xs (i := i) (j := j) (by omega)
      show _ ≤ offK xs j + 3 + _
      omega
    · have : i = j + 1 := by omega
      subst this; exact Int.le_refl _
def RowK (xs a : Rw) (j : Nat) (q : Int) : Prop := (rd a j 0).str = mt q ∧ (rd a j 1).int = q + 1 ∧ (rd a j 2).str = mt (q + 1 + 1) ∧ MarkS (q + 1 + 1 + 1) (rd a j 3).list ∧ (rd a j 3).list.length = (rd xs j 3).list.length
theorem zm1 (xs : Rw) (k : Int) (hk : 0 ≤ k) (hb : k + offK xs xs.length ≤ 100000000000000000) (hl : xs.length ≤ 1000000000) : ∃ ys, Lqbg none [.i k, .l xs] = some [.i (k + offK xs xs.length), .l ys] ∧ ys.length = xs.length ∧ ∀ j, j < xs.length → RowK xs ys j (k + offK xs j) := by
  rw [eqbg_i]
  have := zb3 (f := fun (i : Nat) (a : Rw) => Lqbg (some 2) [.i (k + offK xs i), .i (i : Int), .l a]) (n := xs.length)
    (T := fun r => ∃ ys, r = some [.i (k + offK xs xs.length), .l ys] ∧ ys.length = xs.length ∧ ∀ j, j < xs.length → RowK xs ys j (k + offK xs j))
    (I := fun i a => a.length = xs.length ∧ (∀ j, i ≤ j → (rd a j 3).list = (rd xs j 3).list) ∧ ∀ j, j < i → RowK xs a j (k + offK xs j)) (fun i a hi hI => by
      obtain ⟨h1, h2, h3⟩ := hI
      have o1 := zb4 xs (i := 0) (j := i) (by omega)
      have o2 := zb4 xs (i := i + 1) (j := xs.length) (by omega)
      have o3 : offK xs (i + 1) = offK xs i + 3 + ((rd xs i 3).list.length : Int) := rfl
      have o0 : offK xs 0 = 0 := rfl
      generalize hq : k + offK xs i = q
      have hlen := h2 i (Nat.le_refl _)
      obtain ⟨ys, m1, m2, m3⟩ := zht (rd a i 3).list (q + 1 + 1 + 1) (by omega) (by rw [hlen]; omega)
      left
      have hia : i < a.length := by omega
      have r3 : rd (wr (wr (wr a i 0 (.s (mt q))) i 1 (.i (q + 1))) i 2 (.s (mt (q + 1 + 1)))) i 3 = rd a i 3 := by
        rw [rd_wr (by rw [zi, zi]; exact hia), if_neg (by omega), rd_wr (by rw [zi]; exact hia), if_neg (by omega), rd_wr hia, if_neg (by omega)]
      have rr : ∀ j p, rd (wr (wr (wr (wr a i 0 (.s (mt q))) i 1 (.i (q + 1))) i 2 (.s (mt (q + 1 + 1)))) i 3 (.l ys)) j p = if j = i ∧ p = 3 then .l ys else if j = i ∧ p = 2 then .s (mt (q + 1 + 1)) else if j = i ∧ p = 1 then .i (q + 1) else if j = i ∧ p = 0 then .s (mt q) else rd a j p := by
        intro j p
        rw [rd_wr (by rw [zi, zi, zi]; exact hia), rd_wr (by rw [zi, zi]; exact hia), rd_wr (by rw [zi]; exact hia), rd_wr hia]
      refine ⟨wr (wr (wr (wr a i 0 (.s (mt q))) i 1 (.i (q + 1))) i 2 (.s (mt (q + 1 + 1)))) i 3 (.l ys), ?_, by rw [zi, zi, zi, zi]; exact h1, fun j hj => ?_, fun j hj => ?_⟩
      · show Lqbg _ _ = Lqbg _ _
        rw [castS, o3, show k + (offK xs i + 3 + ((rd xs i 3).list.length : Int)) = q + 1 + 1 + 1 + ((rd xs i 3).list.length : Int) by omega]
        rw [eqbg_2, zbr (by omega)]
        simp (disch := omega) only [push_cast, zd8, zi, zbr (k := q + 1 + 1) (by omega), r3, m1]
        rw [hlen]
      · rw [rr, if_neg (by omega), if_neg (by omega), if_neg (by omega), if_neg (by omega)]; exact h2 j (by omega)
      · by_cases h : j = i
        · subst h
          unfold RowK
          rw [rr, rr, rr, rr, hq]
          simp only [true_and, if_true, Nat.reduceEqDiff, if_false]
          exact ⟨rfl, rfl, rfl, m3, by rw [← hlen]; exact m2⟩
        · have := h3 j (by omega)
          unfold RowK at this ⊢
          rw [rr, rr, rr, rr]
          simp only [h, false_and, if_false]
          exact this) (fun a hI => ⟨a, by
      show Lqbg _ _ = _
      have h1 := hI.1
      rw [eqbg_2]; simp (disch := omega) only [push_cast], hI.1, fun j hj => hI.2.2 j hj⟩) 0 xs (Nat.zero_le _) ⟨rfl, fun j _ => rfl, fun j hj => by omega⟩
  simpa [offK] using this
theorem zl0 {xs ys : Rw} {k : Int} (hk : 0 ≤ k) (hb : k + offK xs xs.length ≤ 100000000000000000) (hl : xs.length ≤ 1000000000) (h1 : ys.length = xs.length) (h2 : ∀ j, j < xs.length → RowK xs ys j (k + offK xs j)) : Lqbk none [.l ys, .i k] = some [.i (k + offK xs xs.length)] := by
  rw [eqbk_i]
  have := zy (f := fun (i : Nat) (_ : Unit) => Lqbk (some 2) [.l ys, .i (k + offK xs i), .i (i : Int)]) (n := xs.length) (T := some [.i (k + offK xs xs.length)]) (I := fun i _ => True)
    (fun i _ hi _ => ⟨(), by
      have o1 := zb4 xs (i := 0) (j := i) (by omega)
      have o2 := zb4 xs (i := i + 1) (j := xs.length) (by omega)
      have o3 : offK xs (i + 1) = offK xs i + 3 + ((rd xs i 3).list.length : Int) := rfl
      have o0 : offK xs 0 = 0 := rfl
      obtain ⟨r1, r2, r3, r4, r5⟩ := h2 i hi
      show Lqbk _ _ = Lqbk _ _
      generalize hq : k + offK xs i = q at r1 r2 r3 r4
      rw [castS, o3, show k + (offK xs i + 3 + ((rd xs i 3).list.length : Int)) = q + 1 + 1 + 1 + ((rd xs i 3).list.length : Int) by omega]
      rw [eqbk_2, zbr (by omega)]
      simp (disch := omega) only [push_cast, r1, r2, r3, zbr (k := q + 1 + 1) (by omega), zkp (k := q + 1 + 1 + 1) (by omega) (by rw [r5]; omega) r4]
      rw [r5], trivial⟩) (fun _ _ => by
      show Lqbk _ _ = _
      rw [eqbk_2]; simp (disch := omega) only [push_cast]) 0 () (Nat.zero_le _) trivial
  simpa [offK] using this
def zil (k : Int) (n : Nat) (ys : Rw) : Prop := ys.length = n ∧ ∀ j, j < n → (rd ys j 0).str = mt (k + 2 * (j : Int)) ∧ (rd ys j 1).str = mt (k + 2 * (j : Int) + 1)
theorem zph (xs : Rw) (k : Int) (hk : 0 ≤ k) (hb : k + 2 * (xs.length : Int) ≤ 100000000000000000) : ∃ ys, Lqbh none [.i k, .l xs] = some [.i (k + 2 * (xs.length : Int)), .l ys] ∧ ys.length = xs.length ∧ ∀ j, j < xs.length → (rd ys j 0).str = mt (k + 2 * (j : Int)) ∧ (rd ys j 1).str = mt (k + 2 * (j : Int) + 1) := by
  rw [eqbh_i]
  have := zb3 (f := fun (i : Nat) (a : Rw) => Lqbh (some 2) [.i (k + 2 * (i : Int)), .i (i : Int), .l a]) (n := xs.length)
    (T := fun r => ∃ ys, r = some [.i (k + 2 * (xs.length : Int)), .l ys] ∧ ys.length = xs.length ∧ ∀ j, j < xs.length → (rd ys j 0).str = mt (k + 2 * (j : Int)) ∧ (rd ys j 1).str = mt (k + 2 * (j : Int) + 1))
    (I := fun i a => a.length = xs.length ∧ ∀ j, j < i → (rd a j 0).str = mt (k + 2 * (j : Int)) ∧ (rd a j 1).str = mt (k + 2 * (j : Int) + 1)) (fun i a hi hI => by
      obtain ⟨h1, h3⟩ := hI
      have hia : i < a.length := by omega
      have rr : ∀ j p, rd (wr (wr a i 0 (.s (mt (k + 2 * (i : Int))))) i 1 (.s (mt (k + 2 * (i : Int) + 1)))) j p = if j = i ∧ p = 1 then .s (mt (k + 2 * (i : Int) + 1)) else if j = i ∧ p = 0 then .s (mt (k + 2 * (i : Int))) else rd a j p := by
        intro j p
        rw [rd_wr (by rw [zi]; exact hia), rd_wr hia]
      refine .inl ⟨wr (wr a i 0 (.s (mt (k + 2 * (i : Int))))) i 1 (.s (mt (k + 2 * (i : Int) + 1))), ?_, by rw [zi, zi]; exact h1, fun j hj => ?_⟩
      · show Lqbh _ _ = Lqbh _ _
        rw [castS, show k + 2 * ((i : Int) + 1) = k + 2 * (i : Int) + 1 + 1 by omega]
        rw [eqbh_2, zbr (by omega)]
        simp (disch := omega) only [push_cast, zd8, zi, zbr (k := k + 2 * (i : Int) + 1) (by omega)]
      · by_cases h : j = i
        · subst h; rw [rr, rr]; simp [C.str]
        · rw [rr, rr]; simp only [h, false_and, if_false]; exact h3 j (by omega)) (fun a hI => ⟨a, by
      show Lqbh _ _ = _
      have h1 := hI.1
      rw [eqbh_2]; simp (disch := omega) only [push_cast], hI.1, fun j hj => hI.2 j hj⟩) 0 xs (Nat.zero_le _) ⟨rfl, fun j hj => by omega⟩
  simpa using this
theorem zn1 {ys : Rw} {n : Nat} {k : Int} (hk : 0 ≤ k) (hb : k + 2 * (n : Int) ≤ 100000000000000000) (h : zil k n ys) : Lqbl none [.l ys, .i k] = some [.i (k + 2 * (n : Int))] := by
  obtain ⟨b, c⟩ := h
  rw [eqbl_i]
  have := zy (f := fun (i : Nat) (_ : Unit) => Lqbl (some 2) [.l ys, .i (k + 2 * (i : Int)), .i (i : Int)]) (n := n) (T := some [.i (k + 2 * (n : Int))]) (I := fun i _ => True)
    (fun i _ hi _ => ⟨(), by
      obtain ⟨r1, r2⟩ := c i hi
      show Lqbl _ _ = Lqbl _ _
      rw [castS, show k + 2 * ((i : Int) + 1) = k + 2 * (i : Int) + 1 + 1 by omega]
      rw [eqbl_2, zbr (by omega)]
      simp (disch := omega) only [push_cast, r1, r2, zbr (k := k + 2 * (i : Int) + 1) (by omega)], trivial⟩) (fun _ _ => by
      show Lqbl _ _ = _
      rw [eqbl_2]; simp (disch := omega) only [push_cast]) 0 () (Nat.zero_le _) trivial
  simpa using this
def zi0 (k : Int) (n : Nat) (ys : Rw) : Prop := ys.length = n ∧ ∀ j, j < n → (rd ys j 0).int = k + 3 * (j : Int) ∧ (rd ys j 1).str = mt (k + 3 * (j : Int) + 1) ∧ (rd ys j 2).int = k + 3 * (j : Int) + 1 + 1
theorem zo5 (xs : Rw) (k : Int) (hk : 0 ≤ k) (hb : k + 3 * (xs.length : Int) ≤ 100000000000000000) : ∃ ys, Lqbi none [.i k, .l xs] = some [.i (k + 3 * (xs.length : Int)), .l ys] ∧ ys.length = xs.length ∧ ∀ j, j < xs.length → (rd ys j 0).int = k + 3 * (j : Int) ∧ (rd ys j 1).str = mt (k + 3 * (j : Int) + 1) ∧ (rd ys j 2).int = k + 3 * (j : Int) + 1 + 1 := by
  rw [eqbi_i]
  have := zb3 (f := fun (i : Nat) (a : Rw) => Lqbi (some 2) [.i (k + 3 * (i : Int)), .i (i : Int), .l a]) (n := xs.length)
    (T := fun r => ∃ ys, r = some [.i (k + 3 * (xs.length : Int)), .l ys] ∧ ys.length = xs.length ∧ ∀ j, j < xs.length → (rd ys j 0).int = k + 3 * (j : Int) ∧ (rd ys j 1).str = mt (k + 3 * (j : Int) + 1) ∧ (rd ys j 2).int = k + 3 * (j : Int) + 1 + 1)
    (I := fun i a => a.length = xs.length ∧ ∀ j, j < i → (rd a j 0).int = k + 3 * (j : Int) ∧ (rd a j 1).str = mt (k + 3 * (j : Int) + 1) ∧ (rd a j 2).int = k + 3 * (j : Int) + 1 + 1) (fun i a hi hI => by
      obtain ⟨h1, h3⟩ := hI
      have hia : i < a.length := by omega
      have rr : ∀ j p, rd (wr (wr (wr a i 0 (.i (k + 3 * (i : Int)))) i 1 (.s (mt (k + 3 * (i : Int) + 1)))) i 2 (.i (k + 3 * (i : Int) + 1 + 1))) j p = if j = i ∧ p = 2 then .i (k + 3 * (i : Int) + 1 + 1) else if j = i ∧ p = 1 then .s (mt (k + 3 * (i : Int) + 1)) else if j = i ∧ p = 0 then .i (k + 3 * (i : Int)) else rd a j p := by
        intro j p
        rw [rd_wr (by rw [zi, zi]; exact hia), rd_wr (by rw [zi]; exact hia), rd_wr hia]
      refine .inl ⟨wr (wr (wr a i 0 (.i (k + 3 * (i : Int)))) i 1 (.s (mt (k + 3 * (i : Int) + 1)))) i 2 (.i (k + 3 * (i : Int) + 1 + 1)), ?_, by rw [zi, zi, zi]; exact h1, fun j hj => ?_⟩
      · show Lqbi _ _ = Lqbi _ _
        rw [castS, show k + 3 * ((i : Int) + 1) = k + 3 * (i : Int) + 1 + 1 + 1 by omega]
        rw [eqbi_2]
        simp (disch := omega) only [push_cast, zd8, zi, zbr (k := k + 3 * (i : Int) + 1) (by omega)]
      · by_cases h : j = i
        · subst h; rw [rr, rr, rr]; simp [C.str, C.int]
        · rw [rr, rr, rr]; simp only [h, false_and, if_false]; exact h3 j (by omega)) (fun a hI => ⟨a, by
      show Lqbi _ _ = _
      have h1 := hI.1
      rw [eqbi_2]; simp (disch := omega) only [push_cast], hI.1, fun j hj => hI.2 j hj⟩) 0 xs (Nat.zero_le _) ⟨rfl, fun j hj => by omega⟩
  simpa using this
theorem zjy {ys : Rw} {n : Nat} {k : Int} (hk : 0 ≤ k) (hb : k + 3 * (n : Int) ≤ 100000000000000000) (h : zi0 k n ys) : Lqbm none [.l ys, .i k] = some [.i (k + 3 * (n : Int))] := by
  obtain ⟨b, c⟩ := h
  rw [eqbm_i]
  have := zy (f := fun (i : Nat) (_ : Unit) => Lqbm (some 2) [.l ys, .i (k + 3 * (i : Int)), .i (i : Int)]) (n := n) (T := some [.i (k + 3 * (n : Int))]) (I := fun i _ => True)
    (fun i _ hi _ => ⟨(), by
      obtain ⟨r1, r2, r3⟩ := c i hi
      show Lqbm _ _ = Lqbm _ _
      rw [castS, show k + 3 * ((i : Int) + 1) = k + 3 * (i : Int) + 1 + 1 + 1 by omega]
      rw [eqbm_2]
      simp (disch := omega) only [push_cast, r1, r2, r3, zbr (k := k + 3 * (i : Int) + 1) (by omega)], trivial⟩) (fun _ _ => by
      show Lqbm _ _ = _
      rw [eqbm_2]; simp (disch := omega) only [push_cast]) 0 () (Nat.zero_le _) trivial
  simpa using this
end KV
end
section
namespace KV
open Go Go.Eng
open Classical
theorem mostZ : ((most : Nat) : Int) = 1099511627776 := rfl
theorem zke (p q : List C) (x c : C) : setAt (p ++ x :: q) p.length c = p ++ c :: q := by
  induction p with
  | nil => rfl
  | cons y p ih => show y :: setAt (p ++ x :: q) p.length c = _; rw [ih]; rfl
theorem zja : ∀ (r p q : List C) (a : Rw) (i : Nat), i < a.length → a.getD i [] = p ++ q → q.length = r.length → wrs a i p.length r = a.set i (p ++ r)
  | [], p, q, a, i, hi, h, hq => by
    have : q = [] := List.eq_nil_of_length_eq_zero hq
    subst this
    show a = _
    rw [← h]
    apply List.ext_getElem?
    intro n
    rw [List.getElem?_set]
    split
    · rename_i hn; subst hn; rw [List.getD_eq_getElem?_getD, List.getElem?_eq_getElem hi]; rfl
    · rfl
  | c :: r, p, q, a, i, hi, h, hq => by
    cases q with
    | nil => simp at hq
    | cons x q =>
      show wrs (wr a i p.length c) i (p.length + 1) r = _
      have hw : wr a i p.length c = a.set i (p ++ c :: q) := by unfold wr; rw [h, zke]
      have := zja r (p ++ [c]) q (wr a i p.length c) i (by rw [zi]; exact hi) (by
        rw [hw, List.getD_eq_getElem?_getD, List.getElem?_set, if_pos rfl, if_pos hi]; simp) (by simpa using hq)
      rw [List.length_append] at this
      rw [show p.length + 1 = p.length + [c].length from rfl, this, hw]
      simp
theorem zdl {a : Rw} {i : Nat} {z r : List C} (hi : i < a.length) (h : a.getD i [] = z) (hl : z.length = r.length) : wrs a i 0 r = a.set i r := by
  have := zja r [] z a i hi (by rw [h]; rfl) hl
  simpa using this
theorem zdi {β : Type} {f : Nat → Rw → β} {ys : Rw} {z : List C} {T : β} (step : ∀ i a, i < ys.length → a.length = ys.length → a.getD i [] = z → f i a = f (i + 1) (a.set i (ys.getD i []))) (last : f ys.length ys = T) : f 0 (List.replicate ys.length z) = T := by
  refine zy (f := f) (n := ys.length) (I := fun i a => a.length = ys.length ∧ ∀ j, j < ys.length → a.getD j [] = if j < i then ys.getD j [] else z) (fun i a hi hI => ⟨_, step i a hi hI.1 (by rw [hI.2 i hi, if_neg (by omega)]), by rw [List.length_set]; exact hI.1, fun j hj => ?_⟩) (fun a hI => ?_) 0 _ (Nat.zero_le _) ⟨by simp, fun j hj => by simp [List.getD_eq_getElem?_getD, hj]⟩
  · rw [List.getD_eq_getElem?_getD, List.getElem?_set]
    by_cases h : i = j
    · subst h; rw [if_pos rfl, if_pos (by rw [hI.1]; exact hi), if_pos (by omega)]; rfl
    · rw [if_neg h, ← List.getD_eq_getElem?_getD, hI.2 j hj]
      by_cases h2 : j < i
      · rw [if_pos h2, if_pos (by omega)]
      · rw [if_neg h2, if_neg (by omega)]
  · have : a = ys := by
      apply List.ext_getElem hI.1
      intro n h1 h2
      have := hI.2 n h2
      rw [if_pos h2, List.getD_eq_getElem?_getD, List.getD_eq_getElem?_getD, List.getElem?_eq_getElem h1, List.getElem?_eq_getElem h2] at this
      simpa using this
    rw [this, last]
theorem zdz {α : Type} (f : α → List C) (d : α) (l : List α) (i : Nat) (h : i < l.length) : (l.map f).getD i [] = f (nth d l i) := by
  simp [nth, List.getD_eq_getElem?_getD, h]
theorem zn3 (l : List Bs) (h : l.length ≤ 1099511627776) : Lqbo none [.l (encS l)] = some [.l (encS l)] := by
  rw [eqbo_i, mostZ]; simp (disch := omega) only [push_cast]
  refine Eq.trans ?_ (zdi (f := fun (i : Nat) (a : Rw) => Lqbo (some 3) [.l (encS l), .i (i : Int), .l a]) (ys := encS l) (z := [.s ⟨#[]⟩]) (fun i a hi ha hz => ?_) ?_)
  · simp only [zr]; rfl
  · rw [zr] at hi
    rw [zr] at ha
    show Lqbo _ _ = Lqbo _ _
    rw [castS, eqbo_3]
    simp (disch := omega) only [push_cast]
    rw [zdl (by omega) hz (by rfl), encS, zdz _ .empty _ _ hi]
  · show Lqbo _ _ = _
    rw [eqbo_3]; simp (disch := omega) only [push_cast]
theorem zmn (l : List Bs) (h : l.length ≤ 1099511627776) : Lq8 none [.l (encS l)] = some [.l (encS l)] := by
  rw [eq8_i, mostZ]; simp (disch := omega) only [push_cast]
  refine Eq.trans ?_ (zdi (f := fun (i : Nat) (a : Rw) => Lq8 (some 3) [.l (encS l), .i (i : Int), .l a]) (ys := encS l) (z := [.s ⟨#[]⟩]) (fun i a hi ha hz => ?_) ?_)
  · simp only [zr]; rfl
  · rw [zr] at hi
    rw [zr] at ha
    show Lq8 _ _ = Lq8 _ _
    rw [castS, eq8_3]
    simp (disch := omega) only [push_cast]
    rw [zdl (by omega) hz (by rfl), encS, zdz _ .empty _ _ hi]
  · show Lq8 _ _ = _
    rw [eq8_3]; simp (disch := omega) only [push_cast]
theorem zlg (a : Bs) (b : Int) (c : Bs) (l : List Bs) (h : l.length ≤ 1099511627776) : Lqci none [.s a, .i b, .s c, .l (encS l)] = some [.s a, .i b, .s c, .l (encS l)] := by
  rw [eqci_i, eqcr_i]; simp (disch := omega) only [push_cast, zmn l h]
theorem zmw (l : List Kept) (h : l.length ≤ 1099511627776) (hr : ∀ k ∈ l, k.thing.refs.length ≤ 1099511627776) : Lq9 none [.l (encK l)] = some [.l (encK l)] := by
  rw [eq9_i, mostZ]; simp (disch := omega) only [push_cast]
  refine Eq.trans ?_ (zdi (f := fun (i : Nat) (a : Rw) => Lq9 (some 3) [.l (encK l), .i (i : Int), .l a]) (ys := encK l) (z := [.s ⟨#[]⟩, .i 0, .s ⟨#[]⟩, .l []]) (fun i a hi ha hz => ?_) ?_)
  · simp only [zbl]; rfl
  · rw [zbl] at hi
    rw [zbl] at ha
    show Lq9 _ _ = Lq9 _ _
    rw [castS, eq9_3]
    simp (disch := omega) only [push_cast, zlg _ _ _ _ (hr _ (zl (d := K0) hi))]
    rw [zdl (by omega) hz (by rfl), encK, zdz _ K0 _ _ hi]; rfl
  · show Lq9 _ _ = _
    rw [eq9_3]; simp (disch := omega) only [push_cast]
theorem zku (l : List Pin) (h : l.length ≤ 1099511627776) : Lqba none [.l (encP l)] = some [.l (encP l)] := by
  rw [eqba_i, mostZ]; simp (disch := omega) only [push_cast]
  refine Eq.trans ?_ (zdi (f := fun (i : Nat) (a : Rw) => Lqba (some 3) [.l (encP l), .i (i : Int), .l a]) (ys := encP l) (z := [.s ⟨#[]⟩, .s ⟨#[]⟩]) (fun i a hi ha hz => ?_) ?_)
  · simp only [zbj]; rfl
  · rw [zbj] at hi
    rw [zbj] at ha
    show Lqba _ _ = Lqba _ _
    rw [castS, eqba_3, eqcs_i]
    simp (disch := omega) only [push_cast]
    rw [zdl (by omega) hz (by rfl), encP, zdz _ P0 _ _ hi]; rfl
  · show Lqba _ _ = _
    rw [eqba_3]; simp (disch := omega) only [push_cast]
theorem zm4 (l : List Lease) (h : l.length ≤ 1099511627776) : Lqbb none [.l (encL l)] = some [.l (encL l)] := by
  rw [eqbb_i, mostZ]; simp (disch := omega) only [push_cast]
  refine Eq.trans ?_ (zdi (f := fun (i : Nat) (a : Rw) => Lqbb (some 3) [.l (encL l), .i (i : Int), .l a]) (ys := encL l) (z := [.i 0, .s ⟨#[]⟩, .i 0]) (fun i a hi ha hz => ?_) ?_)
  · simp only [zbq]; rfl
  · rw [zbq] at hi
    rw [zbq] at ha
    show Lqbb _ _ = Lqbb _ _
    rw [castS, eqbb_3, eqct_i]
    simp (disch := omega) only [push_cast]
    rw [zdl (by omega) hz (by rfl), encL, zdz _ L0 _ _ hi]; rfl
  · show Lqbb _ _ = _
    rw [eqbb_3]; simp (disch := omega) only [push_cast]
theorem zhu (xs : Rw) (h : xs.length ≤ 4611686018427387904) : Lqbc none [.l xs, .l xs] = some [.b true] := by
  rw [eqbc_i]; simp (disch := omega) only [push_cast]
  exact zy (f := fun (i : Nat) (_ : Unit) => Lqbc (some 4) [.l xs, .l xs, .i (i : Int)]) (n := xs.length) (T := some [.b true]) (I := fun i _ => True)
    (fun i _ hi _ => ⟨(), by
      show Lqbc _ _ = Lqbc _ _
      rw [castS, eqbc_4]; simp (disch := omega) only [push_cast], trivial⟩) (fun _ _ => by
      show Lqbc _ _ = _
      rw [eqbc_4]; simp (disch := omega) only [push_cast]) 0 () (Nat.zero_le _) trivial
theorem zo0 (xs : Rw) (h : xs.length ≤ 4611686018427387904) (hr : ∀ i, (rd xs i 3).list.length ≤ 4611686018427387904) : Lqbd none [.l xs, .l xs] = some [.b true] := by
  rw [eqbd_i]; simp (disch := omega) only [push_cast]
  exact zy (f := fun (i : Nat) (_ : Unit) => Lqbd (some 4) [.l xs, .l xs, .i (i : Int)]) (n := xs.length) (T := some [.b true]) (I := fun i _ => True)
    (fun i _ hi _ => ⟨(), by
      show Lqbd _ _ = Lqbd _ _
      rw [castS, eqbd_4, eqcu_i, eqb0_i]; simp (disch := omega) only [push_cast, zhu _ (hr _)], trivial⟩) (fun _ _ => by
      show Lqbd _ _ = _
      rw [eqbd_4]; simp (disch := omega) only [push_cast]) 0 () (Nat.zero_le _) trivial
theorem znu (xs : Rw) (h : xs.length ≤ 4611686018427387904) : Lqbe none [.l xs, .l xs] = some [.b true] := by
  rw [eqbe_i]; simp (disch := omega) only [push_cast]
  exact zy (f := fun (i : Nat) (_ : Unit) => Lqbe (some 4) [.l xs, .l xs, .i (i : Int)]) (n := xs.length) (T := some [.b true]) (I := fun i _ => True)
    (fun i _ hi _ => ⟨(), by
      show Lqbe _ _ = Lqbe _ _
      rw [castS, eqbe_4, eqcv_i]; simp (disch := omega) only [push_cast], trivial⟩) (fun _ _ => by
      show Lqbe _ _ = _
      rw [eqbe_4]; simp (disch := omega) only [push_cast]) 0 () (Nat.zero_le _) trivial
theorem zn2 (xs : Rw) (h : xs.length ≤ 4611686018427387904) : Lqbf none [.l xs, .l xs] = some [.b true] := by
  rw [eqbf_i]; simp (disch := omega) only [push_cast]
  exact zy (f := fun (i : Nat) (_ : Unit) => Lqbf (some 4) [.l xs, .l xs, .i (i : Int)]) (n := xs.length) (T := some [.b true]) (I := fun i _ => True)
    (fun i _ hi _ => ⟨(), by
      show Lqbf _ _ = Lqbf _ _
      rw [castS, eqbf_4, eqcw_i]; simp (disch := omega) only [push_cast], trivial⟩) (fun _ _ => by
      show Lqbf _ _ = _
      rw [eqbf_4]; simp (disch := omega) only [push_cast]) 0 () (Nat.zero_le _) trivial
end KV
end
section
namespace KV
open Go Go.Eng
open Classical
theorem zni {l : List Bs} {i : Nat} (h : i < l.length) : szs (l.take (i + 1)) = szs (l.take i) + (nth .empty l i).size := by
  rw [zba .empty h, zjv]; simp [szs]
theorem zig (l : List Bs) (left : Int) (h0 : 0 ≤ left) (h1 : left ≤ 1048576) (hl : l.length ≤ 140737488351232) (hs : ∀ x ∈ l, x.size ≤ 140737488351232) :
    ∃ y, Lqz none [.l (encS l), .i left] = some [.i y] ∧ y ≤ left ∧ (0 ≤ y → y = left - ((l.length : Int) + (szs l : Int))) := by
  rw [eqz_i]
  by_cases hn : left - (l.length : Int) < 0
  · exact ⟨-1, by simp (disch := omega) only [push_cast], by omega, fun h => by omega⟩
  simp (disch := omega) only [push_cast]
  refine zb3 (f := fun (i : Nat) (y : Int) => Lqz (some 5) [.l (encS l), .i y, .i (i : Int)]) (n := l.length)
    (T := fun r => ∃ y, r = some [.i y] ∧ y ≤ left ∧ (0 ≤ y → y = left - ((l.length : Int) + (szs l : Int)))) (I := fun i y => 0 ≤ y ∧ y = left - ((l.length : Int) + (szs (l.take i) : Int)))
    (fun i y hi hI => ?_) (fun y hI => ⟨y, ?_, by omega, fun h => ?_⟩) 0 (left - (l.length : Int)) (Nat.zero_le _) ⟨by omega, by simp [szs]⟩
  · have hx := hs _ (zl (d := .empty) hi)
    have hz := zni hi
    show (∃ s', Lqz _ _ = Lqz _ _ ∧ _) ∨ _
    by_cases hc : y - ((nth .empty l i).size : Int) < 0
    · right
      refine ⟨-1, ?_, by omega, fun h => by omega⟩
      show Lqz _ _ = _
      rw [eqz_5]; simp (disch := omega) only [push_cast]
    · left
      refine ⟨y - ((nth .empty l i).size : Int), ?_, by omega, by omega⟩
      rw [castS, eqz_5]; simp (disch := omega) only [push_cast]
  · show Lqz _ _ = _
    rw [eqz_5]; simp (disch := omega) only [push_cast]
  · rw [List.take_length] at hI; exact hI.2
def wK (k : Kept) : Nat := k.sum.size + k.thing.text.size + k.thing.refs.length + szs k.thing.refs
def wKs (l : List Kept) : Nat := (l.map wK).sum
theorem zgq {l : List Kept} {i : Nat} (h : i < l.length) : wKs (l.take (i + 1)) = wKs (l.take i) + wK (nth K0 l i) := by
  rw [zba K0 h]; simp [wKs]
structure BigK (k : Kept) : Prop where
  sum : k.sum.size ≤ 140737488351232
  text : k.thing.text.size ≤ 140737488351232
  refs : k.thing.refs.length ≤ 140737488351232
  all : ∀ x ∈ k.thing.refs, x.size ≤ 140737488351232
theorem zlb (k : Kept) (left : Int) (h0 : 0 ≤ left) (h1 : left ≤ 1048576) (B : BigK k) :
    ∃ y, Lqcf none [.s k.sum, .i k.born, .s k.thing.text, .l (encS k.thing.refs), .i left] = some [.i y] ∧ y ≤ left ∧ (0 ≤ y → y = left - (wK k : Int)) := by
  have b1 := B.sum; have b2 := B.text
  rw [eqcf_i]
  by_cases hn : left - (k.sum.size : Int) < 0
  · exact ⟨-1, by simp (disch := omega) only [push_cast], by omega, fun h => by omega⟩
  rw [eqbz_i]
  by_cases hm : left - (k.sum.size : Int) - (k.thing.text.size : Int) < 0
  · exact ⟨-1, by simp (disch := omega) only [push_cast], by omega, fun h => by omega⟩
  obtain ⟨y, y1, y2, y3⟩ := zig k.thing.refs (left - (k.sum.size : Int) - (k.thing.text.size : Int)) (by omega) (by omega) B.refs B.all
  by_cases hy : y < 0
  · exact ⟨-1, by simp (disch := omega) only [push_cast, y1], by omega, fun h => by omega⟩
  · exact ⟨y, by simp (disch := omega) only [push_cast, y1], by omega, fun h => by unfold wK; have := y3 h; omega⟩
theorem zmi (l : List Kept) (left : Int) (h0 : 0 ≤ left) (h1 : left ≤ 1048576) (hl : l.length ≤ 140737488351232) (hs : ∀ x ∈ l, BigK x) :
    ∃ y, Lq0 none [.l (encK l), .i left] = some [.i y] ∧ y ≤ left ∧ (0 ≤ y → y = left - ((l.length : Int) + (wKs l : Int))) := by
  rw [eq0_i]
  by_cases hn : left - (l.length : Int) < 0
  · exact ⟨-1, by simp (disch := omega) only [push_cast], by omega, fun h => by omega⟩
  simp (disch := omega) only [push_cast]
  refine zb3 (f := fun (i : Nat) (y : Int) => Lq0 (some 5) [.l (encK l), .i y, .i (i : Int)]) (n := l.length)
    (T := fun r => ∃ y, r = some [.i y] ∧ y ≤ left ∧ (0 ≤ y → y = left - ((l.length : Int) + (wKs l : Int)))) (I := fun i y => 0 ≤ y ∧ y = left - ((l.length : Int) + (wKs (l.take i) : Int)))
    (fun i y hi hI => ?_) (fun y hI => ⟨y, ?_, by omega, fun h => ?_⟩) 0 (left - (l.length : Int)) (Nat.zero_le _) ⟨by omega, by simp [wKs]⟩
  · obtain ⟨y', z1, z2, z3⟩ := zlb (nth K0 l i) y hI.1 (by omega) (hs _ (zl (d := K0) hi))
    have hz := zgq hi
    by_cases hc : y' < 0
    · right
      refine ⟨-1, ?_, by omega, fun h => by omega⟩
      show Lq0 _ _ = _
      rw [eq0_5]; simp (disch := omega) only [push_cast, z1]
    · left
      refine ⟨y', ?_, by omega, by have := z3 (by omega); omega⟩
      show Lq0 _ _ = Lq0 _ _
      rw [castS, eq0_5]; simp (disch := omega) only [push_cast, z1]
  · show Lq0 _ _ = _
    rw [eq0_5]; simp (disch := omega) only [push_cast]
  · rw [List.take_length] at hI; exact hI.2
def wPs (l : List Pin) : Nat := (l.map fun p => p.name.size + p.sum.size).sum
theorem zla {l : List Pin} {i : Nat} (h : i < l.length) : wPs (l.take (i + 1)) = wPs (l.take i) + ((nth P0 l i).name.size + (nth P0 l i).sum.size) := by
  rw [zba P0 h]; simp [wPs]
theorem znl (l : List Pin) (left : Int) (h0 : 0 ≤ left) (h1 : left ≤ 1048576) (hl : l.length ≤ 140737488351232) (hs : ∀ x ∈ l, x.name.size ≤ 140737488351232 ∧ x.sum.size ≤ 140737488351232) :
    ∃ y, Lqv none [.l (encP l), .i left] = some [.i y] ∧ y ≤ left ∧ (0 ≤ y → y = left - ((l.length : Int) + (wPs l : Int))) := by
  rw [eqv_i]
  by_cases hn : left - (l.length : Int) < 0
  · exact ⟨-1, by simp (disch := omega) only [push_cast], by omega, fun h => by omega⟩
  simp (disch := omega) only [push_cast]
  refine zb3 (f := fun (i : Nat) (y : Int) => Lqv (some 5) [.l (encP l), .i y, .i (i : Int)]) (n := l.length)
    (T := fun r => ∃ y, r = some [.i y] ∧ y ≤ left ∧ (0 ≤ y → y = left - ((l.length : Int) + (wPs l : Int)))) (I := fun i y => 0 ≤ y ∧ y = left - ((l.length : Int) + (wPs (l.take i) : Int)))
    (fun i y hi hI => ?_) (fun y hI => ⟨y, ?_, by omega, fun h => ?_⟩) 0 (left - (l.length : Int)) (Nat.zero_le _) ⟨by omega, by simp [wPs]⟩
  · have hx := hs _ (zl (d := P0) hi)
    have hz := zla hi
    by_cases hc : y - ((nth P0 l i).name.size : Int) < 0
    · right
      refine ⟨-1, ?_, by omega, fun h => by omega⟩
      show Lqv _ _ = _
      rw [eqv_5, eqca_i]; simp (disch := omega) only [push_cast]
    by_cases hc2 : y - ((nth P0 l i).name.size : Int) - ((nth P0 l i).sum.size : Int) < 0
    · right
      refine ⟨-1, ?_, by omega, fun h => by omega⟩
      show Lqv _ _ = _
      rw [eqv_5, eqca_i]; simp (disch := omega) only [push_cast]
    · left
      refine ⟨y - ((nth P0 l i).name.size : Int) - ((nth P0 l i).sum.size : Int), ?_, by omega, by omega⟩
      show Lqv _ _ = Lqv _ _
      rw [castS, eqv_5, eqca_i]; simp (disch := omega) only [push_cast]
  · show Lqv _ _ = _
    rw [eqv_5]; simp (disch := omega) only [push_cast]
  · rw [List.take_length] at hI; exact hI.2
def wLs (l : List Lease) : Nat := (l.map fun p => p.sum.size).sum
theorem zko {l : List Lease} {i : Nat} (h : i < l.length) : wLs (l.take (i + 1)) = wLs (l.take i) + (nth L0 l i).sum.size := by
  rw [zba L0 h]; simp [wLs]
theorem zk6 (l : List Lease) (left : Int) (h0 : 0 ≤ left) (h1 : left ≤ 1048576) (hl : l.length ≤ 140737488351232) (hs : ∀ x ∈ l, x.sum.size ≤ 140737488351232) :
    ∃ y, Lq1 none [.l (encL l), .i left] = some [.i y] ∧ y ≤ left ∧ (0 ≤ y → y = left - ((l.length : Int) + (wLs l : Int))) := by
  rw [eq1_i]
  by_cases hn : left - (l.length : Int) < 0
  · exact ⟨-1, by simp (disch := omega) only [push_cast], by omega, fun h => by omega⟩
  simp (disch := omega) only [push_cast]
  refine zb3 (f := fun (i : Nat) (y : Int) => Lq1 (some 5) [.l (encL l), .i y, .i (i : Int)]) (n := l.length)
    (T := fun r => ∃ y, r = some [.i y] ∧ y ≤ left ∧ (0 ≤ y → y = left - ((l.length : Int) + (wLs l : Int)))) (I := fun i y => 0 ≤ y ∧ y = left - ((l.length : Int) + (wLs (l.take i) : Int)))
    (fun i y hi hI => ?_) (fun y hI => ⟨y, ?_, by omega, fun h => ?_⟩) 0 (left - (l.length : Int)) (Nat.zero_le _) ⟨by omega, by simp [wLs]⟩
  · have hx := hs _ (zl (d := L0) hi)
    have hz := zko hi
    by_cases hc : y - ((nth L0 l i).sum.size : Int) < 0
    · right
      refine ⟨-1, ?_, by omega, fun h => by omega⟩
      show Lq1 _ _ = _
      rw [eq1_5, eqcg_i]; simp (disch := omega) only [push_cast]
    · left
      refine ⟨y - ((nth L0 l i).sum.size : Int), ?_, by omega, by omega⟩
      show Lq1 _ _ = Lq1 _ _
      rw [castS, eq1_5, eqcg_i]; simp (disch := omega) only [push_cast]
  · show Lq1 _ _ = _
    rw [eq1_5]; simp (disch := omega) only [push_cast]
  · rw [List.take_length] at hI; exact hI.2
structure BigS (s : State) : Prop where
  nT : s.things.length ≤ 140737488351232
  nP : s.pins.length ≤ 140737488351232
  nL : s.leases.length ≤ 140737488351232
  T : ∀ k ∈ s.things, BigK k
  P : ∀ p ∈ s.pins, p.name.size ≤ 140737488351232 ∧ p.sum.size ≤ 140737488351232
  L : ∀ l ∈ s.leases, l.sum.size ≤ 140737488351232
structure Light (s : State) : Prop where
  nT : s.things.length ≤ 1048576
  nP : s.pins.length ≤ 1048576
  nL : s.leases.length ≤ 1048576
  sum : (wKs s.things : Int) ≤ 1048576
  refs : ∀ k ∈ s.things, k.thing.refs.length ≤ 1048576
  names : ∀ p ∈ s.pins, p.name.size ≤ 4611686018427387904
theorem wK_le {l : List Kept} {k : Kept} (h : k ∈ l) : wK k ≤ wKs l := by
  unfold wKs
  induction l with
  | nil => simp at h
  | cons a l ih =>
    rw [List.map_cons, List.sum_cons]
    rcases List.mem_cons.1 h with rfl | h
    · omega
    · have := ih h; omega
theorem zmc (s : State) (B : BigS s) (left : Int) (h0 : 0 ≤ left) (h1 : left ≤ 1048576) : ∃ y, Lqch none [.i s.width, .i s.now, .i s.given, .i s.births, .l (encK s.things), .l (encP s.pins), .l (encL s.leases), .i left] = some [.i y] ∧ y ≤ left ∧ (0 ≤ y → Light s) := by
  rw [eqch_i]
  obtain ⟨y1, a1, a2, a3⟩ := zmi s.things left h0 h1 B.nT B.T
  by_cases c1 : y1 < 0
  · exact ⟨-1, by simp (disch := omega) only [push_cast, a1], by omega, fun h => by omega⟩
  obtain ⟨y2, b1, b2, b3⟩ := znl s.pins y1 (by omega) (by omega) B.nP B.P
  by_cases c2 : y2 < 0
  · exact ⟨-1, by simp (disch := omega) only [push_cast, a1, b1], by omega, fun h => by omega⟩
  obtain ⟨y3, d1, d2, d3⟩ := zk6 s.leases y2 (by omega) (by omega) B.nL B.L
  by_cases c3 : y3 < 0
  · exact ⟨-1, by simp (disch := omega) only [push_cast, a1, b1, d1], by omega, fun h => by omega⟩
  refine ⟨y3, by simp (disch := omega) only [push_cast, a1, b1, d1], by omega, fun _ => ?_⟩
  have e1 := a3 (by omega); have e2 := b3 (by omega); have e3 := d3 (by omega)
  refine ⟨by omega, by omega, by omega, by omega, fun k hk => ?_, fun p hp => by have := (B.P p hp).1; omega⟩
  have := wK_le hk
  unfold wK at this
  omega
theorem zm8 {s : State} (h : Light s) : Lqb4 none [.i s.width, .i s.now, .i s.given, .i s.births, .l (encK s.things), .l (encP s.pins), .l (encL s.leases)] = some [.i s.width, .i s.now, .i s.given, .i s.births, .l (encK s.things), .l (encP s.pins), .l (encL s.leases)] := by
  have h1 := h.nT; have h2 := h.nP; have h3 := h.nL
  rw [eqb4_i]
  simp (disch := omega) only [push_cast, zmw s.things (by omega) (fun k hk => by have := h.refs k hk; omega), zku s.pins (by omega), zm4 s.leases (by omega)]
theorem zfn {l : List Kept} {n : Nat} (h : ∀ k ∈ l, k.thing.refs.length ≤ n) (i : Nat) : (rd (encK l) i 3).list.length ≤ n := by
  rw [zi4, zr]
  rcases Nat.lt_or_ge i l.length with h1 | h1
  · exact h _ (zl h1)
  · rw [zgi K0 l i h1]; exact Nat.zero_le _
theorem zid (a b c d : Int) (T P L : Rw) (h1 : T.length ≤ 4611686018427387904) (h2 : P.length ≤ 4611686018427387904) (h3 : L.length ≤ 4611686018427387904) (hr : ∀ i, (rd T i 3).list.length ≤ 4611686018427387904) :
    Lqbw none [.i a, .i b, .i c, .i d, .l T, .l P, .l L, .i a, .i b, .i c, .i d, .l T, .l P, .l L] = some [.b true] := by
  rw [eqbw_i]
  simp (disch := omega) only [push_cast, zo0 T h1 hr, znu P h2, zn2 L h3]
theorem Light.eq {s : State} (h : Light s) : Lqbw none [.i s.width, .i s.now, .i s.given, .i s.births, .l (encK s.things), .l (encP s.pins), .l (encL s.leases), .i s.width, .i s.now, .i s.given, .i s.births, .l (encK s.things), .l (encP s.pins), .l (encL s.leases)] = some [.b true] := by
  have h1 := h.nT; have h2 := h.nP; have h3 := h.nL
  exact zid _ _ _ _ _ _ _ (by rw [zbl]; omega) (by rw [zbj]; omega) (by rw [zbq]; omega) fun i => by have := zfn h.refs i; omega
def cntS (T P L : Rw) : Int := offK T T.length + 2 * (P.length : Int) + 3 * (L.length : Int)
def zij (k : Int) (T P L T' P' L' : Rw) : Prop := (T'.length = T.length ∧ ∀ j, j < T.length → RowK T T' j (k + offK T j)) ∧ zil (k + offK T T.length) P.length P' ∧ zi0 (k + offK T T.length + 2 * (P.length : Int)) L.length L'
theorem zg5 (a b c d : Int) (T P L : Rw) (k : Int) (hk : 0 ≤ k) (hb : k + cntS T P L ≤ 100000000000000000) (h1 : T.length ≤ 1000000000) : ∃ T' P' L', Lqby none [.i a, .i b, .i c, .i d, .i k, .l T, .l P, .l L] = some [.i (k + cntS T P L), .l T', .l P', .l L'] ∧ zij k T P L T' P' L' := by
  unfold cntS at hb ⊢
  have o1 := zb4 T (i := 0) (j := T.length) (Nat.zero_le _)
  have o0 : offK T 0 = 0 := rfl
  obtain ⟨T', t1, t2⟩ := zm1 T k hk (by omega) h1
  obtain ⟨P', p1, p2⟩ := zph P (k + offK T T.length) (by omega) (by omega)
  obtain ⟨L', l1, l2⟩ := zo5 L (k + offK T T.length + 2 * (P.length : Int)) (by omega) (by omega)
  have e : k + (offK T T.length + 2 * (P.length : Int) + 3 * (L.length : Int)) = k + offK T T.length + 2 * (P.length : Int) + 3 * (L.length : Int) := by omega
  exact ⟨T', P', L', by rw [eqby_i, e]; simp (disch := omega) only [push_cast, t1, p1, l1], t2, p2, l2⟩
theorem zkq (a b c d : Int) {T P L T' P' L' : Rw} {k : Int} (hk : 0 ≤ k) (hb : k + cntS T P L ≤ 100000000000000000) (h1 : T.length ≤ 1000000000) (h : zij k T P L T' P' L') : Lqck none [.i a, .i b, .i c, .i d, .l T', .l P', .l L', .i k] = some [.i (k + cntS T P L)] := by
  unfold cntS at hb ⊢
  have o1 := zb4 T (i := 0) (j := T.length) (Nat.zero_le _)
  have o0 : offK T 0 = 0 := rfl
  obtain ⟨⟨t1, t2⟩, p2, l2⟩ := h
  have e : k + (offK T T.length + 2 * (P.length : Int) + 3 * (L.length : Int)) = k + offK T T.length + 2 * (P.length : Int) + 3 * (L.length : Int) := by omega
  rw [eqck_i, e]
  simp (disch := omega) only [push_cast, zl0 hk (by omega) h1 t1 t2, zn1 (k := k + offK T T.length) (by omega) (by omega) p2, zjy (k := k + offK T T.length + 2 * (P.length : Int)) (by omega) (by omega) l2]
theorem zpm {l : List Kept} (i : Nat) (hi : i ≤ l.length) : offK (encK l) i ≤ 3 * (i : Int) + (wKs (l.take i) : Int) := by
  induction i with
  | zero => simp [offK, wKs]
  | succ i ih =>
    have := ih (by omega)
    show offK (encK l) i + 3 + ((rd (encK l) i 3).list.length : Int) ≤ _
    rw [zi4, zr, zgq (by omega)]
    unfold wK
    omega
theorem Light.cnt {s : State} (h : Light s) : 0 ≤ cntS (encK s.things) (encP s.pins) (encL s.leases) ∧ cntS (encK s.things) (encP s.pins) (encL s.leases) ≤ 100000000 := by
  have h1 := h.nT; have h2 := h.nP; have h3 := h.nL; have h4 := h.sum
  have := zpm (l := s.things) s.things.length (Nat.le_refl _)
  rw [List.take_length] at this
  have o1 := zb4 (encK s.things) (i := 0) (j := s.things.length) (Nat.zero_le _)
  have o0 : offK (encK s.things) 0 = 0 := rfl
  unfold cntS
  rw [zbl, zbj, zbq]
  omega
theorem Light.mark {s : State} (h : Light s) (k : Int) (hk : 0 ≤ k) (hb : k ≤ 1000000000) : ∃ n T' P' L', Lqby none [.i s.width, .i s.now, .i s.given, .i s.births, .i k, .l (encK s.things), .l (encP s.pins), .l (encL s.leases)] = some [.i n, .l T', .l P', .l L'] ∧ k ≤ n ∧ n ≤ k + 100000000 := by
  have h1 := h.nT
  have c := h.cnt
  obtain ⟨T', P', L', a, _⟩ := zg5 s.width s.now s.given s.births (encK s.things) (encP s.pins) (encL s.leases) k hk (by omega) (by rw [zbl]; omega)
  exact ⟨_, T', P', L', a, by omega, by omega⟩
end KV
end
section
namespace KV
open Go Go.Eng
open Classical
theorem zgf {α : Type} {R : α → α → Prop} (d : α) {l : List α} (h : l.Pairwise R) {i j : Nat} (hij : i < j) (hj : j < l.length) : R (nth d l i) (nth d l j) := by
  rw [zn d l i (by omega), zn d l j hj]
  exact List.pairwise_iff_getElem.1 h i j (by omega) hj hij
theorem lb_hi {α : Type} {R : α → α → Prop} {q : α → Bool} (d : α) {l : List α} (h : l.Pairwise R) (mono : ∀ a b, R a b → q b = true → q a = true) : ∀ j, lb q l ≤ j → j < l.length → q (nth d l j) = false := by
  intro j h1 h2
  cases hq : q (nth d l j)
  · rfl
  · rcases Nat.eq_or_lt_of_le h1 with e | h3
    · rw [← e] at hq; rw [lb_at q d l (by omega)] at hq; exact hq.symm
    · have := mono _ _ (zgf d h h3 h2) hq
      rw [lb_at q d l (by omega)] at this; cases this
theorem zcx {α : Type} {R : α → α → Prop} {q : α → Bool} {p : α → Prop} (d : α) {l : List α} (h : l.Pairwise R) (hp : ∀ a, p a → q a = false) (hR : ∀ a b, R a b → p b → q a = true) {j : Nat} (hj : j < l.length) (hk : p (nth d l j)) : j = lb q l := by
  have h1 : lb q l ≤ j := by
    rcases Nat.lt_or_ge j (lb q l) with h3 | h3
    · have := lb_lt q d l j h3; rw [hp _ hk] at this; cases this
    · exact h3
  rcases Nat.eq_or_lt_of_le h1 with e | h3
  · exact e.symm
  · have := hR _ _ (zgf d h h3 hj) hk
    rw [lb_at q d l (by omega)] at this; cases this
theorem zc4 {α : Type} {R : α → α → Prop} {q : α → Bool} {p : α → Prop} (d : α) {l : List α} (h : l.Pairwise R) (hp : ∀ a, p a → q a = false) (hR : ∀ a b, R a b → p b → q a = true) :
    (∃ a ∈ l, p a) ↔ lb q l < l.length ∧ p (nth d l (lb q l)) := by
  constructor
  · rintro ⟨a, ha, hpa⟩
    obtain ⟨j, hj, rfl⟩ := zb0 d ha
    have := zcx d h hp hR hj hpa
    rw [← this]; exact ⟨hj, hpa⟩
  · rintro ⟨h1, h2⟩; exact ⟨_, zl h1, h2⟩
theorem zot {α : Type} {R : α → α → Prop} {q : α → Bool} {p : α → Prop} [DecidablePred p] (d : α) {l : List α} (h : l.Pairwise R) (hp : ∀ a, p a → q a = false) (hR : ∀ a b, R a b → p b → q a = true) :
    l.findIdx? (fun a => decide (p a)) = if ∃ a ∈ l, p a then some (lb q l) else none := by
  split
  · rename_i he
    obtain ⟨h1, h2⟩ := (zc4 d h hp hR).1 he
    rw [List.findIdx?_eq_some_iff_getElem]
    refine ⟨h1, ?_, fun j hj => ?_⟩
    · rw [← zn d l _ h1]; exact decide_eq_true h2
    · rw [← zn d l j (by omega)]
      simp only [decide_eq_true_eq]
      intro hpj
      have := zcx d h hp hR (show j < l.length by omega) hpj
      omega
  · rename_i he
    rw [List.findIdx?_eq_none_iff]
    intro a ha
    exact decide_eq_false fun hpa => he ⟨a, ha, hpa⟩
theorem zft {α : Type} {R : α → α → Prop} {q : α → Bool} {p : α → Prop} [DecidablePred p] (d : α) {l : List α} (h : l.Pairwise R) (hp : ∀ a, p a → q a = false) (hR : ∀ a b, R a b → p b → q a = true) (he : ∃ a ∈ l, p a) :
    l.filter (fun a => !decide (p a)) = l.take (lb q l) ++ l.drop (lb q l + 1) := by
  obtain ⟨h1, h2⟩ := (zc4 d h hp hR).1 he
  conv => lhs; rw [← List.take_append_drop (lb q l) l, List.filter_append, zdo d h1, List.filter_cons]
  rw [if_neg (by simp [h2])]
  congr 1
  · apply List.filter_eq_self.2
    intro a ha
    obtain ⟨j, hj, rfl⟩ := List.mem_iff_getElem.1 ha
    simp only [List.getElem_take, Bool.not_eq_true', decide_eq_false_iff_not]
    rw [List.length_take] at hj
    rw [← zn d l j (by omega)]
    intro hpj; have := zcx d h hp hR (show j < l.length by omega) hpj; omega
  · apply List.filter_eq_self.2
    intro a ha
    obtain ⟨j, hj, rfl⟩ := List.mem_iff_getElem.1 ha
    simp only [List.getElem_drop, Bool.not_eq_true', decide_eq_false_iff_not]
    rw [List.length_drop] at hj
    rw [← zn d l _ (by omega)]
    intro hpj; have := zcx d h hp hR (show lb q l + 1 + j < l.length by omega) hpj; omega
def SrtK (l : List Kept) : Prop := l.Pairwise fun a b => slt a.sum b.sum = true
def SrtP (l : List Pin) : Prop := l.Pairwise fun a b => slt a.name b.name = true
def SrtL (l : List Lease) : Prop := l.Pairwise fun a b => a.number < b.number
def qK (x : Bs) (k : Kept) : Bool := slt k.sum x
def qP (x : Bs) (k : Pin) : Bool := slt k.name x
def qL (x : Int) (k : Lease) : Bool := decide (k.number < x)
def hasT (l : List Kept) (x : Bs) : Prop := ∃ k ∈ l, k.sum = x
def hasP (l : List Pin) (x : Bs) : Prop := ∃ k ∈ l, k.name = x
def hasL (l : List Lease) (x : Int) : Prop := ∃ k ∈ l, k.number = x
theorem kp (x : Bs) (a : Kept) (h : a.sum = x) : qK x a = false := by unfold qK; rw [h, zdy]
theorem kR (x : Bs) (a b : Kept) (h : slt a.sum b.sum = true) (hb : b.sum = x) : qK x a = true := by unfold qK; rw [← hb]; exact h
theorem pp (x : Bs) (a : Pin) (h : a.name = x) : qP x a = false := by unfold qP; rw [h, zdy]
theorem pR (x : Bs) (a b : Pin) (h : slt a.name b.name = true) (hb : b.name = x) : qP x a = true := by unfold qP; rw [← hb]; exact h
theorem lp (x : Int) (a : Lease) (h : a.number = x) : qL x a = false := by unfold qL; simp; omega
theorem lR (x : Int) (a b : Lease) (h : a.number < b.number) (hb : b.number = x) : qL x a = true := by unfold qL; simp; omega
theorem zcg {l : List Kept} (h : SrtK l) (x : Bs) : hasT l x ↔ lb (qK x) l < l.length ∧ (nth K0 l (lb (qK x) l)).sum = x := zc4 K0 h (kp x) (kR x)
theorem zde {l : List Pin} (h : SrtP l) (x : Bs) : hasP l x ↔ lb (qP x) l < l.length ∧ (nth P0 l (lb (qP x) l)).name = x := zc4 P0 h (pp x) (pR x)
theorem zg0 {l : List Lease} (h : SrtL l) (x : Int) : hasL l x ↔ lb (qL x) l < l.length ∧ (nth L0 l (lb (qL x) l)).number = x := zc4 L0 h (lp x) (lR x)
structure VS (s : State) : Prop where
  wd : 1 ≤ s.width ∧ s.width ≤ 8
  now : 0 ≤ s.now ∧ s.now ≤ 1000000000
  given : 0 ≤ s.given ∧ s.given ≤ 1000000000
  births : 0 ≤ s.births ∧ s.births ≤ 1000000000
  nT : s.things.length ≤ 600
  nP : s.pins.length ≤ 100
  nL : s.leases.length ≤ 200
  srtT : SrtK s.things
  okT : ∀ k ∈ s.things, ThingOk k.thing s.width ∧ k.sum = sumM (formM k.thing) s.width ∧ 1 ≤ k.born ∧ k.born ≤ s.births
  ndT : (s.things.map (·.born)).Nodup
  refs : ∀ k ∈ s.things, ∀ r ∈ k.thing.refs, ∃ j ∈ s.things, j.sum = r ∧ j.born < k.born
  srtP : SrtP s.pins
  okP : ∀ p ∈ s.pins, NameOk p.name ∧ hasT s.things p.sum
  srtL : SrtL s.leases
  okL : ∀ l ∈ s.leases, 1 ≤ l.number ∧ l.number ≤ s.given ∧ hasT s.things l.sum ∧ s.now < l.till ∧ l.till ≤ s.now + 100000
structure Out where
  code : Int
  st : State
  sum : Bs
  lease : Int
  a : Bs
  b : Bs
def fail (s : State) (c : Int) : Out := ⟨c, s, E0, 0, E0, E0⟩
def done (s : State) : Out := ⟨0, s, E0, 0, E0, E0⟩
def lent (s : State) (x : Bs) (hold : Int) : State := { s with given := s.given + 1, leases := s.leases ++ [⟨s.given + 1, x, s.now + hold⟩] }
def insK (k : Kept) (l : List Kept) : List Kept := l.take (lb (qK k.sum) l) ++ k :: l.drop (lb (qK k.sum) l)
noncomputable def delK (x : Bs) (l : List Kept) : List Kept := l.filter fun k => !decide (k.sum = x)
noncomputable def putP (n x : Bs) (l : List Pin) : List Pin := if hasP l n then l.set (lb (qP n) l) ⟨n, x⟩ else l.take (lb (qP n) l) ++ ⟨n, x⟩ :: l.drop (lb (qP n) l)
noncomputable def delP (n : Bs) (l : List Pin) : List Pin := l.filter fun k => !decide (k.name = n)
noncomputable def delL (n : Int) (l : List Lease) : List Lease := l.filter fun k => !decide (k.number = n)
def held (s : State) (x : Bs) : Prop := (∃ p ∈ s.pins, p.sum = x) ∨ ∃ l ∈ s.leases, l.sum = x
def isRef (l : List Kept) (x : Bs) : Prop := ∃ k ∈ l, x ∈ k.thing.refs
def room (s : State) : Prop := s.leases.length < 200 ∧ s.given < 1000000000
noncomputable def putS (s : State) (e : Entry) : Out :=
  if ∃ r ∈ e.thing.refs, ¬ hasT s.things r then fail s 2
  else if hasT s.things (sumM (formM e.thing) s.width) then
    (if formM (nth K0 s.things (lb (qK (sumM (formM e.thing) s.width)) s.things)).thing = formM e.thing then
      (if room s then { done (lent s (sumM (formM e.thing) s.width) e.number) with sum := sumM (formM e.thing) s.width, lease := s.given + 1 } else fail s 4)
    else { fail s 3 with a := formM (nth K0 s.things (lb (qK (sumM (formM e.thing) s.width)) s.things)).thing, b := formM e.thing })
  else if room s ∧ s.things.length < 600 ∧ s.births < 1000000000 then
    { done (lent { s with births := s.births + 1, things := insK ⟨sumM (formM e.thing) s.width, s.births + 1, e.thing⟩ s.things } (sumM (formM e.thing) s.width) e.number) with sum := sumM (formM e.thing) s.width, lease := s.given + 1 }
  else fail s 4
noncomputable def chg (s : State) (e : Entry) : Out :=
  if e.kind = 1 then putS s e
  else if e.kind = 2 then
    (if hasT s.things e.sum then (if hasP s.pins e.name ∨ s.pins.length < 100 then done { s with pins := putP e.name e.sum s.pins } else fail s 4) else fail s 2)
  else if e.kind = 3 then (if hasP s.pins e.name then done { s with pins := delP e.name s.pins } else fail s 5)
  else if e.kind = 4 then
    (if hasT s.things e.sum then (if room s then { done (lent s e.sum e.number) with lease := s.given + 1 } else fail s 4) else fail s 2)
  else if e.kind = 5 then (if hasL s.leases e.number then done { s with leases := delL e.number s.leases } else fail s 5)
  else if e.kind = 6 then (if s.now + e.number ≤ 1000000000 then done { s with now := s.now + e.number, leases := s.leases.filter fun l => decide (s.now + e.number < l.till) } else fail s 4)
  else (if hasT s.things e.sum then (if held s e.sum ∨ isRef s.things e.sum then fail s 6 else done { s with things := delK e.sum s.things }) else fail s 2)
end KV
end
section
namespace KV
open Go Go.Eng
open Classical
theorem zf8 {lo hi : Nat} (h : lo + hi ≤ 4294967296) : IntKind.i64.wrap ((IntKind.u64.wrap (IntKind.i64.wrap ((lo : Int) + (hi : Int)))).fdiv (2 ^ 1)) = (((lo + hi) / 2 : Nat) : Int) := by
  rw [w64 (n := (lo : Int) + (hi : Int)) (by omega), ze1, Int.fdiv_eq_ediv_of_nonneg _ (by decide), w64 (by omega)]
  omega
theorem zol (w now g b : Int) (T : List Kept) (P L : Rw) (x : Bs) (h : SrtK T) (hn : T.length ≤ 1000000) :
    Lqbp none [.i (T.length : Int), .i w, .i now, .i g, .i b, .l (encK T), .l P, .l L, .s x] = some [.i (lb (qK x) T : Int)] := by
  rw [eqbp_i]
  refine zf1 (f := fun lo hi => Lqbp (some 2) [.i (lo : Int), .i (hi : Int), .s x, .i w, .i now, .i g, .i b, .l (encK T), .l P, .l L]) (q := fun j => qK x (nth K0 T j)) (lb_le _ _) (fun j hj => lb_lt _ K0 _ _ hj) (fun j h1 h2 => lb_hi K0 h (fun a c hac hc => zb1 hac hc) j h1 h2) (fun lo hi hl hh => ?_) (fun lo hl => ?_)
  · show Lqbp _ _ = _
    rw [eqbp_2, zf8 (by omega), eqcy_i]
    have : (lo + hi) / 2 < hi := by omega
    generalize (lo + hi) / 2 = m at this
    simp (disch := omega) only [push_cast]
    unfold qK
    cases slt (nth K0 T m).sum x <;> rfl
  · show Lqbp _ _ = _
    rw [eqbp_2]; simp (disch := omega) only [push_cast]
theorem zns (w now g b : Int) (T L : Rw) (P : List Pin) (x : Bs) (h : SrtP P) (hn : P.length ≤ 1000000) :
    Lqbr none [.i (P.length : Int), .i w, .i now, .i g, .i b, .l T, .l (encP P), .l L, .s x] = some [.i (lb (qP x) P : Int)] := by
  rw [eqbr_i]
  refine zf1 (f := fun lo hi => Lqbr (some 2) [.i (lo : Int), .i (hi : Int), .s x, .i w, .i now, .i g, .i b, .l T, .l (encP P), .l L]) (q := fun j => qP x (nth P0 P j)) (lb_le _ _) (fun j hj => lb_lt _ P0 _ _ hj) (fun j h1 h2 => lb_hi P0 h (fun a c hac hc => zb1 hac hc) j h1 h2) (fun lo hi hl hh => ?_) (fun lo hl => ?_)
  · show Lqbr _ _ = _
    rw [eqbr_2, zf8 (by omega), eqcz_i]
    have : (lo + hi) / 2 < hi := by omega
    generalize (lo + hi) / 2 = m at this
    simp (disch := omega) only [push_cast]
    unfold qP
    cases slt (nth P0 P m).name x <;> rfl
  · show Lqbr _ _ = _
    rw [eqbr_2]; simp (disch := omega) only [push_cast]
theorem zlf (w now g b : Int) (T P : Rw) (L : List Lease) (x : Int) (h : SrtL L) (hn : L.length ≤ 1000000) :
    Lqbs none [.i (L.length : Int), .i w, .i now, .i g, .i b, .l T, .l P, .l (encL L), .i x] = some [.i (lb (qL x) L : Int)] := by
  rw [eqbs_i]
  refine zf1 (f := fun lo hi => Lqbs (some 2) [.i (lo : Int), .i (hi : Int), .i x, .i w, .i now, .i g, .i b, .l T, .l P, .l (encL L)]) (q := fun j => qL x (nth L0 L j)) (lb_le _ _) (fun j hj => lb_lt _ L0 _ _ hj) (fun j h1 h2 => lb_hi L0 h (fun a c hac hc => by unfold qL at hc ⊢; simp at hc ⊢; omega) j h1 h2) (fun lo hi hl hh => ?_) (fun lo hl => ?_)
  · show Lqbs _ _ = _
    rw [eqbs_2, zf8 (by omega), eqc0_i]
    have : (lo + hi) / 2 < hi := by omega
    generalize (lo + hi) / 2 = m at this
    simp (disch := omega) only [push_cast]
    unfold qL
    by_cases hq : (nth L0 L m).number < x
    · rw [show decide (x ≤ (nth L0 L m).number) = false by simp; omega, show decide ((nth L0 L m).number < x) = true by simp; omega]; rfl
    · rw [show decide (x ≤ (nth L0 L m).number) = true by simp; omega, show decide ((nth L0 L m).number < x) = false by simp; omega]; rfl
  · show Lqbs _ _ = _
    rw [eqbs_2]; simp (disch := omega) only [push_cast]
theorem zbx (w now g b : Int) (T : List Kept) (P L : Rw) (x : Bs) (h : SrtK T) (hn : T.length ≤ 1000000) :
    Lqbq none [.s x, .i w, .i now, .i g, .i b, .l (encK T), .l P, .l L] = some [.i (lb (qK x) T : Int), .b (decide (hasT T x))] := by
  have hl := lb_le (qK x) T
  have hi := zcg h x
  rw [eqbq_i, zbl, zol w now g b T P L x h hn]
  by_cases h1 : lb (qK x) T < T.length
  · simp (disch := omega) only [push_cast]
    by_cases h2 : (nth K0 T (lb (qK x) T)).sum = x
    · rw [decide_eq_true h2, decide_eq_true (hi.2 ⟨h1, h2⟩)]
    · rw [decide_eq_false h2, decide_eq_false fun h3 => h2 (hi.1 h3).2]
  · simp (disch := omega) only [push_cast]
    rw [decide_eq_false fun h3 => h1 (hi.1 h3).1]
theorem zi2 (w now g b : Int) (T L : Rw) (P : List Pin) (x : Bs) (h : SrtP P) (hn : P.length ≤ 1000000) :
    Lqcd none [.s x, .i w, .i now, .i g, .i b, .l T, .l (encP P), .l L] = some [.i (lb (qP x) P : Int), .b (decide (hasP P x))] := by
  have hl := lb_le (qP x) P
  have hi := zde h x
  rw [eqcd_i, zbj, zns w now g b T L P x h hn]
  by_cases h1 : lb (qP x) P < P.length
  · simp (disch := omega) only [push_cast]
    by_cases h2 : (nth P0 P (lb (qP x) P)).name = x
    · rw [decide_eq_true h2, decide_eq_true (hi.2 ⟨h1, h2⟩)]
    · rw [decide_eq_false h2, decide_eq_false fun h3 => h2 (hi.1 h3).2]
  · simp (disch := omega) only [push_cast]
    rw [decide_eq_false fun h3 => h1 (hi.1 h3).1]
theorem zk0 (w now g b : Int) (T P : Rw) (L : List Lease) (x : Int) (h : SrtL L) (hn : L.length ≤ 1000000) :
    Lqco none [.i x, .i w, .i now, .i g, .i b, .l T, .l P, .l (encL L)] = some [.i (lb (qL x) L : Int), .b (decide (hasL L x))] := by
  have hl := lb_le (qL x) L
  have hi := zg0 h x
  rw [eqco_i, zbq, zlf w now g b T P L x h hn]
  by_cases h1 : lb (qL x) L < L.length
  · simp (disch := omega) only [push_cast]
    by_cases h2 : (nth L0 L (lb (qL x) L)).number = x
    · rw [decide_eq_true h2, decide_eq_true (hi.2 ⟨h1, h2⟩)]
    · rw [decide_eq_false h2, decide_eq_false fun h3 => h2 (hi.1 h3).2]
  · simp (disch := omega) only [push_cast]
    rw [decide_eq_false fun h3 => h1 (hi.1 h3).1]
theorem zby {α : Type} {f : Nat → Option Lv} {l : List α} (d : α) {p : α → Prop} [DecidablePred p] {T E : Option Lv} (step : ∀ i, i < l.length → f i = cond (decide (p (nth d l i))) T (f (i + 1))) (last : f l.length = E) : f 0 = if (∃ a ∈ l, p a) then T else E := by
  have := zhb (f := f) (l := l) (d := d) (p := fun a => decide (p a)) (ret := fun _ => T) (e := E) step last
  rw [this]
  by_cases h : ∃ a ∈ l, p a
  · rw [if_pos h]
    cases hf : l.findIdx? (fun a => decide (p a)) with
    | none =>
      rw [List.findIdx?_eq_none_iff] at hf
      obtain ⟨a, ha, hp⟩ := h
      have := hf a ha; simp [hp] at this
    | some i => rfl
  · rw [if_neg h]
    cases hf : l.findIdx? (fun a => decide (p a)) with
    | none => rfl
    | some i =>
      obtain ⟨h1, h2, _⟩ := List.findIdx?_eq_some_iff_getElem.1 hf
      exact absurd ⟨_, List.getElem_mem h1, of_decide_eq_true h2⟩ h
theorem zl8 (s : State) (x : Bs) (h1 : s.pins.length ≤ 1000000) (h2 : s.leases.length ≤ 1000000) : Lqm none (.s x :: encSt s) = some [.b (decide (held s x))] := by
  unfold encSt
  rw [eqm_i]
  have a1 := zby (f := fun i : Nat => Lqm (some 8) [.s x, .l (encL s.leases), .i (s.leases.length : Int), .i (i : Int)]) L0 (l := s.leases) (p := fun l => l.sum = x) (T := some [.b true]) (E := some [.b false]) (fun i hi => by
    show Lqm _ _ = cond _ _ (Lqm _ _)
    rw [eqm_8]; simp (disch := omega) only [push_cast]) (by show Lqm _ _ = _; rw [eqm_8]; simp (disch := omega) only [push_cast])
  have a2 := zby (f := fun i : Nat => Lqm (some 2) [.s x, .l (encP s.pins), .i (s.pins.length : Int), .i (i : Int), .i s.width, .i s.now, .i s.given, .i s.births, .l (encK s.things), .l (encP s.pins), .l (encL s.leases)]) P0 (l := s.pins) (p := fun l => l.sum = x) (T := some [.b true]) (E := Lqm (some 8) [.s x, .l (encL s.leases), .i (s.leases.length : Int), .i 0]) (fun i hi => by
    show Lqm _ _ = cond _ _ (Lqm _ _)
    rw [eqm_2]; simp (disch := omega) only [push_cast]) (by show Lqm _ _ = _; rw [eqm_2]; simp (disch := omega) only [push_cast])
  rw [zbj]
  refine a2.trans ?_
  by_cases h : ∃ p ∈ s.pins, p.sum = x
  · rw [if_pos h, decide_eq_true (p := held s x) (Or.inl h)]
  · rw [if_neg h]
    refine a1.trans ?_
    by_cases h3 : ∃ l ∈ s.leases, l.sum = x
    · rw [if_pos h3, decide_eq_true (p := held s x) (Or.inr h3)]
    · rw [if_neg h3, decide_eq_false (p := held s x) (by rintro (h4 | h4); exact h h4; exact h3 h4)]
theorem zkz (a b c d : Int) (T : List Kept) (P L : Rw) (x : Bs) (h1 : T.length ≤ 1000000) (h2 : ∀ k ∈ T, k.thing.refs.length ≤ 1000000) : Lqn none [.s x, .i a, .i b, .i c, .i d, .l (encK T), .l P, .l L] = some [.b (decide (isRef T x))] := by
  rw [eqn_i]
  have a2 := zby (f := fun i : Nat => Lqn (some 2) [.s x, .l (encK T), .i (T.length : Int), .i (i : Int)]) K0 (l := T) (p := fun k => x ∈ k.thing.refs) (T := some [.b true]) (E := some [.b false]) (fun i hi => by
    show Lqn _ _ = cond _ _ (Lqn _ _)
    have hr := h2 _ (zl (d := K0) hi)
    rw [eqn_2]; simp (disch := omega) only [push_cast]
    have a1 := zby (f := fun j : Nat => Lqn (some 5) [.s x, .l (encK T), .i (T.length : Int), .i (i : Int), .l (encS (nth K0 T i).thing.refs), .i ((nth K0 T i).thing.refs.length : Int), .i (j : Int)]) .empty (l := (nth K0 T i).thing.refs) (p := fun r => r = x) (T := some [.b true]) (E := Lqn (some 2) [.s x, .l (encK T), .i (T.length : Int), .i ((i : Int) + 1)]) (fun j hj => by
      show Lqn _ _ = cond _ _ (Lqn _ _)
      rw [eqn_5]; simp (disch := omega) only [push_cast]) (by show Lqn _ _ = _; rw [eqn_5]; simp (disch := omega) only [push_cast])
    refine a1.trans ?_
    by_cases h : ∃ r ∈ (nth K0 T i).thing.refs, r = x
    · rw [if_pos h, decide_eq_true (p := x ∈ (nth K0 T i).thing.refs) (by obtain ⟨r, hr, rfl⟩ := h; exact hr), cond_true]
    · rw [if_neg h, decide_eq_false (p := x ∈ (nth K0 T i).thing.refs) (fun h3 => h ⟨x, h3, rfl⟩), cond_false]) (by show Lqn _ _ = _; rw [eqn_2]; simp (disch := omega) only [push_cast])
  rw [zbl]
  refine a2.trans ?_
  by_cases h : ∃ k ∈ T, x ∈ k.thing.refs
  · rw [if_pos h, decide_eq_true (p := isRef T x) h]
  · rw [if_neg h, decide_eq_false (p := isRef T x) h]
end KV
end
section
namespace KV
open Go Go.Eng
open Classical
def zt (o : Out) : Lv := [.i o.code, .i 0, .i 0, .i 0, .i 0, .s o.sum, .i o.lease, .s o.a, .s o.b, .i o.st.width, .i o.st.now, .i o.st.given, .i o.st.births, .l [], .l [], .l [], .l (encK o.st.things), .l (encP o.st.pins), .l (encL o.st.leases)]
theorem zn9 (n : Nat) : Nat.ble n (n + 1) = true := Nat.ble_eq_true_of_le (Nat.le_succ n)
theorem zbd (c : Int) : Lq4 none [.i c] = some [.i c, .i 0, .i 0, .i 0, .i 0, .s E0, .i 0, .s E0, .s E0, .l [], .l [], .l []] := by rw [eq4_i]
theorem zdq (a b c d e f g h i : Int) (j : Bs) (k : Int) (l m : Bs) (T P L x y z : Rw) : Lqa (some 78) [.i a, .i b, .i c, .i d, .i e, .i f, .i g, .i h, .i i, .s j, .i k, .s l, .s m, .l T, .l P, .l L, .l x, .l y, .l z] =
    some [.i 0, .i 0, .i 0, .i 0, .i 0, .s E0, .i 0, .s E0, .s E0, .i a, .i b, .i c, .i d, .l [], .l [], .l [], .l T, .l P, .l L] := by
  rw [eqa_78, zbd]; simp (disch := omega) only [push_cast]
theorem zhs (a b c d e f g h i : Int) (j : Bs) (k : Int) (l m : Bs) (T P L x y z : Rw) : Lqa (some 76) [.i a, .i b, .i c, .i d, .i e, .i f, .i g, .i h, .i i, .s j, .i k, .s l, .s m, .l T, .l P, .l L, .l x, .l y, .l z] =
    some [.i 6, .i 0, .i 0, .i 0, .i 0, .s E0, .i 0, .s E0, .s E0, .i a, .i b, .i c, .i d, .l [], .l [], .l [], .l T, .l P, .l L] := by
  rw [eqa_76, zbd]; simp (disch := omega) only [push_cast]
theorem zev (a b c d e f g h i : Int) (j : Bs) (k : Int) (l m : Bs) (T P L x y z : Rw) : Lqa (some 21) [.i a, .i b, .i c, .i d, .i e, .i f, .i g, .i h, .i i, .s j, .i k, .s l, .s m, .l T, .l P, .l L, .l x, .l y, .l z] =
    some [.i 4, .i 0, .i 0, .i 0, .i 0, .s E0, .i 0, .s E0, .s E0, .i a, .i b, .i c, .i d, .l [], .l [], .l [], .l T, .l P, .l L] := by
  rw [eqa_21, zbd]; simp (disch := omega) only [push_cast]
theorem zhc (x : Bs) (w now gv b k : Int) (s n : Bs) (m : Int) (t : Bs) (r T P : Rw) (L : List Lease) (hl : L.length ≤ 1000000) (hg : 0 ≤ gv ∧ gv ≤ 1000000000) (hn : 0 ≤ now ∧ now ≤ 1000000000) (hm : 0 ≤ m ∧ m ≤ 1000000000) :
    Lqcc none [.s x, .i w, .i now, .i gv, .i b, .i k, .s s, .s n, .i m, .s t, .l r, .l T, .l P, .l (encL L)] =
      some [.i 0, .i 0, .i 0, .i 0, .i 0, .s E0, .i (gv + 1), .s E0, .s E0, .i w, .i now, .i (gv + 1), .i b, .i k, .s s, .s n, .i m, .s t, .l r, .l T, .l P, .l (encL (L ++ [⟨gv + 1, x, now + m⟩])), .l [], .l [], .l []] := by
  rw [eqcc_i, ← zc7, mostE]; simp (disch := omega) only [push_cast] <;> rfl
theorem zdn {α : Type} (l : List α) (i : Nat) : (l.drop 0).take (i - 0) = l.take i := by simp
theorem zdp {α : Type} (l : List α) (i : Nat) : (l.drop i).take (l.length - i) = l.drop i := List.take_of_length_le (by simp)
def args4 (s : State) (e : Entry) : Lv := [.i s.width, .i s.now, .i s.given, .i s.births, .i e.kind, .s e.sum, .s e.name, .i e.number, .s e.thing.text, .l (encS e.thing.refs), .i 0, .i 0, .i 0, .i 0, .i 0, .s E0, .i 0, .s E0, .s E0, .l (encK s.things), .l (encP s.pins), .l (encL s.leases), .l [], .l [], .l []]
section
variable {s : State} {e : Entry} (V : VS s)
include V
theorem zn7 (hk : e.kind = 2) (r : Bool) : Lqa (some 4) (.b r :: args4 s e) = some (zt (chg s e)) := by
  unfold args4 chg
  have h1 := V.nT; have h2 := V.nP
  rw [eqa_4, if_neg (by omega), if_pos hk, hk]
  by_cases hT : hasT s.things e.sum
  · have hl := lb_le (qP e.name) s.pins
    rw [if_pos hT]
    simp (disch := omega) only [push_cast, zbx _ _ _ _ s.things _ _ e.sum V.srtT (by omega), decide_eq_true hT, zi2 _ _ _ _ _ _ s.pins e.name V.srtP (by omega)]
    by_cases hP : hasP s.pins e.name
    · have hi := (zde V.srtP e.name).1 hP
      rw [if_pos (Or.inl hP), decide_eq_true hP]
      simp (disch := omega) only [push_cast, zbd]
      rw [wrP _ _ _ hi.1, hi.2]
      unfold zt done putP
      rw [if_pos hP] <;> rfl
    · rw [decide_eq_false hP]
      by_cases hc : s.pins.length = 100
      · rw [if_neg (by rintro (h | h); exact hP h; omega)]
        simp (disch := omega) only [push_cast, zbd]; rfl
      · rw [if_pos (Or.inr (by omega))]
        have hs1 : Eng.sub (encP s.pins) 0 (lb (qP e.name) s.pins) = encP (s.pins.take (lb (qP e.name) s.pins)) := by rw [zew, zdn]
        have hs2 : Eng.sub (encP s.pins) (lb (qP e.name) s.pins) s.pins.length = encP (s.pins.drop (lb (qP e.name) s.pins)) := by rw [zew, zdp]
        simp (disch := omega) only [push_cast, hs1, hs2, mostE, List.length_append, List.length_take, List.length_drop]
        rw [zdq, zfx, zcd, zcd]
        unfold zt done putP
        rw [if_neg hP, List.append_assoc] <;> rfl
  · rw [if_neg hT]
    simp (disch := omega) only [push_cast, zbx _ _ _ _ s.things _ _ e.sum V.srtT (by omega), decide_eq_false hT, zbd]; rfl
theorem zpb (hk : e.kind = 3) (r : Bool) : Lqa (some 4) (.b r :: args4 s e) = some (zt (chg s e)) := by
  unfold args4 chg
  have h1 := V.nT; have h2 := V.nP
  rw [eqa_4, if_neg (by omega), if_neg (by omega), if_pos hk, hk]
  have hl := lb_le (qP e.name) s.pins
  simp (disch := omega) only [push_cast, zi2 _ _ _ _ _ _ s.pins e.name V.srtP (by omega)]
  by_cases hP : hasP s.pins e.name
  · have hi := (zde V.srtP e.name).1 hP
    rw [if_pos hP, decide_eq_true hP]
    have hs1 : Eng.sub (encP s.pins) 0 (lb (qP e.name) s.pins) = encP (s.pins.take (lb (qP e.name) s.pins)) := by rw [zew, zdn]
    have hs2 : Eng.sub (encP s.pins) (lb (qP e.name) s.pins + 1) s.pins.length = encP (s.pins.drop (lb (qP e.name) s.pins + 1)) := by rw [zew, zdp]
    simp (disch := omega) only [push_cast, hs1, hs2, mostE, List.length_append, List.length_take, List.length_drop]
    rw [zdq, zcd]
    unfold zt done delP
    rw [zft P0 V.srtP (pp e.name) (pR e.name) hP] <;> rfl
  · rw [if_neg hP, decide_eq_false hP]
    simp (disch := omega) only [push_cast, zbd]; rfl
theorem zkw (hk : e.kind = 4) (hm : 0 ≤ e.number ∧ e.number ≤ 1000000000) : Lqa (some 4) (.b (decide (room s)) :: args4 s e) = some (zt (chg s e)) := by
  unfold args4 chg
  have h1 := V.nT; have h2 := V.nL
  rw [eqa_4, if_neg (by omega), if_neg (by omega), if_neg (by omega), if_pos hk, hk]
  by_cases hT : hasT s.things e.sum
  · rw [if_pos hT]
    simp (disch := omega) only [push_cast, zbx _ _ _ _ s.things _ _ e.sum V.srtT (by omega), decide_eq_true hT]
    by_cases hr : room s
    · rw [if_pos hr, decide_eq_true hr]
      simp (disch := omega) only [push_cast, zhc e.sum s.width s.now s.given s.births 4 e.sum e.name e.number e.thing.text (encS e.thing.refs) (encK s.things) (encP s.pins) s.leases (by omega) V.given V.now hm]; rfl
    · rw [if_neg hr, decide_eq_false hr]
      simp (disch := omega) only [push_cast, zbd]; rfl
  · rw [if_neg hT]
    simp (disch := omega) only [push_cast, zbx _ _ _ _ s.things _ _ e.sum V.srtT (by omega), decide_eq_false hT, zbd]; rfl
theorem zj9 (hk : e.kind = 5) (r : Bool) : Lqa (some 4) (.b r :: args4 s e) = some (zt (chg s e)) := by
  unfold args4 chg
  have h1 := V.nT; have h2 := V.nL
  rw [eqa_4, if_neg (by omega), if_neg (by omega), if_neg (by omega), if_neg (by omega), if_pos hk, hk]
  have hl := lb_le (qL e.number) s.leases
  simp (disch := omega) only [push_cast, zk0 _ _ _ _ _ _ s.leases e.number V.srtL (by omega)]
  by_cases hP : hasL s.leases e.number
  · have hi := (zg0 V.srtL e.number).1 hP
    rw [if_pos hP, decide_eq_true hP]
    have hs1 : Eng.sub (encL s.leases) 0 (lb (qL e.number) s.leases) = encL (s.leases.take (lb (qL e.number) s.leases)) := by rw [zit, zdn]
    have hs2 : Eng.sub (encL s.leases) (lb (qL e.number) s.leases + 1) s.leases.length = encL (s.leases.drop (lb (qL e.number) s.leases + 1)) := by rw [zit, zdp]
    simp (disch := omega) only [push_cast, hs1, hs2, mostE, List.length_append, List.length_take, List.length_drop]
    rw [zdq, zc7]
    unfold zt done delL
    rw [zft L0 V.srtL (lp e.number) (lR e.number) hP] <;> rfl
  · rw [if_neg hP, decide_eq_false hP]
    simp (disch := omega) only [push_cast, zbd]; rfl
theorem zj0 (hk : e.kind = 6) (hm : 0 ≤ e.number ∧ e.number ≤ 1000000000) (r : Bool) : Lqa (some 4) (.b r :: args4 s e) = some (zt (chg s e)) := by
  unfold args4 chg
  have h2 := V.nL; have h3 := V.now
  rw [eqa_4, if_neg (by omega), if_neg (by omega), if_neg (by omega), if_neg (by omega), if_neg (by omega), if_pos hk, hk]
  by_cases hn : s.now + e.number ≤ 1000000000
  · rw [if_pos hn]
    simp (disch := omega) only [push_cast]
    have := zy (f := fun (i : Nat) (a : List Lease) => Lqa (some 65) [.i (s.leases.length : Int), .i (i : Int), .i s.width, .i (s.now + e.number), .i s.given, .i s.births, .i 0, .i 0, .i 0, .i 0, .i 0, .s E0, .i 0, .s E0, .s E0, .l (encL a), .l (encL s.leases), .l (encK s.things), .l (encP s.pins), .l [], .l [], .l []]) (n := s.leases.length)
      (T := some (zt (done { s with now := s.now + e.number, leases := s.leases.filter fun l => decide (s.now + e.number < l.till) })))
      (I := fun i a => a = (s.leases.take i).filter fun l => decide (s.now + e.number < l.till)) (fun i a hi hI => by
        have hle : a.length ≤ i := by rw [hI]; exact Nat.le_trans (List.length_filter_le _ _) (by simp; omega)
        by_cases ht : s.now + e.number < (nth L0 s.leases i).till
        · refine ⟨a ++ [nth L0 s.leases i], ?_, ?_⟩
          · show Lqa _ _ = Lqa _ _
            rw [eqa_65, mostE, ← zc7]; simp (disch := omega) only [push_cast] <;> rfl
          · show a ++ [nth L0 s.leases i] = _
            rw [zba L0 hi, List.filter_append, ← hI]; simp [ht]
        · refine ⟨a, ?_, ?_⟩
          · show Lqa _ _ = Lqa _ _
            rw [eqa_65]; simp (disch := omega) only [push_cast]
          · show a = _
            rw [zba L0 hi, List.filter_append, ← hI]; simp [ht]) (fun a hI => by
        show Lqa _ _ = _
        rw [eqa_65]; simp (disch := omega) only [push_cast, zdq]
        rw [hI, List.take_length]; rfl) 0 [] (Nat.zero_le _) rfl
    exact this
  · rw [if_neg hn]
    simp (disch := omega) only [push_cast, zbd]; rfl
theorem zkr (hk : e.kind = 7) (r : Bool) : Lqa (some 4) (.b r :: args4 s e) = some (zt (chg s e)) := by
  unfold args4 chg
  have h1 := V.nT; have h2 := V.nP; have h3 := V.nL
  rw [eqa_4, if_neg (by omega), if_neg (by omega), if_neg (by omega), if_neg (by omega), if_neg (by omega), if_neg (by omega), hk]
  have hl := lb_le (qK e.sum) s.things
  by_cases hT : hasT s.things e.sum
  · have hi := (zcg V.srtT e.sum).1 hT
    have hh := zl8 s e.sum (by omega) (by omega)
    have hr := zkz s.width s.now s.given s.births s.things (encP s.pins) (encL s.leases) e.sum (by omega) (fun k hk => by have := (V.okT k hk).1.refs; omega)
    rw [if_pos hT]
    unfold encSt at hh
    simp (disch := omega) only [push_cast, zbx _ _ _ _ s.things _ _ e.sum V.srtT (by omega), decide_eq_true hT, hh]
    by_cases c1 : held s e.sum
    · rw [if_pos (Or.inl c1), decide_eq_true c1]
      simp (disch := omega) only [push_cast, zhs]; rfl
    · rw [decide_eq_false c1]
      by_cases c2 : isRef s.things e.sum
      · rw [if_pos (Or.inr c2)]
        simp (disch := omega) only [push_cast, hr, decide_eq_true c2, zhs]; rfl
      · rw [if_neg (by rintro (h | h); exact c1 h; exact c2 h)]
        have hs1 : Eng.sub (encK s.things) 0 (lb (qK e.sum) s.things) = encK (s.things.take (lb (qK e.sum) s.things)) := by rw [zef, zdn]
        have hs2 : Eng.sub (encK s.things) (lb (qK e.sum) s.things + 1) s.things.length = encK (s.things.drop (lb (qK e.sum) s.things + 1)) := by rw [zef, zdp]
        simp (disch := omega) only [push_cast, hr, decide_eq_false c2, hs1, hs2, mostE, zn9, List.length_append, List.length_take, List.length_drop]
        rw [zdq, zbm]
        unfold zt done delK
        rw [zft K0 V.srtT (kp e.sum) (kR e.sum) hT] <;> rfl
  · rw [if_neg hT]
    simp (disch := omega) only [push_cast, zbx _ _ _ _ s.things _ _ e.sum V.srtT (by omega), decide_eq_false hT, zbd]; rfl
end
end KV
end
section
namespace KV
open Go Go.Eng
open Classical
theorem zi5 (l : Rw) (h : l.length ≤ 1099511627776) : Lqb3 none [.l l] = some [.l l] := by
  rw [eqb3_i, mostE]; simp (disch := omega) only [push_cast]
section
variable {s : State} {e : Entry} (V : VS s)
include V
theorem zh8 (x : Bs) (b : Int) (T : Rw) (hm : 0 ≤ e.number ∧ e.number ≤ 1000000000) :
    Lqa (some 27) [.s x, .i s.width, .i s.now, .i s.given, .i b, .i 0, .i 0, .i 0, .i 0, .i 0, .s E0, .i 0, .s E0, .s E0, .i e.kind, .s e.sum, .s e.name, .i e.number, .s e.thing.text, .l (encS e.thing.refs), .l T, .l (encP s.pins), .l (encL s.leases), .l [], .l [], .l []] =
      some [.i 0, .i 0, .i 0, .i 0, .i 0, .s x, .i (s.given + 1), .s E0, .s E0, .i s.width, .i s.now, .i (s.given + 1), .i b, .l [], .l [], .l [], .l T, .l (encP s.pins), .l (encL (s.leases ++ [⟨s.given + 1, x, s.now + e.number⟩]))] := by
  have h2 := V.nL
  rw [eqa_27]
  simp (disch := omega) only [push_cast, zhc x s.width s.now s.given b e.kind e.sum e.name e.number e.thing.text (encS e.thing.refs) T (encP s.pins) s.leases (by omega) V.given V.now hm]
theorem zn0 (h : ThingOk e.thing s.width) (hm : 0 ≤ e.number ∧ e.number ≤ 1000000000) (hr : ∀ r ∈ e.thing.refs, hasT s.things r) :
    Lqa (some 7) [.b (decide (room s)), .l (encS e.thing.refs), .i (e.thing.refs.length : Int), .i (e.thing.refs.length : Int), .i s.width, .i s.now, .i s.given, .i s.births, .i e.kind, .s e.sum, .s e.name, .i e.number, .s e.thing.text, .l (encS e.thing.refs), .i 0, .i 0, .i 0, .i 0, .i 0, .s E0, .i 0, .s E0, .s E0, .l (encK s.things), .l (encP s.pins), .l (encL s.leases), .l [], .l [], .l []] = some (zt (putS s e)) := by
  have h1 := V.nT; have h2 := V.nL; have h3 := V.births
  have hw : zm s.width = true := zbi.2 V.wd
  have hz := zci h
  have hfs := zet e.thing
  unfold putS
  rw [eqa_7, if_neg (by rintro ⟨r, h4, h5⟩; exact h5 (hr r h4))]
  have hl := lb_le (qK (sumM (formM e.thing) s.width)) s.things
  generalize hx : sumM (formM e.thing) s.width = x at hl
  simp (disch := omega) only [push_cast, zbn h, zbw (formM e.thing) s.width (by omega), hx, zbx _ _ _ _ s.things _ _ x V.srtT (by omega)]
  by_cases hT : hasT s.things x
  · have hi := (zcg V.srtT x).1 hT
    have hk := (V.okT _ (zl (d := K0) hi.1)).1
    rw [if_pos hT, decide_eq_true hT]
    simp (disch := omega) only [push_cast, zbn hk]
    by_cases hf : formM (nth K0 s.things (lb (qK x) s.things)).thing = formM e.thing
    · rw [if_pos hf, decide_eq_true hf]
      by_cases hro : room s
      · rw [if_pos hro, decide_eq_true hro]
        simp (disch := omega) only [push_cast]
        rw [eqa_22]
        simp (disch := omega) only [push_cast, zh8 V x s.births (encK s.things) hm]; rfl
      · rw [if_neg hro, decide_eq_false hro]
        simp (disch := omega) only [push_cast, zev]; rfl
    · rw [if_neg hf, decide_eq_false hf]
      simp (disch := omega) only [push_cast] <;> rfl
  · rw [if_neg hT, decide_eq_false hT]
    by_cases hro : room s
    · rw [decide_eq_true hro]
      by_cases c1 : s.things.length = 600
      · rw [if_neg (by omega)]
        simp (disch := omega) only [push_cast, zev]; rfl
      · by_cases c2 : s.births = 1000000000
        · rw [if_neg (by omega)]
          simp (disch := omega) only [push_cast, zev]; rfl
        · rw [if_pos ⟨hro, by omega, by omega⟩]
          simp (disch := omega) only [push_cast]
          have hs1 : Eng.sub (encK s.things) 0 (lb (qK x) s.things) = encK (s.things.take (lb (qK x) s.things)) := by rw [zef, zdn]
          have hs2 : Eng.sub (encK s.things) (lb (qK x) s.things) s.things.length = encK (s.things.drop (lb (qK x) s.things)) := by rw [zef, zdp]
          rw [eqa_22]
          simp (disch := omega) only [push_cast, hs1, hs2, mostE, List.length_append, List.length_take, List.length_drop, Nat.beq_refl, zi5 (encS e.thing.refs) (by rw [zr]; omega)]
          rw [zdc, zbm, zbm, List.append_assoc]
          rw [zh8 V x (s.births + 1) _ hm]; rfl
    · rw [decide_eq_false hro, if_neg (by rintro ⟨h4, _⟩; exact hro h4)]
      simp (disch := omega) only [push_cast, zev]; rfl
theorem zl5 (hk : e.kind = 1) (h : ThingOk e.thing s.width) (hm : 0 ≤ e.number ∧ e.number ≤ 1000000000) : Lqa (some 4) (.b (decide (room s)) :: args4 s e) = some (zt (chg s e)) := by
  have h1 := V.nT; have h4 := h.refs
  unfold args4 chg
  rw [eqa_4, if_pos hk]
  simp (disch := omega) only [push_cast]
  have := zby (f := fun i : Nat => Lqa (some 7) [.b (decide (room s)), .l (encS e.thing.refs), .i (e.thing.refs.length : Int), .i (i : Int), .i s.width, .i s.now, .i s.given, .i s.births, .i e.kind, .s e.sum, .s e.name, .i e.number, .s e.thing.text, .l (encS e.thing.refs), .i 0, .i 0, .i 0, .i 0, .i 0, .s E0, .i 0, .s E0, .s E0, .l (encK s.things), .l (encP s.pins), .l (encL s.leases), .l [], .l [], .l []])
    .empty (l := e.thing.refs) (p := fun r => ¬ hasT s.things r) (T := some (zt (fail s 2))) (E := Lqa (some 7) [.b (decide (room s)), .l (encS e.thing.refs), .i (e.thing.refs.length : Int), .i (e.thing.refs.length : Int), .i s.width, .i s.now, .i s.given, .i s.births, .i e.kind, .s e.sum, .s e.name, .i e.number, .s e.thing.text, .l (encS e.thing.refs), .i 0, .i 0, .i 0, .i 0, .i 0, .s E0, .i 0, .s E0, .s E0, .l (encK s.things), .l (encP s.pins), .l (encL s.leases), .l [], .l [], .l []]) (fun i hi => by
      show Lqa _ _ = cond _ _ (Lqa _ _)
      rw [eqa_7]
      simp (disch := omega) only [push_cast, zbx _ _ _ _ s.things _ _ (nth .empty e.thing.refs i) V.srtT (by omega), zbd]
      by_cases hT : hasT s.things (nth .empty e.thing.refs i)
      · rw [decide_eq_true hT, decide_eq_false (not_not_intro hT)]; rfl
      · rw [decide_eq_false hT, decide_eq_true hT]; rfl) rfl
  refine this.trans ?_
  by_cases hr : ∃ r ∈ e.thing.refs, ¬ hasT s.things r
  · rw [if_pos hr]; unfold putS; rw [if_pos hr]
  · rw [if_neg hr, zn0 V h hm fun r hr2 => Classical.byContradiction fun h5 => hr ⟨r, hr2, h5⟩]
theorem zle (he : zj e s.width = true) : Lqa none (encE e ++ encSt s) = some (zt (chg s e)) := by
  have h2 := V.nL; have hg := V.given
  have hnum := EntryOk.num he; have hk := EntryOk.kd he
  show Lqa none [.i e.kind, .s e.sum, .s e.name, .i e.number, .s e.thing.text, .l (encS e.thing.refs), .i s.width, .i s.now, .i s.given, .i s.births, .l (encK s.things), .l (encP s.pins), .l (encL s.leases)] = _
  have : Lqa none [.i e.kind, .s e.sum, .s e.name, .i e.number, .s e.thing.text, .l (encS e.thing.refs), .i s.width, .i s.now, .i s.given, .i s.births, .l (encK s.things), .l (encP s.pins), .l (encL s.leases)] = Lqa (some 4) (.b (decide (room s)) :: args4 s e) := by
    rw [eqa_i]
    by_cases hl : s.leases.length < 200
    · have : decide (room s) = decide (s.given < 1000000000) := decide_eq_decide.2 ⟨fun h => h.2, fun h => ⟨hl, h⟩⟩
      simp (disch := omega) only [push_cast, this]; rfl
    · rw [decide_eq_false fun h : room s => hl h.1]; simp (disch := omega) only [push_cast]; rfl
  rw [this]
  have hc : e.kind = 1 ∨ e.kind = 2 ∨ e.kind = 3 ∨ e.kind = 4 ∨ e.kind = 5 ∨ e.kind = 6 ∨ e.kind = 7 := by omega
  rcases hc with h | h | h | h | h | h | h
  · exact zl5 V h (EntryOk.thing he h) hnum
  · exact zn7 V h _
  · exact zpb V h _
  · exact zkw V h hnum
  · exact zj9 V h _
  · exact zj0 V h hnum _
  · exact zkr V h _
end
end KV
end
section
namespace KV
open Go Go.Eng
open Classical
noncomputable def findT (T : List Kept) (x : Bs) : Int := if hasT T x then (lb (qK x) T : Int) else -1
theorem zd5 (w now g b : Int) (T : List Kept) (P L : Rw) (x : Bs) (h : SrtK T) (hn : T.length ≤ 1000000) : Lqf none [.i w, .i now, .i g, .i b, .l (encK T), .l P, .l L, .s x] = some [.i (findT T x)] := by
  rw [eqf_i]
  have := zhb (f := fun i : Nat => Lqf (some 2) [.s x, .i (i : Int), .i w, .i now, .i g, .i b, .l (encK T), .l P, .l L]) (l := T) (d := K0) (p := fun k => decide (k.sum = x)) (ret := fun i => some [.i (i : Int)]) (e := some [.i (-1)]) (fun i hi => by
    show Lqf _ _ = cond _ _ (Lqf _ _)
    rw [eqf_2]; simp (disch := omega) only [push_cast]) (by show Lqf _ _ = _; rw [eqf_2]; simp (disch := omega) only [push_cast])
  refine this.trans ?_
  rw [zot K0 h (kp x) (kR x)]
  unfold findT
  by_cases hT : hasT T x
  · rw [if_pos hT, if_pos (show ∃ a ∈ T, a.sum = x from hT)]
  · rw [if_neg hT, if_neg (show ¬ ∃ a ∈ T, a.sum = x from hT)]
theorem zbu {T : List Kept} {x : Bs} : findT T x < 0 ↔ ¬ hasT T x := by
  unfold findT; split
  · rename_i h; simp [h]
  · rename_i h; simp [h]
def zo (o : Out) : Lv := if o.code = 0 then [.i 0, .i o.st.width, .i o.st.now, .i o.st.given, .i o.st.births, .l (encK o.st.things), .l (encP o.st.pins), .s o.sum, .i o.lease, .s o.a, .s o.b, .l (encL o.st.leases)]
  else [.i o.code, .i 0, .i 0, .i 0, .i 0, .l [], .l [], .s o.sum, .i o.lease, .s o.a, .s o.b, .l []]
theorem zdw (l : List Bs) (x : Bs) (h : l.length ≤ 4611686018427387904) : Lqbn none [.l (encS l), .s x] = some [.b (decide (x ∈ l))] := by
  rw [eqbn_i]
  have := zby (f := fun i : Nat => Lqbn (some 2) [.l (encS l), .s x, .i (i : Int)]) .empty (l := l) (p := fun r => r = x) (T := some [.b true]) (E := some [.b false]) (fun i hi => by
    show Lqbn _ _ = cond _ _ (Lqbn _ _)
    rw [eqbn_2]; simp (disch := omega) only [push_cast]) (by show Lqbn _ _ = _; rw [eqbn_2]; simp (disch := omega) only [push_cast])
  refine this.trans ?_
  by_cases h : ∃ r ∈ l, r = x
  · rw [if_pos h, decide_eq_true (p := x ∈ l) (by obtain ⟨r, hr, rfl⟩ := h; exact hr)]
  · rw [if_neg h, decide_eq_false (p := x ∈ l) (fun h3 => h ⟨x, h3, rfl⟩)]
theorem zn4 (s : State) (x : Bs) (h1 : s.pins.length ≤ 1000000) (h2 : s.leases.length ≤ 1000000) : Lqk none (encSt s ++ [.s x]) = some [.b (decide (held s x))] := by
  show Lqk none [.i s.width, .i s.now, .i s.given, .i s.births, .l (encK s.things), .l (encP s.pins), .l (encL s.leases), .s x] = _
  rw [eqk_i]
  have a1 := zby (f := fun i : Nat => Lqk (some 7) [.s x, .i (i : Int), .i s.width, .i s.now, .i s.given, .i s.births, .l (encK s.things), .l (encP s.pins), .l (encL s.leases)]) L0 (l := s.leases) (p := fun l => l.sum = x) (T := some [.b true]) (E := some [.b false]) (fun i hi => by
    show Lqk _ _ = cond _ _ (Lqk _ _)
    rw [eqk_7]; simp (disch := omega) only [push_cast]) (by show Lqk _ _ = _; rw [eqk_7]; simp (disch := omega) only [push_cast])
  have a2 := zby (f := fun i : Nat => Lqk (some 2) [.s x, .i (i : Int), .i s.width, .i s.now, .i s.given, .i s.births, .l (encK s.things), .l (encP s.pins), .l (encL s.leases)]) P0 (l := s.pins) (p := fun l => l.sum = x) (T := some [.b true]) (E := Lqk (some 7) [.s x, .i 0, .i s.width, .i s.now, .i s.given, .i s.births, .l (encK s.things), .l (encP s.pins), .l (encL s.leases)]) (fun i hi => by
    show Lqk _ _ = cond _ _ (Lqk _ _)
    rw [eqk_2]; simp (disch := omega) only [push_cast]) (by show Lqk _ _ = _; rw [eqk_2]; simp (disch := omega) only [push_cast])
  refine a2.trans ?_
  by_cases h : ∃ p ∈ s.pins, p.sum = x
  · rw [if_pos h, decide_eq_true (p := held s x) (Or.inl h)]
  · rw [if_neg h]
    refine a1.trans ?_
    by_cases h3 : ∃ l ∈ s.leases, l.sum = x
    · rw [if_pos h3, decide_eq_true (p := held s x) (Or.inr h3)]
    · rw [if_neg h3, decide_eq_false (p := held s x) (by rintro (h4 | h4); exact h h4; exact h3 h4)]
theorem zei (w now gv b : Int) (T P : Rw) (x : Bs) (m : Int) (L : List Lease) (hl : L.length ≤ 1000000) (hg : 0 ≤ gv ∧ gv ≤ 1000000000) (hn : 0 ≤ now ∧ now ≤ 1000000000) (hm : 0 ≤ m ∧ m ≤ 1000000000) :
    Lqbx none [.i w, .i now, .i gv, .i b, .l T, .l P, .s x, .i m, .l (encL L)] = some (if L.length < 200 ∧ gv < 1000000000 then [.i 0, .i w, .i now, .i (gv + 1), .i b, .l T, .l P, .s E0, .i (gv + 1), .s E0, .s E0, .l (encL (L ++ [⟨gv + 1, x, now + m⟩]))] else [.i 4, .i 0, .i 0, .i 0, .i 0, .l [], .l [], .s E0, .i 0, .s E0, .s E0, .l []]) := by
  rw [eqbx_i, ← zc7, mostE]
  by_cases h1 : L.length < 200
  · by_cases h2 : gv < 1000000000
    · rw [if_pos ⟨h1, h2⟩]; simp (disch := omega) only [push_cast] <;> rfl
    · rw [if_neg fun h => h2 h.2]; simp (disch := omega) only [push_cast]
  · rw [if_neg fun h => h1 h.1]; simp (disch := omega) only [push_cast]
theorem zer (w now g b : Int) (T : List Kept) (P L : Rw) (hT : T.length ≤ 1000000) (hr : ∀ k ∈ T, k.thing.refs.length ≤ 1000000) (hP : P.length ≤ 1000000) (hL : L.length ≤ 1000000) :
    Lqu none [.i w, .i now, .i g, .i b, .l (encK T), .l P, .l L] = some [.i w, .i now, .i g, .i b, .l (encK T), .l P, .l L] := by
  rw [equ_i]
  have := zy (f := fun (i : Nat) (a : List Kept) => Lqu (some 4) [.i (i : Int), .i w, .i now, .i g, .i b, .l (encK T), .l P, .l L, .i 0, .i 0, .i 0, .i 0, .i w, .i now, .i g, .i b, .l P, .l L, .l [], .l [], .l [], .l (encK a)]) (n := T.length) (T := some [.i w, .i now, .i g, .i b, .l (encK T), .l P, .l L])
    (I := fun i a => a = T.take i) (fun i a hi hI => ⟨a ++ [nth K0 T i], by
      show Lqu _ _ = Lqu _ _
      have hk := hr _ (zl (d := K0) hi)
      have hl : a.length ≤ i := by rw [hI]; simp; omega
      rw [equ_4, mostE, ← zbm]
      simp (disch := omega) only [push_cast, zgn _ (encS (nth K0 T i).thing.refs) (by rw [zr]; omega)] <;> rfl, by show a ++ [nth K0 T i] = _; rw [zba K0 hi, hI]⟩) (fun a hI => by
      show Lqu _ _ = _
      rw [equ_4, mostE]
      simp (disch := omega) only [push_cast, List.nil_append]
      rw [hI, List.take_length]) 0 [] (Nat.zero_le _) rfl
  exact this
section
variable {s : State} {e : Entry} (V : VS s)
include V
theorem zff : ∀ k ∈ s.things, k.thing.refs.length ≤ 1000000 := fun k hk => by have := (V.okT k hk).1.refs; omega
theorem zof (x : Bs) (bn : Int) (t : Thing) (hx : ¬ hasT s.things x) (hb : 0 ≤ bn ∧ bn ≤ 1000000000) (hm : 0 ≤ e.number ∧ e.number ≤ 1000000000) :
    Lqg (some 20) [.s x, .b false, .i 0, .i s.width, .i s.now, .i s.given, .i bn, .l (encK s.things), .l (encP s.pins), .i e.kind, .s e.sum, .s e.name, .i e.number, .s e.thing.text, .l (encS e.thing.refs), .i 0, .i 0, .i 0, .i 0, .i 0, .s E0, .i 0, .s E0, .s E0, .l [], .s x, .i bn, .s t.text, .l (encS t.refs), .l (encL s.leases), .l [], .l [], .l []] =
      some (if room s then [.i 0, .i s.width, .i s.now, .i (s.given + 1), .i bn, .l (encK (insK ⟨x, bn, t⟩ s.things)), .l (encP s.pins), .s x, .i (s.given + 1), .s E0, .s E0, .l (encL (s.leases ++ [⟨s.given + 1, x, s.now + e.number⟩]))] else [.i 4, .i 0, .i 0, .i 0, .i 0, .l [], .l [], .s E0, .i 0, .s E0, .s E0, .l []]) := by
  have h1 := V.nT; have h2 := V.nL
  have hl := lb_le (qK x) s.things
  have := zy (f := fun (i : Nat) (a : Bool × List Kept) => Lqg (some 20) [.s x, .b a.1, .i (i : Int), .i s.width, .i s.now, .i s.given, .i bn, .l (encK s.things), .l (encP s.pins), .i e.kind, .s e.sum, .s e.name, .i e.number, .s e.thing.text, .l (encS e.thing.refs), .i 0, .i 0, .i 0, .i 0, .i 0, .s E0, .i 0, .s E0, .s E0, .l (encK a.2), .s x, .i bn, .s t.text, .l (encS t.refs), .l (encL s.leases), .l [], .l [], .l []]) (n := s.things.length)
    (T := some (if room s then [.i 0, .i s.width, .i s.now, .i (s.given + 1), .i bn, .l (encK (insK ⟨x, bn, t⟩ s.things)), .l (encP s.pins), .s x, .i (s.given + 1), .s E0, .s E0, .l (encL (s.leases ++ [⟨s.given + 1, x, s.now + e.number⟩]))] else [.i 4, .i 0, .i 0, .i 0, .i 0, .l [], .l [], .s E0, .i 0, .s E0, .s E0, .l []]))
    (I := fun i a => (i ≤ lb (qK x) s.things ∧ a = (false, s.things.take i)) ∨ (lb (qK x) s.things < i ∧ a = (true, s.things.take (lb (qK x) s.things) ++ ⟨x, bn, t⟩ :: (s.things.drop (lb (qK x) s.things)).take (i - lb (qK x) s.things)))) (fun i a hi hI => by
      rcases hI with ⟨hi2, rfl⟩ | ⟨hi2, rfl⟩
      · rcases Nat.eq_or_lt_of_le hi2 with he | hlt
        · refine ⟨(true, (s.things.take i ++ [⟨x, bn, t⟩]) ++ [nth K0 s.things i]), ?_, .inr ⟨by omega, ?_⟩⟩
          · show Lqg _ _ = Lqg _ _
            have c1 : slt (nth K0 s.things i).sum x = false := by rw [he]; exact lb_at (qK x) K0 s.things (by omega)
            have c2 : ¬ (nth K0 s.things i).sum = x := fun h => hx ⟨_, zl hi, h⟩
            rw [eqg_20, mostE, ← zbm, ← zbm]
            simp (disch := omega) only [push_cast, c1, Bool.false_or, decide_eq_false c2, List.length_append, List.length_take]
            rw [zdc, zdc]
          · rw [← he, Nat.add_sub_cancel_left, zdo K0 hi]; simp
        · refine ⟨(false, s.things.take i ++ [nth K0 s.things i]), ?_, .inl ⟨hlt, by rw [zba K0 hi]⟩⟩
          show Lqg _ _ = Lqg _ _
          have c1 : slt (nth K0 s.things i).sum x = true := lb_lt (qK x) K0 s.things i hlt
          rw [eqg_20, mostE, ← zbm]
          simp (disch := omega) only [push_cast, c1, Bool.true_or, List.length_append, List.length_take]
          rw [zdc]
      · refine ⟨(true, (s.things.take (lb (qK x) s.things) ++ ⟨x, bn, t⟩ :: (s.things.drop (lb (qK x) s.things)).take (i - lb (qK x) s.things)) ++ [nth K0 s.things i]), ?_, .inr ⟨by omega, ?_⟩⟩
        · show Lqg _ _ = Lqg _ _
          rw [eqg_20, mostE]
          conv => rhs; rw [← zbm]
          simp (disch := omega) only [push_cast, List.length_append, List.length_take, List.length_drop]
          rw [zdc]
        · congr 1
          have hd : nth K0 s.things i = nth K0 (s.things.drop (lb (qK x) s.things)) (i - lb (qK x) s.things) := by
            rw [zn _ _ _ hi, zn _ _ _ (by simp; omega)]; simp; congr 1; omega
          rw [hd, show i + 1 - lb (qK x) s.things = (i - lb (qK x) s.things) + 1 by omega, zba K0 (by simp; omega)]
          simp) (fun a hI => by
      show Lqg _ _ = _
      rw [eqg_20]
      rcases hI with ⟨hi2, rfl⟩ | ⟨hi2, rfl⟩
      · have hlb : lb (qK x) s.things = s.things.length := by omega
        have hins : insK ⟨x, bn, t⟩ s.things = s.things ++ [⟨x, bn, t⟩] := by
          unfold insK; simp only; rw [hlb, List.take_length, List.drop_length]
        rw [List.take_length, zdc, zbm, hins, mostE]
        simp (disch := omega) only [push_cast, zei s.width s.now s.given bn _ (encP s.pins) x e.number s.leases (by omega) V.given V.now hm, List.length_append]
        by_cases hr : room s
        · rw [if_pos hr, if_pos (show s.leases.length < 200 ∧ s.given < 1000000000 from hr)]; simp (disch := omega) only [push_cast] <;> rfl
        · rw [if_neg hr, if_neg (show ¬ (s.leases.length < 200 ∧ s.given < 1000000000) from hr)]; simp (disch := omega) only [push_cast] <;> rfl
      · have hins : s.things.take (lb (qK x) s.things) ++ ⟨x, bn, t⟩ :: (s.things.drop (lb (qK x) s.things)).take (s.things.length - lb (qK x) s.things) = insK ⟨x, bn, t⟩ s.things := by
          unfold insK; simp only; rw [List.take_of_length_le (l := s.things.drop _) (by simp)]
        rw [hins]
        simp (disch := omega) only [push_cast, zei s.width s.now s.given bn _ (encP s.pins) x e.number s.leases (by omega) V.given V.now hm]
        by_cases hr : room s
        · rw [if_pos hr, if_pos (show s.leases.length < 200 ∧ s.given < 1000000000 from hr)]; simp (disch := omega) only [push_cast] <;> rfl
        · rw [if_neg hr, if_neg (show ¬ (s.leases.length < 200 ∧ s.given < 1000000000) from hr)]; simp (disch := omega) only [push_cast] <;> rfl) 0 (false, []) (Nat.zero_le _) (.inl ⟨Nat.zero_le _, rfl⟩)
  exact this
theorem zdt (x : Bs) (P L : Rw) : Lqf none [.i s.width, .i s.now, .i s.given, .i s.births, .l (encK s.things), .l P, .l L, .s x] = some [.i (findT s.things x)] := by
  have h1 := V.nT
  exact zd5 _ _ _ _ _ _ _ _ V.srtT (by omega)
def zb5 (s : State) (e : Entry) : Lv := [.i s.width, .i s.now, .i s.given, .i s.births, .l (encK s.things), .l (encP s.pins), .i e.kind, .s e.sum, .s e.name, .i e.number, .s e.thing.text, .l (encS e.thing.refs), .l (encL s.leases)]
theorem zkv (h : ThingOk e.thing s.width) (hm : 0 ≤ e.number ∧ e.number ≤ 1000000000) : Lqg none (zb5 s e) = some (zo (putS s e)) := by
  have h1 := V.nT; have h2 := V.nL; have h3 := V.births
  have hz := zci h
  have hfs := zet e.thing
  unfold zb5
  rw [eqg_i]
  simp (disch := omega) only [push_cast, zc2, formT, if_pos (zdk.2 h), zd2 (formM e.thing) s.width (by omega)]
  have hput := putS.eq_1 s e
  have hl := lb_le (qK (sumM (formM e.thing) s.width)) s.things
  generalize hx : sumM (formM e.thing) s.width = x at hl hput ⊢
  have := zby (f := fun i : Nat => Lqg (some 4) [.s (formM e.thing), .s x, .i (i : Int), .i s.width, .i s.now, .i s.given, .i s.births, .l (encK s.things), .l (encP s.pins), .i e.kind, .s e.sum, .s e.name, .i e.number, .s e.thing.text, .l (encS e.thing.refs), .i 0, .i 0, .i 0, .i 0, .i 0, .s E0, .i 0, .s E0, .s E0, .l (encL s.leases), .l [], .l [], .l []])
    .empty (l := e.thing.refs) (p := fun r => ¬ hasT s.things r) (T := some (zo (fail s 2))) (E := Lqg (some 4) [.s (formM e.thing), .s x, .i (e.thing.refs.length : Int), .i s.width, .i s.now, .i s.given, .i s.births, .l (encK s.things), .l (encP s.pins), .i e.kind, .s e.sum, .s e.name, .i e.number, .s e.thing.text, .l (encS e.thing.refs), .i 0, .i 0, .i 0, .i 0, .i 0, .s E0, .i 0, .s E0, .s E0, .l (encL s.leases), .l [], .l [], .l []]) (fun i hi => by
      show Lqg _ _ = cond _ _ (Lqg _ _)
      rw [eqg_4]
      simp (disch := omega) only [push_cast, zdt V]
      by_cases hT : hasT s.things (nth .empty e.thing.refs i)
      · rw [decide_eq_false (show ¬ findT s.things (nth .empty e.thing.refs i) < 0 from fun h => zbu.1 h hT), decide_eq_false (not_not_intro hT)]; rfl
      · rw [decide_eq_true (zbu.2 hT), decide_eq_true hT]; rfl) rfl
  refine this.trans ?_
  by_cases hr : ∃ r ∈ e.thing.refs, ¬ hasT s.things r
  · rw [if_pos hr]; unfold putS; rw [if_pos hr]
  rw [if_neg hr, hput, if_neg hr, eqg_4]
  simp (disch := omega) only [push_cast, zdt V]
  unfold findT
  by_cases hT : hasT s.things x
  · have hi := (zcg V.srtT x).1 hT
    have hk := (V.okT _ (zl (d := K0) hi.1)).1
    rw [if_pos hT, if_pos hT]
    simp (disch := omega) only [push_cast, zc2, formT, if_pos (zdk.2 hk)]
    by_cases hf : formM (nth K0 s.things (lb (qK x) s.things)).thing = formM e.thing
    · rw [if_pos hf, decide_eq_true hf]
      simp (disch := omega) only [push_cast, zei s.width s.now s.given s.births (encK s.things) (encP s.pins) x e.number s.leases (by omega) V.given V.now hm]
      by_cases hro : room s
      · rw [if_pos hro, if_pos (show s.leases.length < 200 ∧ s.given < 1000000000 from hro)]; simp (disch := omega) only [push_cast] <;> rfl
      · rw [if_neg hro, if_neg (show ¬ (s.leases.length < 200 ∧ s.given < 1000000000) from hro)]; simp (disch := omega) only [push_cast] <;> rfl
    · rw [if_neg hf, decide_eq_false hf]; simp (disch := omega) only [push_cast] <;> rfl
  · rw [if_neg hT, if_neg hT]
    by_cases c1 : s.things.length < 600
    · by_cases c2 : s.births < 1000000000
      · simp (disch := omega) only [push_cast, zgn _ (encS e.thing.refs) (by rw [zr]; omega)]
        have := zof (e := e) V x (s.births + 1) e.thing hT (by omega) hm
        rw [this]
        by_cases hro : room s
        · rw [if_pos hro, if_pos ⟨hro, c1, c2⟩]; rfl
        · rw [if_neg hro, if_neg fun h => hro h.1]; rfl
      · simp (disch := omega) only [push_cast]
        rw [if_neg fun h => c2 h.2.2]; rfl
    · simp (disch := omega) only [push_cast]
      rw [if_neg fun h => c1 h.2.1]; rfl
end
end KV
end
section
namespace KV
open Go Go.Eng
open Classical
theorem zlq {α : Type} {R : α → α → Prop} {q : α → Bool} {p : α → Prop} [DecidablePred p] (d : α) {l : List α} (h : l.Pairwise R) (hp : ∀ a, p a → q a = false) (hR : ∀ a b, R a b → p b → q a = true) :
    (l.drop (lb q l)).filter (fun a => !decide (p a)) = if ∃ a ∈ l, p a then l.drop (lb q l + 1) else l.drop (lb q l) := by
  have tail : ∀ k, lb q l < k → (l.drop k).filter (fun a => !decide (p a)) = l.drop k := fun k hk => by
    apply List.filter_eq_self.2
    intro a ha
    obtain ⟨j, hj, rfl⟩ := List.mem_iff_getElem.1 ha
    simp only [List.getElem_drop, Bool.not_eq_true', decide_eq_false_iff_not]
    rw [List.length_drop] at hj
    rw [← zn d l _ (by omega)]
    intro hpj; have := zcx d h hp hR (show k + j < l.length by omega) hpj; omega
  split
  · rename_i he
    obtain ⟨h1, h2⟩ := (zc4 d h hp hR).1 he
    rw [zdo d h1, List.filter_cons, if_neg (by simp [h2]), tail _ (by omega)]
  · rename_i he
    apply List.filter_eq_self.2
    intro a ha
    simp only [Bool.not_eq_true', decide_eq_false_iff_not]
    exact fun hpa => he ⟨a, List.mem_of_mem_drop ha, hpa⟩
theorem zhh {l : List Pin} (h : SrtP l) (n x : Bs) : l.take (lb (qP n) l) ++ ⟨n, x⟩ :: (l.drop (lb (qP n) l)).filter (fun k => !decide (k.name = n)) = putP n x l := by
  rw [zlq P0 h (pp n) (pR n)]
  unfold putP
  by_cases hP : hasP l n
  · rw [if_pos (show ∃ a ∈ l, a.name = n from hP), if_pos hP, List.set_eq_take_append_cons_drop, if_pos ((zde h n).1 hP).1]
  · rw [if_neg (show ¬ ∃ a ∈ l, a.name = n from hP), if_neg hP]
theorem znh (l : List Pin) (n x : Bs) : (putP n x l).length = if hasP l n then l.length else l.length + 1 := by
  have := lb_le (qP n) l
  unfold putP; split
  · rw [List.length_set]
  · simp; omega
theorem zem {α : Type} (d : α) {l : List α} {p : α → Bool} {f : Nat → List α → Option Lv} {T : Option Lv} (step : ∀ i a, i < l.length → a.length ≤ i → f i a = f (i + 1) (if p (nth d l i) = true then a ++ [nth d l i] else a)) (last : f l.length (l.filter p) = T) : f 0 [] = T := by
  refine zy (f := f) (n := l.length) (T := T) (I := fun i a => a = (l.take i).filter p) (fun i a hi hI => ?_) (fun a hI => ?_) 0 [] (Nat.zero_le _) rfl
  · refine ⟨_, step i a hi ?_, ?_⟩
    · rw [hI]; exact Nat.le_trans (List.length_filter_le _ _) (by simp; omega)
    · rw [zba d hi, List.filter_append, ← hI]
      by_cases h : p (nth d l i) = true
      · rw [if_pos h]; simp [h]
      · rw [if_neg h]; simp [h]
  · rw [hI, List.take_length]; exact last
theorem zgu {α : Type} {l : List α} {p : α → Prop} [DecidablePred p] : (l.filter fun a => !decide (p a)).length = l.length ↔ ¬ ∃ a ∈ l, p a := by
  rw [List.length_filter_eq_length_iff]
  simp
def zz (o : Out) : Lv := if o.code = 0 then [.i 0, .i o.st.width, .i o.st.now, .i o.st.given, .i o.st.births, .l (encK o.st.things), .s o.sum, .i o.lease, .s o.a, .s o.b, .l (encP o.st.pins), .l (encL o.st.leases)]
  else [.i o.code, .i 0, .i 0, .i 0, .i 0, .l [], .s o.sum, .i o.lease, .s o.a, .s o.b, .l [], .l []]
theorem zly {o : Out} (h : o.code = 0) : zo o = [.i 0, .i o.st.width, .i o.st.now, .i o.st.given, .i o.st.births, .l (encK o.st.things), .l (encP o.st.pins), .s o.sum, .i o.lease, .s o.a, .s o.b, .l (encL o.st.leases)] := by unfold zo; rw [if_pos h]
theorem zks {o : Out} (h : ¬ o.code = 0) : zo o = [.i o.code, .i 0, .i 0, .i 0, .i 0, .l [], .l [], .s o.sum, .i o.lease, .s o.a, .s o.b, .l []] := by unfold zo; rw [if_neg h]
section
variable {s : State} {e : Entry} (V : VS s)
include V
theorem zou (hk : e.kind = 2) : Lqi none (zb5 s e) = some (zz (chg s e)) := by
  have h2 := V.nP
  have hl := lb_le (qP e.name) s.pins
  unfold zb5 chg
  rw [eqi_i, if_neg (by omega), if_pos hk]
  simp (disch := omega) only [push_cast, zdt V]
  by_cases hT : hasT s.things e.sum
  · rw [if_pos hT, decide_eq_false (show ¬ findT s.things e.sum < 0 from fun h => zbu.1 h hT)]
    simp (disch := omega) only [push_cast]
    have := zy (f := fun (i : Nat) (a : Bool × List Pin) => Lqi (some 6) [.b a.1, .i (i : Int), .i s.width, .i s.now, .i s.given, .i s.births, .l (encK s.things), .l (encP s.pins), .i e.kind, .s e.sum, .s e.name, .i e.number, .s e.thing.text, .l (encS e.thing.refs), .i 0, .i 0, .i 0, .i 0, .i 0, .s E0, .i 0, .s E0, .s E0, .l (encP a.2), .l (encL s.leases), .l [], .l [], .l []]) (n := s.pins.length)
      (T := some (zz (if hasP s.pins e.name ∨ s.pins.length < 100 then done { s with pins := putP e.name e.sum s.pins } else fail s 4)))
      (I := fun i a => (i ≤ lb (qP e.name) s.pins ∧ a = (false, s.pins.take i)) ∨ (lb (qP e.name) s.pins < i ∧ a = (true, s.pins.take (lb (qP e.name) s.pins) ++ ⟨e.name, e.sum⟩ :: ((s.pins.drop (lb (qP e.name) s.pins)).take (i - lb (qP e.name) s.pins)).filter (fun k => !decide (k.name = e.name))))) (fun i a hi hI => by
        have step11 : ∀ (b : Bool) (l : List Pin), l.length ≤ 1000 → Lqi (some 11) [.b b, .i (i : Int), .i s.width, .i s.now, .i s.given, .i s.births, .l (encK s.things), .l (encP s.pins), .i e.kind, .s e.sum, .s e.name, .i e.number, .s e.thing.text, .l (encS e.thing.refs), .i 0, .i 0, .i 0, .i 0, .i 0, .s E0, .i 0, .s E0, .s E0, .l (encP l), .l (encL s.leases), .l [], .l [], .l []] =
            Lqi (some 6) [.b b, .i ((i + 1 : Nat) : Int), .i s.width, .i s.now, .i s.given, .i s.births, .l (encK s.things), .l (encP s.pins), .i e.kind, .s e.sum, .s e.name, .i e.number, .s e.thing.text, .l (encS e.thing.refs), .i 0, .i 0, .i 0, .i 0, .i 0, .s E0, .i 0, .s E0, .s E0, .l (encP (if (nth P0 s.pins i).name = e.name then l else l ++ [nth P0 s.pins i])), .l (encL s.leases), .l [], .l [], .l []] := fun b l hll => by
          rw [eqi_11, mostE]
          by_cases hc : (nth P0 s.pins i).name = e.name
          · rw [if_pos hc]; simp (disch := omega) only [push_cast]
          · rw [if_neg hc, ← zcd]; simp (disch := omega) only [push_cast]; rfl
        rcases hI with ⟨hi2, rfl⟩ | ⟨hi2, rfl⟩
        · rcases Nat.eq_or_lt_of_le hi2 with he | hlt
          · refine ⟨_, ?_, .inr ⟨by omega, rfl⟩⟩
            show Lqi _ _ = Lqi _ _
            have c1 : slt (nth P0 s.pins i).name e.name = false := by rw [he]; exact lb_at (qP e.name) P0 s.pins (by omega)
            rw [eqi_6, mostE]
            simp (disch := omega) only [push_cast, c1, List.length_append, List.length_take]
            rw [zfx, zcd, step11 true _ (by simp; omega)]
            rw [← he, Nat.add_sub_cancel_left, zdo P0 hi]
            by_cases hc : (nth P0 s.pins i).name = e.name
            · simp [hc]
            · simp [hc]
          · refine ⟨(false, s.pins.take (i + 1)), ?_, .inl ⟨hlt, rfl⟩⟩
            show Lqi _ _ = Lqi _ _
            have c1 : slt (nth P0 s.pins i).name e.name = true := lb_lt (qP e.name) P0 s.pins i hlt
            have c2 : ¬ (nth P0 s.pins i).name = e.name := zm3 c1
            rw [eqi_6, mostE]
            simp (disch := omega) only [push_cast, c1]
            rw [step11 false _ (by simp; omega), if_neg c2, zba P0 hi]; simp (disch := omega) only [push_cast]
        · have hfl := List.length_filter_le (fun k : Pin => !decide (k.name = e.name)) ((s.pins.drop (lb (qP e.name) s.pins)).take (i - lb (qP e.name) s.pins))
          simp only [List.length_take, List.length_drop] at hfl
          refine ⟨_, ?_, .inr ⟨by omega, rfl⟩⟩
          show Lqi _ _ = Lqi _ _
          rw [eqi_6]
          simp (disch := omega) only [push_cast]
          rw [step11 true _ (by simp; omega)]
          have hd : nth P0 s.pins i = nth P0 (s.pins.drop (lb (qP e.name) s.pins)) (i - lb (qP e.name) s.pins) := by
            rw [zn _ _ _ hi, zn _ _ _ (by simp; omega)]; simp; congr 1; omega
          rw [show i + 1 - lb (qP e.name) s.pins = (i - lb (qP e.name) s.pins) + 1 by omega, zba P0 (by simp; omega), ← hd]
          by_cases hc : (nth P0 s.pins i).name = e.name
          · simp [hc, List.filter_append]
          · simp [hc, List.filter_append]) (fun a hI => by
        show Lqi _ _ = _
        have hpl := znh s.pins e.name e.sum
        rw [eqi_6]
        rcases hI with ⟨hi2, rfl⟩ | ⟨hi2, rfl⟩
        · have hlb : lb (qP e.name) s.pins = s.pins.length := by omega
          have hnP : ¬ hasP s.pins e.name := fun h => by have := ((zde V.srtP e.name).1 h).1; omega
          have hF : s.pins ++ [⟨e.name, e.sum⟩] = putP e.name e.sum s.pins := by
            rw [← zhh V.srtP, hlb, List.take_length, List.drop_length]; rfl
          rw [List.take_length, zfx, zcd, hF, mostE]
          rw [if_neg hnP] at hpl
          by_cases hc : s.pins.length < 100
          · rw [if_pos (Or.inr hc)]
            simp (disch := omega) only [push_cast, hpl, List.length_append] <;> rfl
          · rw [if_neg (by rintro (h | h); exact hnP h; exact hc h)]
            simp (disch := omega) only [push_cast, hpl, List.length_append] <;> rfl
        · rw [List.take_of_length_le (l := s.pins.drop _) (by simp), zhh V.srtP]
          by_cases hP : hasP s.pins e.name
          · rw [if_pos hP] at hpl
            rw [if_pos (Or.inl hP)]
            simp (disch := omega) only [push_cast, hpl] <;> rfl
          · rw [if_neg hP] at hpl
            by_cases hc : s.pins.length < 100
            · rw [if_pos (Or.inr hc)]
              simp (disch := omega) only [push_cast, hpl] <;> rfl
            · rw [if_neg (by rintro (h | h); exact hP h; exact hc h)]
              simp (disch := omega) only [push_cast, hpl] <;> rfl) 0 (false, []) (Nat.zero_le _) (.inl ⟨Nat.zero_le _, rfl⟩)
    exact this
  · rw [if_neg hT, decide_eq_true (zbu.2 hT)]; simp (disch := omega) only [push_cast] <;> rfl
theorem zpa (hk : e.kind = 3) : Lq5 none [.i s.width, .i s.now, .i s.given, .i s.births, .l (encK s.things), .l (encP s.pins), .s e.name, .l (encL s.leases)] = some (zz (chg s e)) := by
  have h2 := V.nP
  unfold chg
  rw [eq5_i, if_neg (by omega), if_neg (by omega), if_pos hk]
  refine zem P0 (l := s.pins) (p := fun k => !decide (k.name = e.name)) (f := fun i a => Lq5 (some 3) [.s e.name, .i (i : Int), .i s.width, .i s.now, .i s.given, .i s.births, .l (encK s.things), .l (encP s.pins), .i 0, .i 0, .i 0, .i 0, .i 0, .s E0, .i 0, .s E0, .s E0, .l (encP a), .l (encL s.leases), .l [], .l [], .l []]) (fun i a hi ha => ?_) ?_
  · show Lq5 _ _ = Lq5 _ _
    rw [eq5_3, mostE]
    by_cases hc : (nth P0 s.pins i).name = e.name
    · rw [if_neg (by simp [hc])]; simp (disch := omega) only [push_cast]
    · rw [if_pos (by simp [hc]), ← zcd]; simp (disch := omega) only [push_cast] <;> rfl
  · show Lq5 _ _ = _
    rw [eq5_3]
    have hfl := zgu (l := s.pins) (p := fun k => k.name = e.name)
    by_cases hP : hasP s.pins e.name
    · rw [if_pos hP]
      have : ¬ (s.pins.filter fun a => !decide (a.name = e.name)).length = s.pins.length := fun h => hfl.1 h hP
      simp (disch := omega) only [push_cast] <;> rfl
    · rw [if_neg hP]
      have : (s.pins.filter fun a => !decide (a.name = e.name)).length = s.pins.length := hfl.2 hP
      simp (disch := omega) only [push_cast] <;> rfl
theorem zpk (hk : e.kind = 5) : Lq6 none [.i s.width, .i s.now, .i s.given, .i s.births, .l (encK s.things), .l (encP s.pins), .i e.number, .l (encL s.leases)] = some (zo (chg s e)) := by
  have h2 := V.nL
  unfold chg
  rw [eq6_i, if_neg (by omega), if_neg (by omega), if_neg (by omega), if_neg (by omega), if_pos hk]
  refine zem L0 (l := s.leases) (p := fun k => !decide (k.number = e.number)) (f := fun i a => Lq6 (some 3) [.i e.number, .i (i : Int), .i s.width, .i s.now, .i s.given, .i s.births, .l (encK s.things), .l (encP s.pins), .i 0, .i 0, .i 0, .i 0, .i 0, .s E0, .i 0, .s E0, .s E0, .l (encL a), .l (encL s.leases), .l [], .l [], .l []]) (fun i a hi ha => ?_) ?_
  · show Lq6 _ _ = Lq6 _ _
    rw [eq6_3, mostE]
    by_cases hc : (nth L0 s.leases i).number = e.number
    · rw [if_neg (by simp [hc])]; simp (disch := omega) only [push_cast]
    · rw [if_pos (by simp [hc]), ← zc7]; simp (disch := omega) only [push_cast] <;> rfl
  · show Lq6 _ _ = _
    rw [eq6_3]
    have hfl := zgu (l := s.leases) (p := fun k => k.number = e.number)
    by_cases hP : hasL s.leases e.number
    · rw [if_pos hP]
      have : ¬ (s.leases.filter fun a => !decide (a.number = e.number)).length = s.leases.length := fun h => hfl.1 h hP
      simp (disch := omega) only [push_cast] <;> rfl
    · rw [if_neg hP]
      have : (s.leases.filter fun a => !decide (a.number = e.number)).length = s.leases.length := hfl.2 hP
      simp (disch := omega) only [push_cast] <;> rfl
theorem znx (hk : e.kind = 6) (hm : 0 ≤ e.number ∧ e.number ≤ 1000000000) : Lq7 none [.i s.width, .i s.now, .i s.given, .i s.births, .l (encK s.things), .l (encP s.pins), .i e.number, .l (encL s.leases)] = some (zo (chg s e)) := by
  have h2 := V.nL; have h3 := V.now
  unfold chg
  rw [eq7_i, if_neg (by omega), if_neg (by omega), if_neg (by omega), if_neg (by omega), if_neg (by omega), if_pos hk]
  by_cases hn : s.now + e.number ≤ 1000000000
  · rw [if_pos hn]
    simp (disch := omega) only [push_cast]
    refine zem L0 (l := s.leases) (p := fun l => decide (s.now + e.number < l.till)) (f := fun i a => Lq7 (some 6) [.i (i : Int), .i s.width, .i (s.now + e.number), .i s.given, .i s.births, .l (encK s.things), .l (encP s.pins), .i 0, .i 0, .i 0, .i 0, .i 0, .s E0, .i 0, .s E0, .s E0, .l (encL a), .l (encL s.leases), .l [], .l [], .l []]) (fun i a hi ha => ?_) ?_
    · show Lq7 _ _ = Lq7 _ _
      rw [eq7_6, mostE]
      by_cases hc : s.now + e.number < (nth L0 s.leases i).till
      · rw [if_pos (by simp [hc]), ← zc7]; simp (disch := omega) only [push_cast] <;> rfl
      · rw [if_neg (by simp [hc])]; simp (disch := omega) only [push_cast]
    · show Lq7 _ _ = _
      rw [eq7_6]; simp (disch := omega) only [push_cast] <;> rfl
  · rw [if_neg hn]; simp (disch := omega) only [push_cast] <;> rfl
theorem zpl (hr : ¬ isRef s.things e.sum) : Lqj (some 7) [.s e.sum, .i 0, .i s.width, .i s.now, .i s.given, .i s.births, .l (encK s.things), .l (encP s.pins), .i 0, .i 0, .i 0, .i 0, .i 0, .s E0, .i 0, .s E0, .s E0, .l (encK []), .l (encL s.leases), .l [], .l [], .l []] =
    some [.i 0, .i s.width, .i s.now, .i s.given, .i s.births, .l (encP s.pins), .s E0, .i 0, .s E0, .s E0, .l (encK (delK e.sum s.things)), .l (encL s.leases)] := by
  have h1 := V.nT
  refine zem K0 (l := s.things) (p := fun k => !decide (k.sum = e.sum)) (f := fun i a => Lqj (some 7) [.s e.sum, .i (i : Int), .i s.width, .i s.now, .i s.given, .i s.births, .l (encK s.things), .l (encP s.pins), .i 0, .i 0, .i 0, .i 0, .i 0, .s E0, .i 0, .s E0, .s E0, .l (encK a), .l (encL s.leases), .l [], .l [], .l []]) (fun i a hi ha => ?_) ?_
  · show Lqj _ _ = Lqj _ _
    have hm := zl (d := K0) hi
    have hrl := zff V _ hm
    have hn : ¬ e.sum ∈ (nth K0 s.things i).thing.refs := fun h => hr ⟨_, hm, h⟩
    rw [eqj_7, mostE]
    by_cases hc : (nth K0 s.things i).sum = e.sum
    · rw [if_neg (by simp [hc])]; simp (disch := omega) only [push_cast, zdw _ e.sum (show (nth K0 s.things i).thing.refs.length ≤ 4611686018427387904 by omega), decide_eq_false hn]
    · rw [if_pos (by simp [hc]), ← zbm]; simp (disch := omega) only [push_cast, zdw _ e.sum (show (nth K0 s.things i).thing.refs.length ≤ 4611686018427387904 by omega), decide_eq_false hn] <;> rfl
  · show Lqj _ _ = _
    rw [eqj_7]; simp (disch := omega) only [push_cast] <;> rfl
theorem zoz (hr : isRef s.things e.sum) : ∀ (i : Nat) (a : List Kept), i ≤ s.things.length → (a.length ≤ i ∧ ∃ j, i ≤ j ∧ j < s.things.length ∧ e.sum ∈ (nth K0 s.things j).thing.refs) → Lqj (some 7) [.s e.sum, .i (i : Int), .i s.width, .i s.now, .i s.given, .i s.births, .l (encK s.things), .l (encP s.pins), .i 0, .i 0, .i 0, .i 0, .i 0, .s E0, .i 0, .s E0, .s E0, .l (encK a), .l (encL s.leases), .l [], .l [], .l []] =
    some [.i 6, .i 0, .i 0, .i 0, .i 0, .l [], .s E0, .i 0, .s E0, .s E0, .l [], .l []] := by
  have h1 := V.nT
  intro i a hi hI
  refine zb3 (f := fun i a => Lqj (some 7) [.s e.sum, .i (i : Int), .i s.width, .i s.now, .i s.given, .i s.births, .l (encK s.things), .l (encP s.pins), .i 0, .i 0, .i 0, .i 0, .i 0, .s E0, .i 0, .s E0, .s E0, .l (encK a), .l (encL s.leases), .l [], .l [], .l []]) (n := s.things.length) (I := fun i a => a.length ≤ i ∧ ∃ j, i ≤ j ∧ j < s.things.length ∧ e.sum ∈ (nth K0 s.things j).thing.refs)
    (T := fun r => r = some [.i 6, .i 0, .i 0, .i 0, .i 0, .l [], .s E0, .i 0, .s E0, .s E0, .l [], .l []]) (fun i a hi hI => ?_) (fun a hI => ?_) i a hi hI
  · obtain ⟨ha, j, hj1, hj2, hj3⟩ := hI
    have hm := zl (d := K0) hi
    have hrl := zff V _ hm
    by_cases hn : e.sum ∈ (nth K0 s.things i).thing.refs
    · right
      show Lqj _ _ = _
      rw [eqj_7]
      simp (disch := omega) only [push_cast, zdw _ e.sum (show (nth K0 s.things i).thing.refs.length ≤ 4611686018427387904 by omega), decide_eq_true hn]
    · left
      have hj : i + 1 ≤ j := by
        rcases Nat.eq_or_lt_of_le hj1 with h | h
        · rw [h] at hn; exact absurd hj3 hn
        · exact h
      by_cases hc : (nth K0 s.things i).sum = e.sum
      · refine ⟨a, ?_, by omega, j, hj, hj2, hj3⟩
        show Lqj _ _ = Lqj _ _
        rw [eqj_7]
        simp (disch := omega) only [push_cast, zdw _ e.sum (show (nth K0 s.things i).thing.refs.length ≤ 4611686018427387904 by omega), decide_eq_false hn]
      · refine ⟨a ++ [nth K0 s.things i], ?_, by simp; omega, j, hj, hj2, hj3⟩
        show Lqj _ _ = Lqj _ _
        rw [eqj_7, mostE, ← zbm]
        simp (disch := omega) only [push_cast, zdw _ e.sum (show (nth K0 s.things i).thing.refs.length ≤ 4611686018427387904 by omega), decide_eq_false hn] <;> rfl
  · obtain ⟨_, j, h1, h2, _⟩ := hI; omega
theorem zpj (hk : e.kind = 7) : (Lqj none [.i s.width, .i s.now, .i s.given, .i s.births, .l (encK s.things), .l (encP s.pins), .s e.sum, .l (encL s.leases)]).bind (fun y9 => some [.i ((g y9 0).int), .i ((g y9 1).int), .i ((g y9 2).int), .i ((g y9 3).int), .i ((g y9 4).int), .l ((g y9 10).list), .l ((g y9 5).list), .s ((g y9 6).str), .i ((g y9 7).int), .s ((g y9 8).str), .s ((g y9 9).str), .l ((g y9 11).list)]) = some (zo (chg s e)) := by
  have h2 := V.nP; have h3 := V.nL
  have hh := zn4 s e.sum (by omega) (by omega)
  unfold encSt at hh
  unfold chg
  rw [eqj_i, if_neg (by omega), if_neg (by omega), if_neg (by omega), if_neg (by omega), if_neg (by omega), if_neg (by omega)]
  simp (disch := omega) only [push_cast, zdt V, show Lqk none [.i s.width, .i s.now, .i s.given, .i s.births, .l (encK s.things), .l (encP s.pins), .l (encL s.leases), .s e.sum] = _ from hh]
  by_cases hT : hasT s.things e.sum
  · rw [if_pos hT, decide_eq_false (show ¬ findT s.things e.sum < 0 from fun h => zbu.1 h hT)]
    by_cases c1 : held s e.sum
    · rw [if_pos (Or.inl c1), decide_eq_true c1]; simp (disch := omega) only [push_cast] <;> rfl
    · rw [decide_eq_false c1]
      by_cases c2 : isRef s.things e.sum
      · rw [if_pos (Or.inr c2)]
        have := zoz V c2 0 [] (Nat.zero_le _) ⟨Nat.le_refl _, by
          obtain ⟨k, hk1, hk2⟩ := c2
          obtain ⟨j, hj, rfl⟩ := zb0 K0 hk1
          exact ⟨j, Nat.zero_le _, hj, hk2⟩⟩
        simp (disch := omega) only [push_cast]
        rw [show Lqj (some 7) [.s e.sum, .i 0, .i s.width, .i s.now, .i s.given, .i s.births, .l (encK s.things), .l (encP s.pins), .i 0, .i 0, .i 0, .i 0, .i 0, .s E0, .i 0, .s E0, .s E0, .l [], .l (encL s.leases), .l [], .l [], .l []] = _ from this]
        rfl
      · rw [if_neg (by rintro (h | h); exact c1 h; exact c2 h)]
        have := zpl V c2
        simp (disch := omega) only [push_cast]
        rw [show Lqj (some 7) [.s e.sum, .i 0, .i s.width, .i s.now, .i s.given, .i s.births, .l (encK s.things), .l (encP s.pins), .i 0, .i 0, .i 0, .i 0, .i 0, .s E0, .i 0, .s E0, .s E0, .l [], .l (encL s.leases), .l [], .l [], .l []] = _ from this]
        rfl
  · rw [if_neg hT, decide_eq_true (zbu.2 hT)]; simp (disch := omega) only [push_cast] <;> rfl
theorem ze6 (o : Out) : [Lf.i ((g (zo o) 0).int), .i ((g (zo o) 1).int), .i ((g (zo o) 2).int), .i ((g (zo o) 3).int), .i ((g (zo o) 4).int), .l ((g (zo o) 5).list), .l ((g (zo o) 6).list), .s ((g (zo o) 7).str), .i ((g (zo o) 8).int), .s ((g (zo o) 9).str), .s ((g (zo o) 10).str), .l ((g (zo o) 11).list)] = zo o := by
  unfold zo; split <;> rfl
theorem zi3 (o : Out) : [Lf.i ((g (zz o) 0).int), .i ((g (zz o) 1).int), .i ((g (zz o) 2).int), .i ((g (zz o) 3).int), .i ((g (zz o) 4).int), .l ((g (zz o) 5).list), .l ((g (zz o) 10).list), .s ((g (zz o) 6).str), .i ((g (zz o) 7).int), .s ((g (zz o) 8).str), .s ((g (zz o) 9).str), .l ((g (zz o) 11).list)] = zo o := by
  unfold zo zz; split <;> rfl
theorem zk3 (he : zj e s.width = true) : Lqcm none (zb5 s e) = some (zo (chg s e)) := by
  have h1 := V.nT; have h2 := V.nL; have h4 := V.nP
  have hnum := EntryOk.num he; have hk := EntryOk.kd he
  have hc : e.kind = 1 ∨ e.kind = 2 ∨ e.kind = 3 ∨ e.kind = 4 ∨ e.kind = 5 ∨ e.kind = 6 ∨ e.kind = 7 := by omega
  unfold zb5
  rw [eqcm_i]
  rcases hc with h | h | h | h | h | h | h
  · have := zkv V (EntryOk.thing he h) hnum
    unfold zb5 at this
    have hp : chg s e = putS s e := by unfold chg; rw [if_pos h]
    simp (disch := omega) only [push_cast]
    rw [this, Option.bind_some, ze6 V, hp]
  · have := zou V h
    unfold zb5 at this
    simp (disch := omega) only [push_cast]
    rw [this, Option.bind_some, zi3 V]
  · have := zpa V h
    simp (disch := omega) only [push_cast]
    rw [this, Option.bind_some, zi3 V]
  · simp (disch := omega) only [push_cast, zdt V]
    unfold chg
    rw [if_neg (by omega), if_neg (by omega), if_neg (by omega), if_pos h]
    by_cases hT : hasT s.things e.sum
    · rw [if_pos hT, decide_eq_false (show ¬ findT s.things e.sum < 0 from fun h => zbu.1 h hT)]
      simp (disch := omega) only [push_cast, zer s.width s.now s.given s.births s.things (encP s.pins) (encL s.leases) (by omega) (zff V) (by rw [zbj]; omega) (by rw [zbq]; omega), zei s.width s.now s.given s.births (encK s.things) (encP s.pins) e.sum e.number s.leases (by omega) V.given V.now hnum]
      by_cases hro : room s
      · rw [if_pos hro, if_pos (show s.leases.length < 200 ∧ s.given < 1000000000 from hro)]; simp (disch := omega) only [push_cast] <;> rfl
      · rw [if_neg hro, if_neg (show ¬ (s.leases.length < 200 ∧ s.given < 1000000000) from hro)]; simp (disch := omega) only [push_cast] <;> rfl
    · rw [if_neg hT, decide_eq_true (zbu.2 hT)]; simp (disch := omega) only [push_cast] <;> rfl
  · have := zpk V h
    simp (disch := omega) only [push_cast]
    rw [this, Option.bind_some, ze6 V]
  · have := znx V h hnum
    simp (disch := omega) only [push_cast]
    rw [this, Option.bind_some, ze6 V]
  · have := zpj V h
    simp (disch := omega) only [push_cast]
    exact this
end
end KV
end
section
namespace KV
open Go Go.Eng
open Classical
theorem EntryOk.hold {e : Entry} {w : Int} (h : zj e w = true) (hk : e.kind = 1 ∨ e.kind = 4 ∨ e.kind = 6) : 1 ≤ e.number ∧ e.number ≤ 100000 := by
  unfold zj numB at h; simp only [Bool.and_eq_true, decide_eq_true_eq] at h
  have := h.2.2.2.2.1
  rw [if_pos hk] at this
  exact of_decide_eq_true this
theorem EntryOk.name {e : Entry} {w : Int} (h : zj e w = true) (hk : e.kind = 2) : NameOk e.name := by
  unfold zj namB at h; simp only [Bool.and_eq_true, decide_eq_true_eq] at h
  have := h.2.2.2.1
  rw [if_pos (by unfold uN; simp [hk])] at this
  exact zhg.1 this
theorem zc6 {k a : Kept} {l : List Kept} : a ∈ insK k l ↔ a = k ∨ a ∈ l := by
  unfold insK
  rw [List.mem_append, List.mem_cons]
  conv => rhs; rw [← List.take_append_drop (lb (qK k.sum) l) l, List.mem_append]
  constructor
  · rintro (h | h | h)
    · exact .inr (.inl h)
    · exact .inl h
    · exact .inr (.inr h)
  · rintro (h | h | h)
    · exact .inr (.inl h)
    · exact .inl h
    · exact .inr (.inr h)
theorem zk2 {α : Type} {l : List α} {i : Nat} {a : α} (d : α) (h : a ∈ l.take i) : ∃ j, j < i ∧ j < l.length ∧ nth d l j = a := by
  obtain ⟨j, hj, rfl⟩ := List.mem_iff_getElem.1 h
  rw [List.length_take] at hj
  exact ⟨j, by omega, by omega, by rw [zn d l j (by omega), List.getElem_take]⟩
theorem zli {α : Type} {l : List α} {i : Nat} {a : α} (d : α) (h : a ∈ l.drop i) : ∃ j, i ≤ j ∧ j < l.length ∧ nth d l j = a := by
  obtain ⟨j, hj, rfl⟩ := List.mem_iff_getElem.1 h
  rw [List.length_drop] at hj
  exact ⟨i + j, by omega, by omega, by rw [zn d l _ (by omega), List.getElem_drop]⟩
theorem zjr {α : Type} {R : α → α → Prop} {q : α → Bool} (d k : α) {l : List α} (h : l.Pairwise R) (mono : ∀ a b, R a b → q b = true → q a = true) (h1 : ∀ a, a ∈ l → q a = true → R a k) (h2 : ∀ a, a ∈ l → q a = false → R k a) (tr : ∀ a b c, R a b → R b c → R a c) : (l.take (lb q l) ++ k :: l.drop (lb q l)).Pairwise R := by
  have hd : ∀ a ∈ l.drop (lb q l), R k a := fun a ha => by
    obtain ⟨j, hj1, hj2, rfl⟩ := zli d ha
    exact h2 _ (zl hj2) (lb_hi d h mono j hj1 hj2)
  have ht : ∀ a ∈ l.take (lb q l), R a k := fun a ha => by
    obtain ⟨j, hj1, hj2, rfl⟩ := zk2 d ha
    exact h1 _ (zl hj2) (lb_lt q d l j hj1)
  rw [List.pairwise_append, List.pairwise_cons]
  refine ⟨h.sublist (List.take_sublist _ _), ⟨hd, h.sublist (List.drop_sublist _ _)⟩, fun a ha b hb => ?_⟩
  rcases List.mem_cons.1 hb with rfl | hb
  · exact ht a ha
  · exact tr _ _ _ (ht a ha) (hd b hb)
theorem zmq {k : Kept} {l : List Kept} (h : SrtK l) (hk : ¬ hasT l k.sum) : SrtK (insK k l) :=
  zjr (R := fun (a b : Kept) => slt a.sum b.sum = true) (q := qK k.sum) K0 k h (fun a b hab hb => zb1 hab hb) (fun a _ ha => ha) (fun a hm ha => by
    rcases zhl.1 (show slt a.sum k.sum = false from ha) with h1 | h1
    · exact absurd ⟨a, hm, h1⟩ hk
    · exact h1) (fun a b c h1 h2 => zb1 h1 h2)
theorem zmm (k : Kept) (l : List Kept) : (insK k l).length = l.length + 1 := by
  have := lb_le (qK k.sum) l
  unfold insK; simp; omega
theorem zjo {k : Kept} {l : List Kept} {x : Bs} (h : hasT l x) : hasT (insK k l) x := by
  obtain ⟨j, h1, h2⟩ := h; exact ⟨j, zc6.2 (.inr h1), h2⟩
theorem zkn {l : List Pin} (h : SrtP l) (n x : Bs) : SrtP (putP n x l) := by
  unfold putP
  split
  · rename_i hP
    have hi := (zde h n).1 hP
    unfold SrtP at h ⊢
    rw [List.pairwise_iff_getElem] at h ⊢
    intro i j hi' hj' hij
    rw [List.length_set] at hi' hj'
    have key : ∀ i (hi' : i < l.length), ((l.set (lb (qP n) l) ⟨n, x⟩)[i]'(by rw [List.length_set]; exact hi')).name = l[i].name := fun i hi' => by
      rw [List.getElem_set]
      split
      · rename_i he
        subst he
        rw [← zn P0 l _ hi']; exact hi.2.symm
      · rfl
    rw [key i hi', key j hj']
    exact h i j hi' hj' hij
  · rename_i hP
    exact zjr (R := fun (a b : Pin) => slt a.name b.name = true) (q := qP n) P0 ⟨n, x⟩ h (fun a b hab hb => zb1 hab hb) (fun a _ ha => ha) (fun a hm ha => by
      rcases zhl.1 (show slt a.name n = false from ha) with h1 | h1
      · exact absurd ⟨a, hm, h1⟩ hP
      · exact h1) (fun a b c h1 h2 => zb1 h1 h2)
theorem zj1 {l : List Pin} {n x : Bs} {a : Pin} (h : a ∈ putP n x l) : a = ⟨n, x⟩ ∨ a ∈ l := by
  unfold putP at h
  split at h
  · rcases List.mem_or_eq_of_mem_set h with h | h
    · exact .inr h
    · exact .inl h
  · rw [List.mem_append, List.mem_cons] at h
    rcases h with h | h | h
    · exact .inr (List.mem_of_mem_take h)
    · exact .inl h
    · exact .inr (List.mem_of_mem_drop h)
theorem zo6 (l : List Pin) (n x : Bs) : (putP n x l).length ≤ l.length + 1 ∧ (hasP l n → (putP n x l).length = l.length) := by
  have := lb_le (qP n) l
  unfold putP; split
  · simp
  · rename_i h; exact ⟨by simp; omega, fun h1 => absurd h1 h⟩
theorem ze0 {s : State} (V : VS s) {x : Bs} {m : Int} (hr : room s) (hx : hasT s.things x) (hm : 1 ≤ m ∧ m ≤ 100000) : VS (lent s x m) := by
  have hg := V.given
  obtain ⟨r1, r2⟩ := hr
  refine ⟨V.wd, V.now, ?_, V.births, V.nT, V.nP, ?_, V.srtT, V.okT, V.ndT, V.refs, V.srtP, V.okP, ?_, ?_⟩
  · show 0 ≤ s.given + 1 ∧ s.given + 1 ≤ 1000000000; omega
  · show (s.leases ++ [_]).length ≤ 200; simp; omega
  · show (s.leases ++ [_]).Pairwise _
    rw [List.pairwise_append]
    refine ⟨V.srtL, List.pairwise_singleton _ _, fun a ha b hb => ?_⟩
    rw [List.mem_singleton] at hb
    subst hb
    have := (V.okL a ha).2.1
    show a.number < s.given + 1; omega
  · intro l hl
    show 1 ≤ l.number ∧ l.number ≤ s.given + 1 ∧ hasT s.things l.sum ∧ s.now < l.till ∧ l.till ≤ s.now + 100000
    rcases List.mem_append.1 hl with h | h
    · obtain ⟨a, b, c, d⟩ := V.okL l h; exact ⟨a, by omega, c, d⟩
    · rw [List.mem_singleton] at h
      subst h
      refine ⟨?_, ?_, hx, ?_, ?_⟩ <;> simp only <;> omega
theorem zlp {s : State} (V : VS s) {t : Thing} (ht : ThingOk t s.width) (hx : ¬ hasT s.things (sumM (formM t) s.width)) (hr : ∀ r ∈ t.refs, hasT s.things r) (h1 : s.things.length < 600) (h2 : s.births < 1000000000) :
    VS { s with births := s.births + 1, things := insK ⟨sumM (formM t) s.width, s.births + 1, t⟩ s.things } := by
  have hb := V.births
  refine ⟨V.wd, V.now, V.given, ?_, ?_, V.nP, V.nL, zmq V.srtT hx, ?_, ?_, ?_, V.srtP, ?_, V.srtL, ?_⟩
  · show 0 ≤ s.births + 1 ∧ s.births + 1 ≤ 1000000000; omega
  · show (insK _ _).length ≤ 600; rw [zmm]; omega
  · intro k hk
    show ThingOk k.thing s.width ∧ k.sum = sumM (formM k.thing) s.width ∧ 1 ≤ k.born ∧ k.born ≤ s.births + 1
    rcases zc6.1 hk with rfl | hk
    · exact ⟨ht, rfl, by simp only; omega, by simp only; omega⟩
    · obtain ⟨a, b, c, d⟩ := V.okT k hk; exact ⟨a, b, c, by omega⟩
  · show ((insK _ _).map (·.born)).Nodup
    unfold insK
    rw [List.map_append, List.map_cons]
    have hp : (List.map (·.born) (s.things.take (lb (qK (sumM (formM t) s.width)) s.things)) ++ (s.births + 1) :: List.map (·.born) (s.things.drop (lb (qK (sumM (formM t) s.width)) s.things))).Perm ((s.births + 1) :: s.things.map (·.born)) := by
      refine List.perm_middle.trans ?_
      rw [← List.map_append, List.take_append_drop]
    rw [hp.nodup_iff, List.nodup_cons]
    refine ⟨fun hm => ?_, V.ndT⟩
    obtain ⟨k, hk, he⟩ := List.mem_map.1 hm
    have := (V.okT k hk).2.2.2; omega
  · intro k hk r hkr
    rcases zc6.1 hk with rfl | hk
    · obtain ⟨j, h3, h4⟩ := hr r hkr
      refine ⟨j, zc6.2 (.inr h3), h4, ?_⟩
      have := (V.okT j h3).2.2.2
      simp only; omega
    · obtain ⟨j, h3, h4, h5⟩ := V.refs k hk r hkr
      exact ⟨j, zc6.2 (.inr h3), h4, h5⟩
  · intro p hp; exact ⟨(V.okP p hp).1, zjo (V.okP p hp).2⟩
  · intro l hl; obtain ⟨a, b, c, d⟩ := V.okL l hl; exact ⟨a, b, zjo c, d⟩
theorem zd3 {x : Bs} {l : List Kept} {a : Kept} : a ∈ delK x l ↔ a ∈ l ∧ a.sum ≠ x := by unfold delK; simp
theorem zkc {s : State} (V : VS s) {x : Bs} (hh : ¬ held s x) (hr : ¬ isRef s.things x) : VS { s with things := delK x s.things } := by
  have hs : (delK x s.things).Sublist s.things := List.filter_sublist
  have keep : ∀ y, y ≠ x → hasT s.things y → hasT (delK x s.things) y := fun y hy ⟨j, h1, h2⟩ => ⟨j, zd3.2 ⟨h1, by rw [h2]; exact hy⟩, h2⟩
  refine ⟨V.wd, V.now, V.given, V.births, Nat.le_trans hs.length_le V.nT, V.nP, V.nL, V.srtT.sublist hs, fun k hk => V.okT k (zd3.1 hk).1, (V.ndT.sublist (hs.map _)), ?_, V.srtP, ?_, V.srtL, ?_⟩
  · intro k hk r hkr
    obtain ⟨j, h3, h4, h5⟩ := V.refs k (zd3.1 hk).1 r hkr
    refine ⟨j, zd3.2 ⟨h3, ?_⟩, h4, h5⟩
    rw [h4]; rintro rfl; exact hr ⟨k, (zd3.1 hk).1, hkr⟩
  · intro p hp; exact ⟨(V.okP p hp).1, keep _ (fun h => hh (.inl ⟨p, hp, h⟩)) (V.okP p hp).2⟩
  · intro l hl; obtain ⟨a, b, c, d⟩ := V.okL l hl; exact ⟨a, b, keep _ (fun h => hh (.inr ⟨l, hl, h⟩)) c, d⟩
theorem zfv {s : State} (V : VS s) {e : Entry} (he : zj e s.width = true) (hc : (chg s e).code = 0) : VS (chg s e).st := by
  have hk := EntryOk.kd he
  unfold chg at hc ⊢
  split at hc
  · rename_i h1
    rw [if_pos h1]
    have hh := EntryOk.hold he (.inl h1)
    have ht := EntryOk.thing he h1
    unfold putS at hc ⊢
    split at hc
    · cases hc
    · rename_i hr
      rw [if_neg hr]
      have hr' : ∀ r ∈ e.thing.refs, hasT s.things r := fun r hr2 => Classical.byContradiction fun h5 => hr ⟨r, hr2, h5⟩
      split at hc
      · rename_i hT
        rw [if_pos hT]
        split at hc
        · rename_i hf
          rw [if_pos hf]
          split at hc
          · rename_i hro; rw [if_pos hro]; exact ze0 V hro hT hh
          · cases hc
        · cases hc
      · rename_i hT
        rw [if_neg hT]
        split at hc
        · rename_i hro
          rw [if_pos hro]
          exact ze0 (zlp V ht hT hr' hro.2.1 hro.2.2) hro.1 ⟨_, zc6.2 (.inl rfl), rfl⟩ hh
        · cases hc
  · rename_i h1
    rw [if_neg h1]
    split at hc
    · rename_i h2
      rw [if_pos h2]
      split at hc
      · rename_i hT
        rw [if_pos hT]
        split at hc
        · rename_i hP
          rw [if_pos hP]
          have hpl := zo6 s.pins e.name e.sum
          have hn := V.nP
          refine ⟨V.wd, V.now, V.given, V.births, V.nT, ?_, V.nL, V.srtT, V.okT, V.ndT, V.refs, zkn V.srtP _ _, ?_, V.srtL, V.okL⟩
          · show (putP e.name e.sum s.pins).length ≤ 100
            rcases hP with hP | hP
            · rw [hpl.2 hP]; exact hn
            · omega
          · intro p hp
            rcases zj1 hp with rfl | hp
            · exact ⟨EntryOk.name he h2, hT⟩
            · exact V.okP p hp
        · cases hc
      · cases hc
    · rename_i h2
      rw [if_neg h2]
      split at hc
      · rename_i h3
        rw [if_pos h3]
        split at hc
        · rename_i hP
          rw [if_pos hP]
          have hs : (delP e.name s.pins).Sublist s.pins := List.filter_sublist
          exact ⟨V.wd, V.now, V.given, V.births, V.nT, Nat.le_trans hs.length_le V.nP, V.nL, V.srtT, V.okT, V.ndT, V.refs, V.srtP.sublist hs, fun p hp => V.okP p (hs.subset hp), V.srtL, V.okL⟩
        · cases hc
      · rename_i h3
        rw [if_neg h3]
        split at hc
        · rename_i h4
          rw [if_pos h4]
          split at hc
          · rename_i hT
            rw [if_pos hT]
            split at hc
            · rename_i hro; rw [if_pos hro]; exact ze0 V hro hT (EntryOk.hold he (.inr (.inl h4)))
            · cases hc
          · cases hc
        · rename_i h4
          rw [if_neg h4]
          split at hc
          · rename_i h5
            rw [if_pos h5]
            split at hc
            · rename_i hP
              rw [if_pos hP]
              have hs : (delL e.number s.leases).Sublist s.leases := List.filter_sublist
              exact ⟨V.wd, V.now, V.given, V.births, V.nT, V.nP, Nat.le_trans hs.length_le V.nL, V.srtT, V.okT, V.ndT, V.refs, V.srtP, V.okP, V.srtL.sublist hs, fun l hl => V.okL l (hs.subset hl)⟩
            · cases hc
          · rename_i h5
            rw [if_neg h5]
            split at hc
            · rename_i h6
              rw [if_pos h6]
              split at hc
              · rename_i hn
                rw [if_pos hn]
                have hh := EntryOk.hold he (.inr (.inr h6))
                have hnow := V.now
                have hs : (s.leases.filter fun l => decide (s.now + e.number < l.till)).Sublist s.leases := List.filter_sublist
                refine ⟨V.wd, ?_, V.given, V.births, V.nT, V.nP, Nat.le_trans hs.length_le V.nL, V.srtT, V.okT, V.ndT, V.refs, V.srtP, V.okP, V.srtL.sublist hs, fun l hl => ?_⟩
                · show 0 ≤ s.now + e.number ∧ s.now + e.number ≤ 1000000000; omega
                · obtain ⟨a, b, c, d, f⟩ := V.okL l (hs.subset hl)
                  have hl2 := (List.mem_filter.1 hl).2
                  simp only [decide_eq_true_eq] at hl2
                  exact ⟨a, b, c, hl2, by show l.till ≤ s.now + e.number + 100000; omega⟩
              · cases hc
            · rename_i h6
              rw [if_neg h6]
              split at hc
              · rename_i hT
                rw [if_pos hT]
                split at hc
                · cases hc
                · rename_i hn
                  rw [if_neg hn]
                  exact zkc V (fun h => hn (.inl h)) (fun h => hn (.inr h))
              · cases hc
theorem zo7 (s : State) (e : Entry) : (chg s e).st.width = s.width := by
  unfold chg putS fail done lent
  repeat' split
  all_goals rfl
theorem zio {w : Int} (hw : 1 ≤ w ∧ w ≤ 8) : VS ⟨w, 0, 0, 0, [], [], []⟩ := by
  refine ⟨hw, by simp, by simp, by simp, by simp, by simp, by simp, List.Pairwise.nil, (fun k hk => by cases hk), List.nodup_nil, (fun k hk => by cases hk), List.Pairwise.nil, (fun k hk => by cases hk), List.Pairwise.nil, (fun k hk => by cases hk)⟩
end KV
end
section
namespace KV
open Go Go.Eng
open Classical
def empty (w : Int) : State := ⟨w, 0, 0, 0, [], [], []⟩
noncomputable def runL (w : Int) : State → List Bs → Nat → State ⊕ Nat
  | s, [], _ => .inl s
  | s, x :: l, i => match readE x w with
    | none => .inr (i + 1)
    | some e => if (chg s e).code = 0 then runL w (chg s e).st l (i + 1) else .inr (i + 1)
theorem ze8 {w : Int} : ∀ (l : List Bs) (s : State) (i : Nat) (s' : State), VS s → s.width = w → runL w s l i = .inl s' → VS s' ∧ s'.width = w
  | [], s, i, s', V, hw, h => by simp only [runL] at h; cases h; exact ⟨V, hw⟩
  | x :: l, s, i, s', V, hw, h => by
    simp only [runL] at h
    split at h
    · cases h
    · rename_i e he
      split at h
      · rename_i hc
        have hE := (znv he).2
        rw [← hw] at hE
        exact ze8 l _ _ _ (zfv V hE hc) ((zo7 s e).trans hw) h
      · cases h
structure LogOk (a b : List Bs) : Prop where
  sa : ∀ x ∈ a, x.size ≤ 5000
  sb : ∀ x ∈ b, x.size ≤ 5000
  n : a.length + b.length ≤ 4000
end KV
end
section
namespace KV
open Go Go.Eng
open Classical
structure Round where
  phase : Int
  queue : List Bs
  marked : List Bs
  top : Int
  at_ : Int
  rounds : Int
def R0 : Round := ⟨0, [], [], 0, 0, 0⟩
structure RoundOk (w births : Int) (r : Round) : Prop where
  ph : 0 ≤ r.phase ∧ r.phase ≤ 2
  rds : 0 ≤ r.rounds ∧ r.rounds ≤ 1000000000
  nQ : r.queue.length ≤ 23200
  nM : r.marked.length ≤ 600
  szM : ∀ x ∈ r.marked, (x.size : Int) = w
  ndM : r.marked.Nodup
  szQ : ∀ x ∈ r.queue, (x.size : Int) = w
  rest : r.phase = 0 → r.queue = [] ∧ r.marked = [] ∧ r.top = 0 ∧ r.at_ = 0
  go : r.phase ≠ 0 → 0 ≤ r.top ∧ r.top ≤ births ∧ 1 ≤ r.at_ ∧ r.at_ ≤ r.top + 1 ∧ (r.phase = 1 → r.at_ = r.top + 1)
theorem zcf (n : Int) : Lqb7 none [.i n] = some [.b (decide (0 ≤ n ∧ n ≤ 1000000000))] := by
  rw [eqb7_i]
  by_cases h : 0 ≤ n
  · simp (disch := omega) only [push_cast]; congr 3; exact decide_eq_decide.2 ⟨fun h1 => ⟨h, h1⟩, fun h1 => h1.2⟩
  · simp (disch := omega) only [push_cast]; rw [decide_eq_false (p := 0 ≤ n ∧ n ≤ 1000000000) fun h1 => h h1.1]
theorem zp (n a b : Int) : Lqbv none [.i n, .i a, .i b] = some [.b (decide (a ≤ n ∧ n ≤ b))] := by
  rw [eqbv_i]
  by_cases h : a ≤ n
  · simp (disch := omega) only [push_cast]; congr 3; exact decide_eq_decide.2 ⟨fun h1 => ⟨h, h1⟩, fun h1 => h1.2⟩
  · simp (disch := omega) only [push_cast]; rw [decide_eq_false (p := a ≤ n ∧ n ≤ b) fun h1 => h h1.1]
end KV
end
section
namespace KV
open Go Go.Eng
open Classical
theorem zm5 (w now g b : Int) (T : List Kept) (P L : Rw) (hT : T.length ≤ 1099511627775) (hr : ∀ k ∈ T, k.thing.refs.length ≤ 1099511627776) (hP : P.length ≤ 1099511627776) (hL : L.length ≤ 1099511627776) :
    Lqbt none [.i w, .i now, .i g, .i b, .l (encK T), .l P, .l L] = some [.i w, .i now, .i g, .i b, .l (encK T), .l P, .l L] := by
  rw [eqbt_i, zbl]
  have := zy (f := fun (i : Nat) (a : List Kept) => Lqbt (some 4) [.l (encK T), .i (T.length : Int), .i (i : Int), .i w, .i now, .i g, .i b, .l P, .l L, .i 0, .i 0, .i 0, .i 0, .l (encK a), .l [], .l [], .l []]) (n := T.length) (T := some [.i w, .i now, .i g, .i b, .l (encK T), .l P, .l L])
    (I := fun i a => a = T.take i) (fun i a hi hI => ⟨a ++ [nth K0 T i], by
      show Lqbt _ _ = Lqbt _ _
      have hk := hr _ (zl (d := K0) hi)
      have hl : a.length ≤ i := by rw [hI]; simp; omega
      rw [eqbt_4, mostE, ← zbm]
      simp (disch := omega) only [push_cast, zi5 (encS (nth K0 T i).thing.refs) (by rw [zr]; omega)] <;> rfl, by show a ++ [nth K0 T i] = _; rw [zba K0 hi, hI]⟩) (fun a hI => by
      show Lqbt _ _ = _
      rw [eqbt_4, mostE]
      simp (disch := omega) only [push_cast]
      rw [hI, List.take_length]) 0 [] (Nat.zero_le _) rfl
  exact this
structure Vault where
  width : Int
  limit : Int
  safe : List Bs
  loose : List Bs
  st : State
  rd : Round
def V0 : Vault := ⟨0, 0, [], [], ⟨0, 0, 0, 0, [], [], []⟩, R0⟩
structure VV (v : Vault) : Prop where
  wd : zm v.width = true
  lim : 0 ≤ v.limit ∧ v.limit ≤ 1000000
  log : LogOk v.safe v.loose
  run : runL v.width (empty v.width) (v.safe ++ v.loose) 0 = .inl v.st
  rd : RoundOk v.st.width v.st.births v.rd
theorem VV.vs {v : Vault} (h : VV v) : VS v.st ∧ v.st.width = v.width := ze8 _ _ _ _ (zio (zbi.1 h.wd)) rfl h.run
end KV
end
section
namespace KV
open Go Go.Eng
open Classical
def BigTs (l : List Bs) : Prop := l.length ≤ 140737488351232 ∧ ∀ x ∈ l, x.size ≤ 140737488351232
theorem zj7 (e : Entry) (b1 : e.sum.size ≤ 140737488351232) (b2 : e.name.size ≤ 140737488351232) (b3 : e.thing.text.size ≤ 140737488351232) (b4 : BigTs e.thing.refs) (left : Int) (h0 : 0 ≤ left) (h1 : left ≤ 1048576) : ∃ y, Lqbu none [.i e.kind, .s e.sum, .s e.name, .i e.number, .s e.thing.text, .l (encS e.thing.refs), .i left] = some [.i y] ∧ y ≤ left ∧ (0 ≤ y → e.thing.refs.length ≤ 1048576) := by
  rw [eqbu_i]
  by_cases c1 : left - (e.sum.size : Int) < 0
  · exact ⟨-1, by simp (disch := omega) only [push_cast], by omega, fun h => by omega⟩
  by_cases c2 : left - (e.sum.size : Int) - (e.name.size : Int) < 0
  · exact ⟨-1, by simp (disch := omega) only [push_cast], by omega, fun h => by omega⟩
  rw [eqbz_i]
  by_cases c3 : left - (e.sum.size : Int) - (e.name.size : Int) - (e.thing.text.size : Int) < 0
  · exact ⟨-1, by simp (disch := omega) only [push_cast], by omega, fun h => by omega⟩
  obtain ⟨y, y1, y2, y3⟩ := zig e.thing.refs (left - (e.sum.size : Int) - (e.name.size : Int) - (e.thing.text.size : Int)) (by omega) (by omega) b4.1 b4.2
  by_cases hy : y < 0
  · exact ⟨-1, by simp (disch := omega) only [push_cast, y1], by omega, fun h => by omega⟩
  · exact ⟨y, by simp (disch := omega) only [push_cast, y1], by omega, fun h => by have := y3 h; omega⟩
theorem znq {e : Entry} (h : e.thing.refs.length ≤ 1048576) : Lqb5 none [.i e.kind, .s e.sum, .s e.name, .i e.number, .s e.thing.text, .l (encS e.thing.refs)] = some [.i e.kind, .s e.sum, .s e.name, .i e.number, .s e.thing.text, .l (encS e.thing.refs)] := by
  rw [eqb5_i, eqcx_i]; simp (disch := omega) only [push_cast, zn3 e.thing.refs (by omega)]
theorem zkl {e : Entry} (h : e.thing.refs.length ≤ 1048576) : Lqcp none [.i e.kind, .s e.sum, .s e.name, .i e.number, .s e.thing.text, .l (encS e.thing.refs), .i e.kind, .s e.sum, .s e.name, .i e.number, .s e.thing.text, .l (encS e.thing.refs)] = some [.b true] := by
  rw [eqcp_i, eqb0_i]; simp (disch := omega) only [push_cast, zhu (encS e.thing.refs) (by rw [zr]; omega)]
theorem zod (e : Entry) (h : e.thing.refs.length ≤ 1048576) (k : Int) (hk : 0 ≤ k) (hb : k ≤ 1000000000) : ∃ n ys, Lqcq none [.i e.kind, .s e.sum, .s e.name, .i e.number, .s e.thing.text, .i k, .l (encS e.thing.refs)] = some [.i n, .l ys] ∧ k ≤ n := by
  obtain ⟨ys, a, b, c⟩ := zht (encS e.thing.refs) k hk (by rw [zr]; omega)
  rw [zr] at a
  exact ⟨k + (e.thing.refs.length : Int), ys, by rw [eqcq_i, eqc1_i]; simp (disch := omega) only [push_cast, a], by omega⟩
end KV
end
section
namespace KV
open Go Go.Eng
open Classical
structure Few (s : State) : Prop where
  nT : s.things.length ≤ 2000
  nP : s.pins.length ≤ 2000
  nL : s.leases.length ≤ 2000
  refs : ∀ k ∈ s.things, k.thing.refs.length ≤ 2000
theorem Few.nil : Few ⟨0, 0, 0, 0, [], [], []⟩ := ⟨by simp, by simp, by simp, fun k h => by simp at h⟩
theorem VS.few {s : State} (V : VS s) : Few s := by
  have n1 := V.nT; have n2 := V.nP; have n3 := V.nL
  exact ⟨by omega, by omega, by omega, fun k hk => by have := (V.okT k hk).1.refs; omega⟩
theorem Few.eq {s : State} (h : Few s) : Lqbw none [.i s.width, .i s.now, .i s.given, .i s.births, .l (encK s.things), .l (encP s.pins), .l (encL s.leases), .i s.width, .i s.now, .i s.given, .i s.births, .l (encK s.things), .l (encP s.pins), .l (encL s.leases)] = some [.b true] := by
  have h1 := h.nT; have h2 := h.nP; have h3 := h.nL
  exact zid _ _ _ _ _ _ _ (by rw [zbl]; omega) (by rw [zbj]; omega) (by rw [zbq]; omega) fun i => by have := zfn h.refs i; omega
theorem zj6 {l : List Kept} (h : ∀ k ∈ l, k.thing.refs.length ≤ 2000) (i : Nat) : offK (encK l) i ≤ 2003 * (i : Int) := by
  induction i with
  | zero => simp [offK]
  | succ i ih =>
    have := zfn h i
    show offK (encK l) i + 3 + ((rd (encK l) i 3).list.length : Int) ≤ _
    omega
theorem Few.cnt {s : State} (h : Few s) : 0 ≤ cntS (encK s.things) (encP s.pins) (encL s.leases) ∧ cntS (encK s.things) (encP s.pins) (encL s.leases) ≤ 100000000 := by
  have h1 := h.nT; have h2 := h.nP; have h3 := h.nL
  have := zj6 h.refs s.things.length
  have o1 := zb4 (encK s.things) (i := 0) (j := s.things.length) (Nat.zero_le _)
  have o0 : offK (encK s.things) 0 = 0 := rfl
  unfold cntS
  rw [zbl, zbj, zbq]
  omega
theorem Few.len {s : State} (h : Few s) : (encK s.things).length ≤ 1000000000 := by have := h.nT; rw [zbl]; omega
end KV
end
section
namespace KV
open Go Go.Eng
open Classical
theorem zj8 {s : State} (F : Few s) (c : Int) (x : Bs) (n : Int) (a b : Bs) : Lqb6 none [.i c, .i s.width, .i s.now, .i s.given, .i s.births, .l (encK s.things), .l (encP s.pins), .l (encL s.leases), .s x, .i n, .s a, .s b, .i c, .i s.width, .i s.now, .i s.given, .i s.births, .l (encK s.things), .l (encP s.pins), .l (encL s.leases), .s x, .i n, .s a, .s b] = some [.b true] := by
  rw [eqb6_i]
  simp (disch := omega) only [push_cast, F.eq]
theorem zpe {s : State} (F : Few s) (c : Int) (x : Bs) (n : Int) (a b : Bs) : ∃ (m : Int) (T P L : Rw), 0 ≤ m ∧ Lqcj none [.i c, .i s.width, .i s.now, .i s.given, .i s.births, .s x, .i n, .s a, .s b, .i 1, .l (encK s.things), .l (encP s.pins), .l (encL s.leases)] = some [.i m, .l T, .l P, .l L] ∧
    Lqcb none [.i c, .i s.width, .i s.now, .i s.given, .i s.births, .l T, .l P, .l L, .s x, .i n, .s a, .s b, .i 1] = some [.i m] := by
  have cn := F.cnt
  obtain ⟨T2, P2, L2, k1, k2⟩ := zg5 s.width s.now s.given s.births (encK s.things) (encP s.pins) (encL s.leases) 1 (by omega) (by omega) F.len
  have k3 := zkq s.width s.now s.given s.births (k := 1) (by omega) (by omega) F.len k2
  generalize hc : cntS (encK s.things) (encP s.pins) (encL s.leases) = cs at cn k1 k3
  refine ⟨1 + cs, T2, P2, L2, by omega, ?_, ?_⟩
  · rw [eqcj_i]; simp (disch := omega) only [push_cast, k1]
  · rw [eqcb_i]; simp (disch := omega) only [push_cast, k3]
end KV
end
section
namespace KV
open Go Go.Eng
open Classical
theorem zdj {α : Type} {f : α → List C} {Q : α → Prop} : ∀ {xs : Rw}, (∀ r ∈ xs, ∃ a, r = f a ∧ Q a) → ∃ l : List α, xs = l.map f ∧ ∀ a ∈ l, Q a
  | [], _ => ⟨[], rfl, fun a h => by simp at h⟩
  | r :: xs, h => by
    obtain ⟨a, rfl, ha⟩ := h r (by simp)
    obtain ⟨l, rfl, hl⟩ := zdj (xs := xs) fun r hr => h r (by simp [hr])
    exact ⟨a :: l, rfl, fun b hb => by rcases List.mem_cons.1 hb with rfl | hb; exact ha; exact hl b hb⟩
section
variable {P : Program}
abbrev B47 : Nat := 140737488351232
theorem dec_l {e : TypeId} {c : C} (h : Ty P B47 (.sl e) c) : ∃ xs, c = .l xs ∧ xs.length ≤ B47 ∧ (∀ r ∈ xs, r.length = (kinds P 8 e).length) ∧ ∀ r ∈ xs, ∀ (o : Nat) (k : CK) (c : C), (kinds P 8 e)[o]? = some k → r[o]? = some c → Ty P B47 k c := by
  cases h with
  | l e xs hl hn h => exact ⟨xs, rfl, hl, hn, h⟩
theorem dec_s {c : C} (h : Ty P B47 .s c) : ∃ x : Bs, c = .s x ∧ x.size ≤ B47 := by cases h with | s x h => exact ⟨x, rfl, h⟩
theorem dec_i {k : IntKind} {c : C} (h : Ty P B47 (.i k) c) : ∃ x : Int, c = .i x := by cases h with | i k x h => exact ⟨x, rfl⟩
theorem decS {e : TypeId} (hk : kinds P 8 e = [.s]) {c : C} (h : Ty P B47 (.sl e) c) : ∃ l : List Bs, c = .l (encS l) ∧ l.length ≤ B47 ∧ ∀ x ∈ l, x.size ≤ B47 := by
  obtain ⟨xs, rfl, h1, h2, h3⟩ := dec_l h
  rw [hk] at h2 h3
  obtain ⟨l, rfl, hl⟩ := zdj (f := fun x : Bs => [.s x]) (Q := fun x => x.size ≤ B47) fun r hr => by
    have := h2 r hr
    match r, this with
    | [c], _ =>
      obtain ⟨x, rfl, hx⟩ := dec_s (h3 _ hr 0 .s c rfl rfl)
      exact ⟨x, rfl, hx⟩
  exact ⟨l, rfl, by simpa using h1, hl⟩
theorem decK {e e9 : TypeId} {k : IntKind} (hk : kinds P 8 e = [.s, .i k, .s, .sl e9]) (h9 : kinds P 8 e9 = [.s]) {c : C} (h : Ty P B47 (.sl e) c) : ∃ l : List Kept, c = .l (encK l) ∧ l.length ≤ B47 ∧ ∀ x ∈ l, BigK x := by
  obtain ⟨xs, rfl, h1, h2, h3⟩ := dec_l h
  rw [hk] at h2 h3
  obtain ⟨l, rfl, hl⟩ := zdj (f := cK) (Q := BigK) fun r hr => by
    have := h2 r hr
    match r, this with
    | [a, b, c, d], _ =>
      obtain ⟨a, rfl, ha⟩ := dec_s (h3 _ hr 0 .s a rfl rfl)
      obtain ⟨b, rfl⟩ := dec_i (h3 _ hr 1 _ b rfl rfl)
      obtain ⟨c, rfl, hc⟩ := dec_s (h3 _ hr 2 .s c rfl rfl)
      obtain ⟨d, rfl, hd, he⟩ := decS h9 (h3 _ hr 3 _ d rfl rfl)
      exact ⟨⟨a, b, ⟨c, d⟩⟩, rfl, ha, hc, hd, he⟩
  exact ⟨l, rfl, by simpa using h1, hl⟩
theorem decP {e : TypeId} (hk : kinds P 8 e = [.s, .s]) {c : C} (h : Ty P B47 (.sl e) c) : ∃ l : List Pin, c = .l (encP l) ∧ l.length ≤ B47 ∧ ∀ x ∈ l, x.name.size ≤ B47 ∧ x.sum.size ≤ B47 := by
  obtain ⟨xs, rfl, h1, h2, h3⟩ := dec_l h
  rw [hk] at h2 h3
  obtain ⟨l, rfl, hl⟩ := zdj (f := cP) (Q := fun x => x.name.size ≤ B47 ∧ x.sum.size ≤ B47) fun r hr => by
    have := h2 r hr
    match r, this with
    | [a, b], _ =>
      obtain ⟨a, rfl, ha⟩ := dec_s (h3 _ hr 0 .s a rfl rfl)
      obtain ⟨b, rfl, hb⟩ := dec_s (h3 _ hr 1 .s b rfl rfl)
      exact ⟨⟨a, b⟩, rfl, ha, hb⟩
  exact ⟨l, rfl, by simpa using h1, hl⟩
theorem decL {e : TypeId} {k k' : IntKind} (hk : kinds P 8 e = [.i k, .s, .i k']) {c : C} (h : Ty P B47 (.sl e) c) : ∃ l : List Lease, c = .l (encL l) ∧ l.length ≤ B47 ∧ ∀ x ∈ l, x.sum.size ≤ B47 := by
  obtain ⟨xs, rfl, h1, h2, h3⟩ := dec_l h
  rw [hk] at h2 h3
  obtain ⟨l, rfl, hl⟩ := zdj (f := cL) (Q := fun x => x.sum.size ≤ B47) fun r hr => by
    have := h2 r hr
    match r, this with
    | [a, b, c], _ =>
      obtain ⟨a, rfl⟩ := dec_i (h3 _ hr 0 _ a rfl rfl)
      obtain ⟨b, rfl, hb⟩ := dec_s (h3 _ hr 1 .s b rfl rfl)
      obtain ⟨c, rfl⟩ := dec_i (h3 _ hr 2 _ c rfl rfl)
      exact ⟨⟨a, b, c⟩, rfl, hb⟩
  exact ⟨l, rfl, by simpa using h1, hl⟩
def stC (s : State) : List C := [.i s.width, .i s.now, .i s.given, .i s.births, .l (encK s.things), .l (encP s.pins), .l (encL s.leases)]
theorem decSt {k1 k2 k3 k4 k5 k6 k7 : IntKind} {eK eP eL e9 : TypeId} (hK : kinds P 8 eK = [.s, .i k5, .s, .sl e9]) (h9 : kinds P 8 e9 = [.s]) (hP : kinds P 8 eP = [.s, .s]) (hL : kinds P 8 eL = [.i k6, .s, .i k7]) {ks : List CK} {xs : List C}
    (h : F2 (Ty P B47) (.i k1 :: .i k2 :: .i k3 :: .i k4 :: .sl eK :: .sl eP :: .sl eL :: ks) xs) : ∃ s ys, xs = stC s ++ ys ∧ BigS s ∧ F2 (Ty P B47) ks ys := by
  cases h with | cons a h =>
  cases h with | cons b h =>
  cases h with | cons c h =>
  cases h with | cons d h =>
  cases h with | cons x h =>
  cases h with | cons y h =>
  cases h with | cons z h =>
  obtain ⟨a', rfl⟩ := dec_i a
  obtain ⟨b', rfl⟩ := dec_i b
  obtain ⟨c', rfl⟩ := dec_i c
  obtain ⟨d', rfl⟩ := dec_i d
  obtain ⟨x', rfl, x1, x2⟩ := decK hK h9 x
  obtain ⟨y', rfl, y1, y2⟩ := decP hP y
  obtain ⟨z', rfl, z1, z2⟩ := decL hL z
  exact ⟨⟨a', b', c', d', x', y', z'⟩, _, rfl, ⟨x1, y1, z1, x2, y2, z2⟩, h⟩
def BigL (l : List Bs) : Prop := l.length ≤ 140737488351232 ∧ ∀ x ∈ l, x.size ≤ 140737488351232
structure BigE (e : Entry) : Prop where
  sum : e.sum.size ≤ 140737488351232
  name : e.name.size ≤ 140737488351232
  text : e.thing.text.size ≤ 140737488351232
  refs : BigL e.thing.refs
def enC (e : Entry) : List C := [.i e.kind, .s e.sum, .s e.name, .i e.number, .s e.thing.text, .l (encS e.thing.refs)]
theorem decEn {k1 k2 : IntKind} {e9 : TypeId} (h9 : kinds P 8 e9 = [.s]) {ks : List CK} {xs : List C}
    (h : F2 (Ty P B47) (.i k1 :: .s :: .s :: .i k2 :: .s :: .sl e9 :: ks) xs) : ∃ e ys, xs = enC e ++ ys ∧ BigE e ∧ F2 (Ty P B47) ks ys := by
  cases h with | cons a h =>
  cases h with | cons x h =>
  cases h with | cons y h =>
  cases h with | cons b h =>
  cases h with | cons z h =>
  cases h with | cons w h =>
  obtain ⟨a', rfl⟩ := dec_i a
  obtain ⟨b', rfl⟩ := dec_i b
  obtain ⟨x', rfl, x1⟩ := dec_s x
  obtain ⟨y', rfl, y1⟩ := dec_s y
  obtain ⟨z', rfl, z1⟩ := dec_s z
  obtain ⟨w', rfl, w1, w2⟩ := decS h9 w
  exact ⟨⟨a', x', y', b', ⟨z', w'⟩⟩, _, rfl, ⟨x1, y1, z1, ⟨w1, w2⟩⟩, h⟩
theorem zpn {xs : List C} (h : F2 (Ty P B47) [] xs) : xs = [] := by cases h; rfl
end
end KV
end
section
namespace KV
open Go Go.Eng
open Classical
noncomputable def addU (l : List Bs) (x : Bs) : List Bs := if x ∈ l then l else l ++ [x]
theorem znd {l : List Bs} {x y : Bs} : y ∈ addU l x ↔ y ∈ l ∨ y = x := by
  unfold addU
  split
  · rename_i h; exact ⟨.inl, fun h2 => h2.elim id fun e => by rw [e]; exact h⟩
  · simp
theorem zh5 (l : List Bs) : ∀ a y, y ∈ l.foldl addU a ↔ y ∈ a ∨ y ∈ l := by
  induction l with
  | nil => intro a y; simp
  | cons x l ih => intro a y; rw [List.foldl_cons, ih, znd, List.mem_cons, or_assoc]
noncomputable def zfg (s : State) : List Bs := (s.leases.map (·.sum)).foldl addU ((s.pins.map (·.sum)).foldl addU [])
end KV
end
section
namespace KV
open Go Go.Eng
open Classical
structure VQ (v : Vault) : Prop where
  wd : zm v.width = true
  lim : 0 ≤ v.limit ∧ v.limit ≤ 1000000
  log : LogOk v.safe v.loose
  run : runL v.width (empty v.width) (v.safe ++ v.loose) 0 = .inl v.st
  nq : v.rd.queue.length ≤ 23230
  nm : v.rd.marked.length ≤ 601
  rd : v.rd.queue.length ≤ 23200 → v.rd.marked.length ≤ 600 → RoundOk v.st.width v.st.births v.rd
theorem VQ.vs {v : Vault} (h : VQ v) : VS v.st ∧ v.st.width = v.width := ze8 _ _ _ _ (zio (zbi.1 h.wd)) rfl h.run
end KV
end
section
namespace KV
open Go Go.Eng
open Classical
def GV (v : Vault) : Prop := VV v ∨ v = V0
theorem GV.nT {v : Vault} (h : GV v) : v.st.things.length ≤ 1000000 ∧ v.st.leases.length ≤ 1000000 := by
  rcases h with h | rfl
  · have h1 := h.vs.1.nT; have h2 := h.vs.1.nL; omega
  · exact ⟨Nat.zero_le _, Nat.zero_le _⟩
end KV
end
section
namespace KV
open Go Go.Eng
open Classical
structure BS (s : State) : Prop where
  nT : s.things.length ≤ 1000
  nP : s.pins.length ≤ 1000
  nL : s.leases.length ≤ 1000
  t : ∀ k ∈ s.things, 1 + szs k.thing.refs + k.thing.text.size ≤ 1000000 ∧ k.thing.refs.length ≤ 40 ∧ k.thing.text.size ≤ 3000 ∧ k.sum.size ≤ 100
  nm : ∀ p ∈ s.pins, p.name.size ≤ 100
  ints : (-10 ≤ s.width ∧ s.width ≤ 100) ∧ (-1 ≤ s.now ∧ s.now ≤ 1000001000) ∧ (-1 ≤ s.given ∧ s.given ≤ 1000001000) ∧ (-1 ≤ s.births ∧ s.births ≤ 1000001000)
theorem BS.names {s : State} (h : BS s) : ∀ p ∈ s.pins, p.name.size ≤ 4611686018427387904 := fun p hp => by have := h.nm p hp; omega
theorem VS.bs {s : State} (V : VS s) : BS s := by
  have h1 := V.nT; have h2 := V.nP; have h3 := V.nL; have a := V.wd; have b := V.now; have c := V.given; have d := V.births
  exact ⟨by omega, by omega, by omega, fun k hk => by
    have := zci (V.okT k hk).1; have := (V.okT k hk).1.text
    have hz : ((sumM (formM k.thing) s.width).size : Int) = s.width := zob (zbi.2 V.wd)
    rw [← (V.okT k hk).2.1] at hz
    omega, fun p hp => by have := (V.okP p hp).1.hi; omega, by omega, by omega, by omega, by omega⟩
end KV
end
section
namespace KV
open Go Go.Eng
open Classical
def GS (s : State) : Prop := VS s ∨ s = ⟨0, 0, 0, 0, [], [], []⟩
theorem GS.bs {s : State} (h : GS s) : BS s := by
  rcases h with h | rfl
  · exact h.bs
  · exact ⟨Nat.zero_le _, Nat.zero_le _, Nat.zero_le _, (fun k hk => nomatch hk), (fun k hk => nomatch hk), by simp⟩
theorem GS.now {s : State} (h : GS s) : (0 ≤ s.now ∧ s.now ≤ 1000000000) ∧ (0 ≤ s.given ∧ s.given ≤ 1000000000) ∧ (0 ≤ s.births ∧ s.births ≤ 1000000000) ∧ (0 ≤ s.width ∧ s.width ≤ 8) := by
  rcases h with h | rfl
  · have := h.wd; exact ⟨h.now, h.given, h.births, by omega⟩
  · simp
end KV
end
section
namespace KV
open Go Go.Eng
open Classical
def h4 : Rw := [[.i 0], [.i 1], [.i 100000], [.i 100001]]
theorem zmh {α : Type} {c c' : Bool} {a b : α} (h : c = c') : cond c a b = cond c' a b := by rw [h]
theorem zld {α β : Type} {x y : Option α} {f : α → Option β} (h : x = y) : x.bind f = y.bind f := by rw [h]
attribute [local congr] zmh zld
end KV
end
section
namespace KV
open Go Go.Eng
open Classical
theorem zf7 {α : Type} (d : α) {R : α → α → Prop} (tr : ∀ a b c, R a b → R b c → R a c) (l : List α) : l.Pairwise R ↔ ∀ j, 0 < j → j < l.length → R (nth d l (j - 1)) (nth d l j) := by
  constructor
  · intro h j h1 h2; exact zgf d h (by omega) h2
  · intro h
    rw [List.pairwise_iff_getElem]
    intro i j hi hj hij
    rw [← zn d l i hi, ← zn d l j hj]
    have : ∀ k, i + k + 1 < l.length → R (nth d l i) (nth d l (i + k + 1)) := by
      intro k
      induction k with
      | zero => intro hk; have := h (i + 1) (by omega) hk; rwa [Nat.add_sub_cancel] at this
      | succ k ih => intro hk; exact tr _ _ _ (ih (by omega)) (by have := h (i + (k + 1) + 1) (by omega) hk; rwa [Nat.add_sub_cancel] at this)
    have := this (j - i - 1) (by omega)
    rwa [show i + (j - i - 1) + 1 = j by omega] at this
def setI (ks : List Int) : List (C × C) := ks.map fun k => (.i k, .b true)
theorem ceq_i (k : IntKind) (x y : Int) : ceq (.i k) (.i x) (.i y) = decide (x = y) := by
  show (x == y) = _
  by_cases h : x = y
  · subst h; simp
  · simp [h]
theorem zhq (x : Int) : ∀ ks : List Int, mget (.i .i64) (.i x) (setI ks) = if x ∈ ks then some (.b true) else none
  | [] => by simp [setI, mget]
  | k :: ks => by
    show cond (ceq (.i .i64) (.i x) (.i k)) (some (.b true)) (mget (.i .i64) (.i x) (setI ks)) = _
    rw [ceq_i, zhq x ks]
    by_cases h : x = k
    · subst h; simp
    · simp [h]
theorem zf2 (x : Int) : ∀ ks : List Int, x ∉ ks → mput (.i .i64) (.i x) (.b true) (setI ks) = setI (ks ++ [x])
  | [], _ => by simp [setI, mput]
  | k :: ks, h => by
    show cond (ceq (.i .i64) (.i x) (.i k)) _ _ = _
    rw [ceq_i, decide_eq_false (fun e => h (by rw [e]; simp)), cond_false]
    show (C.i k, C.b true) :: mput (.i .i64) (.i x) (.b true) (setI ks) = _
    rw [zf2 x ks (fun e => h (by simp [e]))]; rfl
theorem inI (x : Int) (ks : List Int) : (((mget (.i .i64) (.i x) (setI ks)).getD (.b false)).bool) = decide (x ∈ ks) := by
  rw [zhq]
  by_cases h : x ∈ ks
  · rw [if_pos h, decide_eq_true h]; rfl
  · rw [if_neg h, decide_eq_false h]; rfl
def bsT (T : List Kept) (i : Nat) : List Int := (T.take i).map (·.born)
theorem bsT_S (T : List Kept) (i : Nat) (h : i < T.length) : bsT T (i + 1) = bsT T i ++ [(nth K0 T i).born] := by
  unfold bsT
  rw [zn K0 T i h, List.take_add_one, List.map_append, List.getElem?_eq_getElem h]; rfl
structure tP (w births : Int) (T : List Kept) (j : Nat) : Prop where
  adj : 0 < j → slt (nth K0 T (j - 1)).sum (nth K0 T j).sum = true
  ok : ThingOk (nth K0 T j).thing w
  sum : (nth K0 T j).sum = sumM (formM (nth K0 T j).thing) w
  lo : 1 ≤ (nth K0 T j).born
  hi : (nth K0 T j).born ≤ births
  new : (nth K0 T j).born ∉ bsT T j
theorem zm2 (T : List Kept) : (T.map (·.born)).Nodup ↔ ∀ j, 0 ≤ j → j < T.length → (nth K0 T j).born ∉ bsT T j := by
  constructor
  · intro h j _ hj hm
    obtain ⟨a, ha, he⟩ := List.mem_map.1 hm
    obtain ⟨i, hi, rfl⟩ := List.mem_iff_getElem.1 ha
    rw [List.length_take] at hi
    rw [List.getElem_take] at he
    have := List.pairwise_iff_getElem.1 h i j (by rw [List.length_map]; omega) (by rw [List.length_map]; omega) (by omega)
    rw [List.getElem_map, List.getElem_map] at this
    rw [zn K0 T j hj] at he
    exact this he
  · intro h
    rw [List.Nodup, List.pairwise_iff_getElem]
    intro i j hi hj hij he
    rw [List.length_map] at hi hj
    rw [List.getElem_map, List.getElem_map] at he
    apply h j (Nat.zero_le _) hj
    rw [zn K0 T j hj, ← he]
    exact List.mem_map.2 ⟨_, List.mem_take_iff_getElem.2 ⟨i, by omega, rfl⟩, rfl⟩
theorem zfq (w births : Int) (T : List Kept) : (∀ j, 0 ≤ j → j < T.length → tP w births T j) ↔ SrtK T ∧ (∀ k ∈ T, ThingOk k.thing w ∧ k.sum = sumM (formM k.thing) w ∧ 1 ≤ k.born ∧ k.born ≤ births) ∧ (T.map (·.born)).Nodup := by
  rw [zm2, show SrtK T ↔ _ from zf7 K0 (R := fun a b => slt a.sum b.sum = true) (fun a b c h1 h2 => zb1 h1 h2) T]
  constructor
  · intro h
    refine ⟨fun j h1 h2 => (h j (by omega) h2).adj h1, fun k hk => ?_, fun j h1 h2 => (h j h1 h2).new⟩
    obtain ⟨j, hj, rfl⟩ := zb0 K0 hk
    have := h j (Nat.zero_le _) hj
    exact ⟨this.ok, this.sum, this.lo, this.hi⟩
  · rintro ⟨h1, h2, h3⟩ j h4 h5
    have := h2 _ (zl (d := K0) h5)
    exact ⟨fun h => h1 j h h5, this.1, this.2.1, this.2.2.1, this.2.2.2, h3 j h4 h5⟩
def refIn (T : List Kept) (b : Int) (r : Bs) : Prop := hasT T r ∧ (nth K0 T (lb (qK r) T)).born < b
theorem zjw {T : List Kept} (h : SrtK T) (b : Int) (r : Bs) : refIn T b r ↔ ∃ j ∈ T, j.sum = r ∧ j.born < b := by
  constructor
  · rintro ⟨h1, h2⟩
    obtain ⟨h3, h4⟩ := (zcg h r).1 h1
    exact ⟨_, zl h3, h4, h2⟩
  · rintro ⟨k, hk, rfl, hb⟩
    obtain ⟨j, hj, rfl⟩ := zb0 K0 hk
    have := zcx K0 h (kp (nth K0 T j).sum) (kR (nth K0 T j).sum) hj rfl
    refine ⟨⟨_, zl hj, rfl⟩, ?_⟩
    rw [← this]; exact hb
structure pP (T : List Kept) (P : List Pin) (j : Nat) : Prop where
  has : hasT T (nth P0 P j).sum
  nm : NameOk (nth P0 P j).name
  adj : 0 < j → slt (nth P0 P (j - 1)).name (nth P0 P j).name = true
theorem zkh (T : List Kept) (P : List Pin) : (∀ j, 0 ≤ j → j < P.length → pP T P j) ↔ SrtP P ∧ ∀ p ∈ P, NameOk p.name ∧ hasT T p.sum := by
  rw [show SrtP P ↔ _ from zf7 P0 (R := fun a b => slt a.name b.name = true) (fun a b c h1 h2 => zb1 h1 h2) P]
  constructor
  · intro h
    refine ⟨fun j h1 h2 => (h j (by omega) h2).adj h1, fun k hk => ?_⟩
    obtain ⟨j, hj, rfl⟩ := zb0 P0 hk
    have := h j (Nat.zero_le _) hj
    exact ⟨this.nm, this.has⟩
  · rintro ⟨h1, h2⟩ j h4 h5
    have := h2 _ (zl (d := P0) h5)
    exact ⟨this.2, this.1, fun h => h1 j h h5⟩
structure lP (now given : Int) (T : List Kept) (L : List Lease) (j : Nat) : Prop where
  has : hasT T (nth L0 L j).sum
  lo : 1 ≤ (nth L0 L j).number
  hi : (nth L0 L j).number ≤ given
  adj : 0 < j → (nth L0 L (j - 1)).number < (nth L0 L j).number
  t1 : now < (nth L0 L j).till
  t2 : (nth L0 L j).till ≤ now + 100000
theorem zlt (now given : Int) (T : List Kept) (L : List Lease) : (∀ j, 0 ≤ j → j < L.length → lP now given T L j) ↔ SrtL L ∧ ∀ l ∈ L, 1 ≤ l.number ∧ l.number ≤ given ∧ hasT T l.sum ∧ now < l.till ∧ l.till ≤ now + 100000 := by
  rw [show SrtL L ↔ _ from zf7 L0 (R := fun a b => a.number < b.number) (fun a b c h1 h2 => Int.lt_trans h1 h2) L]
  constructor
  · intro h
    refine ⟨fun j h1 h2 => (h j (by omega) h2).adj h1, fun k hk => ?_⟩
    obtain ⟨j, hj, rfl⟩ := zb0 L0 hk
    have := h j (Nat.zero_le _) hj
    exact ⟨this.lo, this.hi, this.has, this.t1, this.t2⟩
  · rintro ⟨h1, h2⟩ j h4 h5
    have := h2 _ (zl (d := L0) h5)
    exact ⟨this.2.2.1, this.1, this.2.1, fun h => h1 j h h5, this.2.2.2.1, this.2.2.2.2⟩
theorem zhm (s : State) : VS s ↔ (1 ≤ s.width ∧ s.width ≤ 8) ∧ (0 ≤ s.now ∧ s.now ≤ 1000000000) ∧ (0 ≤ s.given ∧ s.given ≤ 1000000000) ∧ (0 ≤ s.births ∧ s.births ≤ 1000000000) ∧ s.things.length ≤ 600 ∧ s.pins.length ≤ 100 ∧ s.leases.length ≤ 200 ∧
    (∀ j, 0 ≤ j → j < s.things.length → tP s.width s.births s.things j) ∧ (∀ j, 0 ≤ j → j < s.things.length → ∀ i, 0 ≤ i → i < (nth K0 s.things j).thing.refs.length → refIn s.things (nth K0 s.things j).born (nth .empty (nth K0 s.things j).thing.refs i)) ∧
    (∀ j, 0 ≤ j → j < s.pins.length → pP s.things s.pins j) ∧ (∀ j, 0 ≤ j → j < s.leases.length → lP s.now s.given s.things s.leases j) := by
  rw [zfq, zkh, zlt]
  constructor
  · intro V
    refine ⟨V.wd, V.now, V.given, V.births, V.nT, V.nP, V.nL, ⟨V.srtT, V.okT, V.ndT⟩, fun j _ hj i _ hi => (zjw V.srtT _ _).2 (V.refs _ (zl hj) _ (zl hi)), ⟨V.srtP, V.okP⟩, ⟨V.srtL, V.okL⟩⟩
  · rintro ⟨a, b, c, d, e, f, g, ⟨h1, h2, h3⟩, i, ⟨j1, j2⟩, ⟨k1, k2⟩⟩
    refine ⟨a, b, c, d, e, f, g, h1, h2, h3, fun k hk r hr => ?_, j1, j2, k1, k2⟩
    obtain ⟨m, hm, rfl⟩ := zb0 K0 hk
    obtain ⟨n, hn, rfl⟩ := zb0 .empty hr
    exact (zjw h1 _ _).1 (i m (Nat.zero_le _) hm n (Nat.zero_le _) hn)
section
variable {s : State}
theorem zos (hn : 0 ≤ s.now ∧ s.now ≤ 1000000000) (hT : SrtK s.things) (nT : s.things.length ≤ 600) (nL : s.leases.length ≤ 200) : Lqb (some 30) [.l (encL s.leases), .i (s.leases.length : Int), .i 0, .i s.width, .i s.now, .i s.given, .i s.births, .l (encK s.things), .l (encP s.pins), .l (encL s.leases)]
    = if (∀ j, 0 ≤ j → j < s.leases.length → lP s.now s.given s.things s.leases j) then some [.b true] else some [.b false] := by
  refine z9 (f := fun i : Nat => Lqb (some 30) [.l (encL s.leases), .i (s.leases.length : Int), .i (i : Int), .i s.width, .i s.now, .i s.given, .i s.births, .l (encK s.things), .l (encP s.pins), .l (encL s.leases)]) (fun i hi => ?_) ?_ 0 (Nat.zero_le _)
  · show (_ → Lqb _ _ = Lqb _ _) ∧ (_ → Lqb _ _ = _)
    rw [eqb_30]
    simp (disch := omega) only [push_cast, zbx s.width s.now s.given s.births s.things (encP s.pins) (encL s.leases) (nth L0 s.leases i).sum hT (by omega)]
    by_cases c1 : hasT s.things (nth L0 s.leases i).sum
    rotate_left; · exact ⟨fun h => absurd h.has c1, fun _ => by simp (disch := omega) only [push_cast]⟩
    by_cases c2 : 1 ≤ (nth L0 s.leases i).number
    rotate_left; · exact ⟨fun h => absurd h.lo c2, fun _ => by simp (disch := omega) only [push_cast]⟩
    by_cases c3 : (nth L0 s.leases i).number ≤ s.given
    rotate_left; · exact ⟨fun h => absurd h.hi c3, fun _ => by simp (disch := omega) only [push_cast]⟩
    by_cases c0 : 0 < i
    · by_cases c4 : (nth L0 s.leases (i - 1)).number < (nth L0 s.leases i).number
      rotate_left; · exact ⟨fun h => absurd (h.adj c0) c4, fun _ => by simp (disch := omega) only [push_cast]⟩
      by_cases c5 : s.now < (nth L0 s.leases i).till
      rotate_left; · exact ⟨fun h => absurd h.t1 c5, fun _ => by simp (disch := omega) only [push_cast]⟩
      by_cases c6 : (nth L0 s.leases i).till ≤ s.now + 100000
      rotate_left; · exact ⟨fun h => absurd h.t2 c6, fun _ => by simp (disch := omega) only [push_cast]⟩
      exact ⟨fun _ => by simp (disch := omega) only [push_cast] <;> rfl, fun h => absurd ⟨c1, c2, c3, fun _ => c4, c5, c6⟩ h⟩
    · by_cases c5 : s.now < (nth L0 s.leases i).till
      rotate_left; · exact ⟨fun h => absurd h.t1 c5, fun _ => by simp (disch := omega) only [push_cast]⟩
      by_cases c6 : (nth L0 s.leases i).till ≤ s.now + 100000
      rotate_left; · exact ⟨fun h => absurd h.t2 c6, fun _ => by simp (disch := omega) only [push_cast]⟩
      exact ⟨fun _ => by simp (disch := omega) only [push_cast] <;> rfl, fun h => absurd ⟨c1, c2, c3, fun h => absurd h c0, c5, c6⟩ h⟩
  · show Lqb _ _ = _
    rw [eqb_30]; simp (disch := omega) only [push_cast]
theorem zkj (hT : SrtK s.things) (nT : s.things.length ≤ 600) (nP : s.pins.length ≤ 100) (hN : ∀ p ∈ s.pins, p.name.size ≤ 4611686018427387904) : Lqb (some 23) [.l (encP s.pins), .i (s.pins.length : Int), .i 0, .i s.width, .i s.now, .i s.given, .i s.births, .l (encK s.things), .l (encP s.pins), .l (encL s.leases)]
    = if (∀ j, 0 ≤ j → j < s.pins.length → pP s.things s.pins j) then Lqb (some 30) [.l (encL s.leases), .i (s.leases.length : Int), .i 0, .i s.width, .i s.now, .i s.given, .i s.births, .l (encK s.things), .l (encP s.pins), .l (encL s.leases)] else some [.b false] := by
  refine z9 (f := fun i : Nat => Lqb (some 23) [.l (encP s.pins), .i (s.pins.length : Int), .i (i : Int), .i s.width, .i s.now, .i s.given, .i s.births, .l (encK s.things), .l (encP s.pins), .l (encL s.leases)]) (fun i hi => ?_) ?_ 0 (Nat.zero_le _)
  · show (_ → Lqb _ _ = Lqb _ _) ∧ (_ → Lqb _ _ = _)
    rw [eqb_23]
    simp (disch := omega) only [push_cast, zbx s.width s.now s.given s.births s.things (encP s.pins) (encL s.leases) (nth P0 s.pins i).sum hT (by omega), zir (nth P0 s.pins i).name (hN _ (zl hi))]
    by_cases c1 : hasT s.things (nth P0 s.pins i).sum
    rotate_left; · exact ⟨fun h => absurd h.has c1, fun _ => by simp (disch := omega) only [push_cast]⟩
    by_cases c2 : NameOk (nth P0 s.pins i).name
    rotate_left; · exact ⟨fun h => absurd h.nm c2, fun _ => by unfold nameB; simp (disch := omega) only [push_cast]⟩
    unfold nameB
    by_cases c0 : 0 < i
    · cases c4 : slt (nth P0 s.pins (i - 1)).name (nth P0 s.pins i).name
      · exact ⟨fun h => absurd (h.adj c0) (by simp [c4]), fun _ => by simp (disch := omega) only [push_cast, c4]⟩
      · exact ⟨fun _ => by simp (disch := omega) only [push_cast, c4] <;> rfl, fun h => absurd ⟨c1, c2, fun _ => c4⟩ h⟩
    · exact ⟨fun _ => by simp (disch := omega) only [push_cast] <;> rfl, fun h => absurd ⟨c1, c2, fun h => absurd h c0⟩ h⟩
  · show Lqb _ _ = _
    rw [eqb_23]; simp (disch := omega) only [push_cast]
theorem zkf (hT : SrtK s.things) (nT : s.things.length ≤ 600) (hR : ∀ k ∈ s.things, k.thing.refs.length ≤ 30) : Lqb (some 12) [.l (encK s.things), .i (s.things.length : Int), .i 0, .i s.width, .i s.now, .i s.given, .i s.births, .l (encK s.things), .l (encP s.pins), .l (encL s.leases)]
    = if (∀ j, 0 ≤ j → j < s.things.length → ∀ i, 0 ≤ i → i < (nth K0 s.things j).thing.refs.length → refIn s.things (nth K0 s.things j).born (nth .empty (nth K0 s.things j).thing.refs i)) then Lqb (some 23) [.l (encP s.pins), .i (s.pins.length : Int), .i 0, .i s.width, .i s.now, .i s.given, .i s.births, .l (encK s.things), .l (encP s.pins), .l (encL s.leases)] else some [.b false] := by
  refine z9 (f := fun i : Nat => Lqb (some 12) [.l (encK s.things), .i (s.things.length : Int), .i (i : Int), .i s.width, .i s.now, .i s.given, .i s.births, .l (encK s.things), .l (encP s.pins), .l (encL s.leases)]) (P := fun j => ∀ i, 0 ≤ i → i < (nth K0 s.things j).thing.refs.length → refIn s.things (nth K0 s.things j).born (nth .empty (nth K0 s.things j).thing.refs i)) (fun i hi => ?_) ?_ 0 (Nat.zero_le _)
  · have hr := hR _ (zl (d := K0) hi)
    have inner := z9 (f := fun j : Nat => Lqb (some 15) [.l (encK s.things), .i (s.things.length : Int), .i (i : Int), .l (encS (nth K0 s.things i).thing.refs), .i ((nth K0 s.things i).thing.refs.length : Int), .i (j : Int), .i s.width, .i s.now, .i s.given, .i s.births, .l (encK s.things), .l (encP s.pins), .l (encL s.leases), .s (nth K0 s.things i).sum, .i (nth K0 s.things i).born, .s (nth K0 s.things i).thing.text, .l (encS (nth K0 s.things i).thing.refs)])
      (P := fun j => refIn s.things (nth K0 s.things i).born (nth .empty (nth K0 s.things i).thing.refs j)) (n := (nth K0 s.things i).thing.refs.length) (T := Lqb (some 12) [.l (encK s.things), .i (s.things.length : Int), .i ((i + 1 : Nat) : Int), .i s.width, .i s.now, .i s.given, .i s.births, .l (encK s.things), .l (encP s.pins), .l (encL s.leases)]) (F := some [.b false])
      (fun j hj => by
        show (_ → Lqb _ _ = Lqb _ _) ∧ (_ → Lqb _ _ = _)
        rw [eqb_15]
        simp (disch := omega) only [push_cast, zbx s.width s.now s.given s.births s.things (encP s.pins) (encL s.leases) (nth .empty (nth K0 s.things i).thing.refs j) hT (by omega)]
        by_cases c1 : hasT s.things (nth .empty (nth K0 s.things i).thing.refs j)
        rotate_left; · exact ⟨fun h => absurd h.1 c1, fun _ => by simp (disch := omega) only [push_cast]⟩
        have hl := ((zcg hT _).1 c1).1
        by_cases c2 : (nth K0 s.things (lb (qK (nth .empty (nth K0 s.things i).thing.refs j)) s.things)).born < (nth K0 s.things i).born
        rotate_left; · exact ⟨fun h => absurd h.2 c2, fun _ => by simp (disch := omega) only [push_cast]⟩
        exact ⟨fun _ => by simp (disch := omega) only [push_cast] <;> rfl, fun h => absurd ⟨c1, c2⟩ h⟩)
      (by show Lqb _ _ = Lqb _ _; rw [eqb_15]; simp (disch := omega) only [push_cast] <;> rfl) 0 (Nat.zero_le _)
    show (_ → Lqb _ _ = Lqb _ _) ∧ (_ → Lqb _ _ = _)
    rw [eqb_12]
    simp (disch := omega) only [push_cast]
    have inner' : Lqb (some 15) [.l (encK s.things), .i (s.things.length : Int), .i (i : Int), .l (encS (nth K0 s.things i).thing.refs), .i ((nth K0 s.things i).thing.refs.length : Int), .i 0, .i s.width, .i s.now, .i s.given, .i s.births, .l (encK s.things), .l (encP s.pins), .l (encL s.leases), .s (nth K0 s.things i).sum, .i (nth K0 s.things i).born, .s (nth K0 s.things i).thing.text, .l (encS (nth K0 s.things i).thing.refs)] = _ := inner
    rw [inner']
    exact ⟨fun h => if_pos h, fun h => if_neg h⟩
  · show Lqb _ _ = _
    rw [eqb_12]; simp (disch := omega) only [push_cast]
theorem ivs_5 (nT : s.things.length ≤ 600) : Lqb (some 5) [.l (encK s.things), .i (s.things.length : Int), .i 0, .i s.width, .i s.now, .i s.given, .i s.births, .l (encK s.things), .l (encP s.pins), .l (encL s.leases), .m []]
    = if (∀ j, 0 ≤ j → j < s.things.length → tP s.width s.births s.things j) then Lqb (some 12) [.l (encK s.things), .i (s.things.length : Int), .i 0, .i s.width, .i s.now, .i s.given, .i s.births, .l (encK s.things), .l (encP s.pins), .l (encL s.leases)] else some [.b false] := by
  refine z9 (f := fun i : Nat => Lqb (some 5) [.l (encK s.things), .i (s.things.length : Int), .i (i : Int), .i s.width, .i s.now, .i s.given, .i s.births, .l (encK s.things), .l (encP s.pins), .l (encL s.leases), .m (setI (bsT s.things i))]) (fun i hi => ?_) ?_ 0 (Nat.zero_le _)
  · show (_ → Lqb _ _ = Lqb _ _) ∧ (_ → Lqb _ _ = _)
    rw [eqb_5, bsT_S _ _ hi]
    by_cases c1 : ThingOk (nth K0 s.things i).thing s.width
    rotate_left
    · refine ⟨fun h => absurd h.ok c1, fun _ => ?_⟩
      have : z0 (nth K0 s.things i).thing s.width = false := decide_eq_false c1
      by_cases c0 : 0 < i
      · cases c4 : slt (nth K0 s.things (i - 1)).sum (nth K0 s.things i).sum <;> simp (disch := omega) only [push_cast, zbh, c4, this]
      · simp (disch := omega) only [push_cast, zbh, this]
    have ht : z0 (nth K0 s.things i).thing s.width = true := decide_eq_true c1
    have hz : (formM (nth K0 s.things i).thing).size ≤ 1099511627776 := by
      rw [zet]; have := zci c1; omega
    by_cases c2 : (nth K0 s.things i).sum = sumM (formM (nth K0 s.things i).thing) s.width
    rotate_left
    · refine ⟨fun h => absurd h.sum c2, fun _ => ?_⟩
      by_cases c0 : 0 < i
      · cases c4 : slt (nth K0 s.things (i - 1)).sum (nth K0 s.things i).sum <;> simp (disch := omega) only [push_cast, zbh, c4, ht, zbn c1, zbw _ s.width hz]
      · simp (disch := omega) only [push_cast, zbh, ht, zbn c1, zbw _ s.width hz]
    by_cases c3 : 1 ≤ (nth K0 s.things i).born
    rotate_left
    · refine ⟨fun h => absurd h.lo c3, fun _ => ?_⟩
      by_cases c0 : 0 < i
      · cases c4 : slt (nth K0 s.things (i - 1)).sum (nth K0 s.things i).sum <;> simp (disch := omega) only [push_cast, zbh, c4, ht, zbn c1, zbw _ s.width hz]
      · simp (disch := omega) only [push_cast, zbh, ht, zbn c1, zbw _ s.width hz]
    by_cases c5 : (nth K0 s.things i).born ≤ s.births
    rotate_left
    · refine ⟨fun h => absurd h.hi c5, fun _ => ?_⟩
      by_cases c0 : 0 < i
      · cases c4 : slt (nth K0 s.things (i - 1)).sum (nth K0 s.things i).sum <;> simp (disch := omega) only [push_cast, zbh, c4, ht, zbn c1, zbw _ s.width hz]
      · simp (disch := omega) only [push_cast, zbh, ht, zbn c1, zbw _ s.width hz]
    by_cases c6 : (nth K0 s.things i).born ∈ bsT s.things i
    · refine ⟨fun h => absurd c6 h.new, fun _ => ?_⟩
      by_cases c0 : 0 < i
      · cases c4 : slt (nth K0 s.things (i - 1)).sum (nth K0 s.things i).sum <;> simp (disch := omega) only [push_cast, zbh, c4, ht, zbn c1, zbw _ s.width hz, inI]
      · simp (disch := omega) only [push_cast, zbh, ht, zbn c1, zbw _ s.width hz, inI]
    by_cases c0 : 0 < i
    · cases c4 : slt (nth K0 s.things (i - 1)).sum (nth K0 s.things i).sum
      · exact ⟨fun h => absurd (h.adj c0) (by simp [c4]), fun _ => by simp (disch := omega) only [push_cast, c4]⟩
      · exact ⟨fun _ => by simp (disch := omega) only [push_cast, zbh, c4, ht, zbn c1, zbw _ s.width hz, ← c2, inI, zf2 _ _ c6] <;> rfl, fun h => absurd ⟨fun _ => c4, c1, c2, c3, c5, c6⟩ h⟩
    · exact ⟨fun _ => by simp (disch := omega) only [push_cast, zbh, ht, zbn c1, zbw _ s.width hz, ← c2, inI, zf2 _ _ c6] <;> rfl, fun h => absurd ⟨fun h => absurd h c0, c1, c2, c3, c5, c6⟩ h⟩
  · show Lqb _ _ = _
    rw [eqb_5]; simp (disch := omega) only [push_cast]
theorem zk8 (s : State) (hN : ∀ p ∈ s.pins, p.name.size ≤ 4611686018427387904) : Lqb none (encSt s) = some [.b (decide (VS s))] := by
  unfold encSt
  rw [eqb_i]
  have hv := zhm s
  by_cases h1 : 1 ≤ s.width ∧ s.width ≤ 8
  rotate_left; · rw [decide_eq_false fun V : VS s => h1 V.wd]; have : zm s.width = false := by cases h : zm s.width; { rfl }; { exact absurd (zbi.1 h) h1 }
                 simp (disch := omega) only [push_cast, zbt, this]
  have hw : zm s.width = true := zbi.2 h1
  by_cases h2 : 0 ≤ s.now ∧ s.now ≤ 1000000000
  rotate_left; · rw [decide_eq_false fun V : VS s => h2 V.now]; simp (disch := omega) only [push_cast, zbt, hw, zcf]
  by_cases h3 : 0 ≤ s.given ∧ s.given ≤ 1000000000
  rotate_left; · rw [decide_eq_false fun V : VS s => h3 V.given]; simp (disch := omega) only [push_cast, zbt, hw, zcf]
  by_cases h4 : 0 ≤ s.births ∧ s.births ≤ 1000000000
  rotate_left; · rw [decide_eq_false fun V : VS s => h4 V.births]; simp (disch := omega) only [push_cast, zbt, hw, zcf]
  by_cases h5 : s.things.length ≤ 600
  rotate_left; · rw [decide_eq_false fun V : VS s => h5 V.nT]; simp (disch := omega) only [push_cast, zbt, hw, zcf]
  by_cases h6 : s.pins.length ≤ 100
  rotate_left; · rw [decide_eq_false fun V : VS s => h6 V.nP]; simp (disch := omega) only [push_cast, zbt, hw, zcf]
  by_cases h7 : s.leases.length ≤ 200
  rotate_left; · rw [decide_eq_false fun V : VS s => h7 V.nL]; simp (disch := omega) only [push_cast, zbt, hw, zcf]
  simp (disch := omega) only [push_cast, zbt, hw, zcf, ivs_5 h5]
  by_cases h8 : ∀ j, 0 ≤ j → j < s.things.length → tP s.width s.births s.things j
  rotate_left; · rw [if_neg h8, decide_eq_false fun V : VS s => h8 (hv.1 V).2.2.2.2.2.2.2.1]
  have hs := (zfq _ _ _).1 h8
  rw [if_pos h8, zkf hs.1 h5 fun k hk => (hs.2.1 k hk).1.refs]
  by_cases h9 : ∀ j, 0 ≤ j → j < s.things.length → ∀ i, 0 ≤ i → i < (nth K0 s.things j).thing.refs.length → refIn s.things (nth K0 s.things j).born (nth .empty (nth K0 s.things j).thing.refs i)
  rotate_left; · rw [if_neg h9, decide_eq_false fun V : VS s => h9 (hv.1 V).2.2.2.2.2.2.2.2.1]
  rw [if_pos h9, zkj hs.1 h5 h6 hN]
  by_cases h10 : ∀ j, 0 ≤ j → j < s.pins.length → pP s.things s.pins j
  rotate_left; · rw [if_neg h10, decide_eq_false fun V : VS s => h10 (hv.1 V).2.2.2.2.2.2.2.2.2.1]
  rw [if_pos h10, zos h2 hs.1 h5 h7]
  by_cases h11 : ∀ j, 0 ≤ j → j < s.leases.length → lP s.now s.given s.things s.leases j
  rotate_left; · rw [if_neg h11, decide_eq_false fun V : VS s => h11 (hv.1 V).2.2.2.2.2.2.2.2.2.2]
  rw [if_pos h11, decide_eq_true (hv.2 ⟨h1, h2, h3, h4, h5, h6, h7, h8, h9, h10, h11⟩)]
end
theorem VS.names {s : State} (V : VS s) : ∀ p ∈ s.pins, p.name.size ≤ 4611686018427387904 := fun p hp => by have := (V.okP p hp).1.hi; omega
end KV
end
section
namespace KV
open Go Go.Eng
open Classical
noncomputable def near (T : List Kept) (i : Nat) : Rw := (List.range 601).map fun b : Nat => [.b (decide ((b : Int) ∈ bsT T i))]
def farL (T : List Kept) (i : Nat) : List Int := (bsT T i).filter fun b => decide (600 < b)
def encN (l : List Int) : Rw := l.map fun n => [.i n]
@[push_cast] theorem zpw (l : List Int) : (encN l).length = l.length := by simp [encN]
@[push_cast] theorem zps (l : List Int) (i : Nat) : (rd (encN l) i 0).int = nth 0 l i := by
  rcases Nat.lt_or_ge i l.length with h | h
  · rw [encN, zfp _ _ _ _ h, zn _ _ _ h]; rfl
  · rw [zgi _ _ _ h]; unfold encN; rw [zfh _ _ _ _ h]; rfl
@[push_cast] theorem ze2 (T : List Kept) (i : Nat) : (near T i).length = 601 := by simp [near]
theorem zl4 (T : List Kept) (i b : Nat) (h : b ≤ 600) : (rd (near T i) b 0).bool = decide ((b : Int) ∈ bsT T i) := by
  rw [near, zfp _ _ _ _ (by rw [List.length_range]; omega), List.getElem_range]; rfl
theorem zk9 (T : List Kept) (i b : Nat) (hi : i < T.length) (h : b ≤ 600) (hb : (nth K0 T i).born = (b : Int)) : wrs (near T i) b 0 [.b true] = near T (i + 1) := by
  have e : (near T i).getD b [] = [.b (decide ((b : Int) ∈ bsT T i))] := by
    unfold near
    rw [List.getD_eq_getElem?_getD, List.getElem?_map, List.getElem?_range (by omega)]; rfl
  have h1 : wrs (near T i) b 0 [.b true] = (near T i).set b [.b true] := by
    unfold wrs wrs wr
    rw [e]; rfl
  rw [h1]
  apply List.ext_getElem?
  intro j
  rw [List.getElem?_set]
  rcases Nat.lt_or_ge j 601 with hj | hj
  · by_cases hjb : b = j
    · subst hjb
      rw [if_pos rfl, if_pos (by rw [ze2]; exact hj)]
      unfold near
      rw [List.getElem?_map, List.getElem?_range hj, Option.map_some, bsT_S _ _ hi, hb]
      simp
    · rw [if_neg hjb]
      unfold near
      rw [List.getElem?_map, List.getElem?_map, List.getElem?_range hj, Option.map_some, Option.map_some, bsT_S _ _ hi, hb]
      have : ((j : Int) ∈ bsT T i) ↔ ((j : Int) ∈ bsT T i ++ [(b : Int)]) := by
        rw [List.mem_append, List.mem_singleton]
        exact ⟨.inl, fun h => h.elim id fun h => absurd (by omega : b = j) hjb⟩
      rw [decide_eq_decide.2 this]
  · rw [if_neg (by omega), List.getElem?_eq_none (by rw [ze2]; exact hj), List.getElem?_eq_none (by rw [ze2]; exact hj)]
theorem far_S (T : List Kept) (i : Nat) (hi : i < T.length) : farL T (i + 1) = farL T i ++ (if 600 < (nth K0 T i).born then [(nth K0 T i).born] else []) := by
  unfold farL
  rw [bsT_S _ _ hi, List.filter_append]
  congr 1
  split
  · rename_i h; simp [h]
  · rename_i h; simp [h]
theorem znj (T : List Kept) (i : Nat) (hi : i < T.length) (h : 600 < (nth K0 T i).born) : near T (i + 1) = near T i := by
  unfold near
  apply List.map_congr_left
  intro b hb
  rw [List.mem_range] at hb
  rw [bsT_S _ _ hi]
  have : ((b : Int) ∈ bsT T i ++ [(nth K0 T i).born]) ↔ ((b : Int) ∈ bsT T i) := by
    rw [List.mem_append, List.mem_singleton]
    exact ⟨fun h1 => h1.elim id fun h1 => absurd h1 (by omega), .inl⟩
  rw [decide_eq_decide.2 this]
theorem zmj (T : List Kept) (i : Nat) : (farL T i).length ≤ T.length := by
  unfold farL bsT
  refine Nat.le_trans (List.length_filter_le _ _) ?_
  rw [List.length_map, List.length_take]; omega
theorem zg1 (T : List Kept) (i : Nat) {b : Int} (h : 600 < b) : b ∈ farL T i ↔ b ∈ bsT T i := by
  unfold farL; rw [List.mem_filter]; simp [h]
section
variable {s : State}
theorem zlv (hT : SrtK s.things) (nT : s.things.length ≤ 600) (hR : ∀ k ∈ s.things, k.thing.refs.length ≤ 30) : Lqc (some 20) [.i 0, .i s.width, .i s.now, .i s.given, .i s.births, .l (encK s.things), .l (encP s.pins), .l (encL s.leases)]
    = if (∀ j, 0 ≤ j → j < s.things.length → ∀ i, 0 ≤ i → i < (nth K0 s.things j).thing.refs.length → refIn s.things (nth K0 s.things j).born (nth .empty (nth K0 s.things j).thing.refs i)) then some [.b true] else some [.b false] := by
  refine z9 (f := fun i : Nat => Lqc (some 20) [.i (i : Int), .i s.width, .i s.now, .i s.given, .i s.births, .l (encK s.things), .l (encP s.pins), .l (encL s.leases)]) (P := fun j => ∀ i, 0 ≤ i → i < (nth K0 s.things j).thing.refs.length → refIn s.things (nth K0 s.things j).born (nth .empty (nth K0 s.things j).thing.refs i)) (fun i hi => ?_) ?_ 0 (Nat.zero_le _)
  · have hr := hR _ (zl (d := K0) hi)
    have inner := z9 (f := fun j : Nat => Lqc (some 23) [.i (i : Int), .i (j : Int), .i s.width, .i s.now, .i s.given, .i s.births, .l (encK s.things), .l (encP s.pins), .l (encL s.leases)])
      (P := fun j => refIn s.things (nth K0 s.things i).born (nth .empty (nth K0 s.things i).thing.refs j)) (n := (nth K0 s.things i).thing.refs.length) (T := Lqc (some 20) [.i ((i + 1 : Nat) : Int), .i s.width, .i s.now, .i s.given, .i s.births, .l (encK s.things), .l (encP s.pins), .l (encL s.leases)]) (F := some [.b false])
      (fun j hj => by
        show (_ → Lqc _ _ = Lqc _ _) ∧ (_ → Lqc _ _ = _)
        rw [eqc_23]
        have hf := zbu (T := s.things) (x := nth .empty (nth K0 s.things i).thing.refs j)
        simp (disch := omega) only [push_cast, zd5 s.width s.now s.given s.births s.things (encP s.pins) (encL s.leases) (nth .empty (nth K0 s.things i).thing.refs j) hT (by omega)]
        by_cases c1 : hasT s.things (nth .empty (nth K0 s.things i).thing.refs j)
        rotate_left; · exact ⟨fun h => absurd h.1 c1, fun _ => by have := hf.2 c1; simp (disch := omega) only [push_cast]⟩
        have hl := ((zcg hT _).1 c1).1
        have hfi : findT s.things (nth .empty (nth K0 s.things i).thing.refs j) = (lb (qK (nth .empty (nth K0 s.things i).thing.refs j)) s.things : Int) := if_pos c1
        rw [hfi]
        by_cases c2 : (nth K0 s.things (lb (qK (nth .empty (nth K0 s.things i).thing.refs j)) s.things)).born < (nth K0 s.things i).born
        rotate_left; · exact ⟨fun h => absurd h.2 c2, fun _ => by simp (disch := omega) only [push_cast]⟩
        exact ⟨fun _ => by simp (disch := omega) only [push_cast] <;> rfl, fun h => absurd ⟨c1, c2⟩ h⟩)
      (by show Lqc _ _ = Lqc _ _; rw [eqc_23]; simp (disch := omega) only [push_cast] <;> rfl) 0 (Nat.zero_le _)
    show (_ → Lqc _ _ = Lqc _ _) ∧ (_ → Lqc _ _ = _)
    rw [eqc_20]
    simp (disch := omega) only [push_cast]
    have inner' : Lqc (some 23) [.i (i : Int), .i 0, .i s.width, .i s.now, .i s.given, .i s.births, .l (encK s.things), .l (encP s.pins), .l (encL s.leases)] = _ := inner
    rw [inner']
    exact ⟨fun h => if_pos h, fun h => if_neg h⟩
  · show Lqc _ _ = _
    rw [eqc_20]; simp (disch := omega) only [push_cast]
theorem zmv (nT : s.things.length ≤ 600) (i : Nat) (hi : i < s.things.length) (l : List Int) (hl : l.length ≤ 1000000) (nrw : Rw) (b : Int) (x y : Bs) (z : Rw) :
    Lqc (some 14) [.i (i : Int), .i 0, .i s.width, .i s.now, .i s.given, .i s.births, .l (encK s.things), .l (encP s.pins), .l (encL s.leases), .l nrw, .l (encN l), .s x, .i b, .s y, .l z] =
      if b ∈ l then some [.b false] else Lqc (some 4) [.i ((i + 1 : Nat) : Int), .i s.width, .i s.now, .i s.given, .i s.births, .l (encK s.things), .l (encP s.pins), .l (encL s.leases), .l nrw, .l (encN (l ++ [b]))] := by
  have := zby (f := fun j : Nat => Lqc (some 14) [.i (i : Int), .i (j : Int), .i s.width, .i s.now, .i s.given, .i s.births, .l (encK s.things), .l (encP s.pins), .l (encL s.leases), .l nrw, .l (encN l), .s x, .i b, .s y, .l z]) (0 : Int) (l := l) (p := fun r => r = b) (T := some [.b false])
    (E := Lqc (some 4) [.i ((i + 1 : Nat) : Int), .i s.width, .i s.now, .i s.given, .i s.births, .l (encK s.things), .l (encP s.pins), .l (encL s.leases), .l nrw, .l (encN (l ++ [b]))]) (fun j hj => by
    show Lqc _ _ = cond _ _ (Lqc _ _)
    rw [eqc_14, mostE]; simp (disch := omega) only [push_cast]) (by
    show Lqc _ _ = Lqc _ _
    have : encN (l ++ [b]) = encN l ++ [[.i b]] := by simp [encN]
    rw [eqc_14, mostE, this]; simp (disch := omega) only [push_cast])
  refine Eq.trans this ?_
  by_cases h : b ∈ l
  · rw [if_pos h, if_pos ⟨b, h, rfl⟩]
  · rw [if_neg h, if_neg (by rintro ⟨r, hr, rfl⟩; exact h hr)]
theorem sto_4 (nT : s.things.length ≤ 600) (hb : 0 ≤ s.births ∧ s.births ≤ 1000000000) : Lqc (some 4) [.i 0, .i s.width, .i s.now, .i s.given, .i s.births, .l (encK s.things), .l (encP s.pins), .l (encL s.leases), .l (near s.things 0), .l (encN (farL s.things 0))]
    = if (∀ j, 0 ≤ j → j < s.things.length → tP s.width s.births s.things j) then Lqc (some 20) [.i 0, .i s.width, .i s.now, .i s.given, .i s.births, .l (encK s.things), .l (encP s.pins), .l (encL s.leases)] else some [.b false] := by
  refine z9 (f := fun i : Nat => Lqc (some 4) [.i (i : Int), .i s.width, .i s.now, .i s.given, .i s.births, .l (encK s.things), .l (encP s.pins), .l (encL s.leases), .l (near s.things i), .l (encN (farL s.things i))]) (fun i hi => ?_) ?_ 0 (Nat.zero_le _)
  · show (_ → Lqc _ _ = Lqc _ _) ∧ (_ → Lqc _ _ = _)
    have hfl := zmj s.things i
    rw [eqc_4]
    by_cases c1 : ThingOk (nth K0 s.things i).thing s.width
    rotate_left
    · refine ⟨fun h => absurd h.ok c1, fun _ => ?_⟩
      have : z0 (nth K0 s.things i).thing s.width = false := decide_eq_false c1
      simp (disch := omega) only [push_cast, zcn, this]
    have ht : z0 (nth K0 s.things i).thing s.width = true := decide_eq_true c1
    have hz : (formM (nth K0 s.things i).thing).size ≤ 1099511627776 := by
      rw [zet]; have := zci c1; omega
    have hft : formT (nth K0 s.things i).thing s.width = formM (nth K0 s.things i).thing := if_pos ht
    by_cases c2 : (nth K0 s.things i).sum = sumM (formM (nth K0 s.things i).thing) s.width
    rotate_left
    · refine ⟨fun h => absurd h.sum c2, fun _ => ?_⟩
      simp (disch := omega) only [push_cast, zcn, ht, zc2, hft, zd2 _ s.width hz]
    have tail : ∀ X : Option Lv, X = (Lqbv none [.i (nth K0 s.things i).born, .i 1, .i s.births]).bind (fun y4 =>
         cond (!(g y4 0).bool) (some [.b false]) (
         cond (decide ((nth K0 s.things i).born ≤ 600)) (
          cond (inb ((nth K0 s.things i).born) (near s.things i).length) (
           cond ((rd (near s.things i) (((nth K0 s.things i).born).toNat) 0).bool) (some [.b false]) (
            cond (inb ((nth K0 s.things i).born) (near s.things i).length) (
             Lqc (some 4) [.i ((i + 1 : Nat) : Int), .i s.width, .i s.now, .i s.given, .i s.births, .l (encK s.things), .l (encP s.pins), .l (encL s.leases), .l (wrs (near s.things i) (((nth K0 s.things i).born).toNat) 0 ([.b true] : List C)), .l (encN (farL s.things i))]) (none))) (none)) (
          Lqc (some 14) [.i (i : Int), .i 0, .i s.width, .i s.now, .i s.given, .i s.births, .l (encK s.things), .l (encP s.pins), .l (encL s.leases), .l (near s.things i), .l (encN (farL s.things i)), .s (nth K0 s.things i).sum, .i (nth K0 s.things i).born, .s (nth K0 s.things i).thing.text, .l (encS (nth K0 s.things i).thing.refs)]))) →
        (0 < i → slt (nth K0 s.things (i - 1)).sum (nth K0 s.things i).sum = true) →
        (tP s.width s.births s.things i → X = Lqc (some 4) [.i ((i + 1 : Nat) : Int), .i s.width, .i s.now, .i s.given, .i s.births, .l (encK s.things), .l (encP s.pins), .l (encL s.leases), .l (near s.things (i + 1)), .l (encN (farL s.things (i + 1)))]) ∧ (¬ tP s.width s.births s.things i → X = some [.b false]) := by
      rintro X rfl hadj
      by_cases c3 : 1 ≤ (nth K0 s.things i).born ∧ (nth K0 s.things i).born ≤ s.births
      rotate_left; · exact ⟨fun h => absurd ⟨h.lo, h.hi⟩ c3, fun _ => by simp (disch := omega) only [push_cast, zp]⟩
      by_cases c5 : (nth K0 s.things i).born ≤ 600
      · obtain ⟨b, hbb⟩ : ∃ b : Nat, (nth K0 s.things i).born = b := ⟨((nth K0 s.things i).born).toNat, by omega⟩
        have hrd := zl4 s.things i b (by omega)
        by_cases c6 : (nth K0 s.things i).born ∈ bsT s.things i
        · refine ⟨fun h => absurd c6 h.new, fun _ => ?_⟩
          rw [hbb] at c6
          simp (disch := omega) only [push_cast, zp, hbb, hrd, decide_eq_true c6]
        · refine ⟨fun _ => ?_, fun h => absurd ⟨hadj, c1, c2, c3.1, c3.2, c6⟩ h⟩
          have hw := zk9 s.things i b hi (by omega) hbb
          rw [far_S _ _ hi, if_neg (by omega), List.append_nil]
          rw [hbb] at c6
          simp (disch := omega) only [push_cast, zp, hbb, hrd, decide_eq_false c6, hw]
      · have h14 := zmv nT i hi (farL s.things i) (by omega) (near s.things i) (nth K0 s.things i).born (nth K0 s.things i).sum (nth K0 s.things i).thing.text (encS (nth K0 s.things i).thing.refs)
        by_cases c6 : (nth K0 s.things i).born ∈ bsT s.things i
        · refine ⟨fun h => absurd c6 h.new, fun _ => ?_⟩
          rw [if_pos ((zg1 _ _ (by omega)).2 c6)] at h14
          simp (disch := omega) only [push_cast, zp]
          exact h14
        · refine ⟨fun _ => ?_, fun h => absurd ⟨hadj, c1, c2, c3.1, c3.2, c6⟩ h⟩
          rw [if_neg (fun h => c6 ((zg1 _ _ (by omega)).1 h))] at h14
          rw [far_S _ _ hi, if_pos (by omega), znj _ _ hi (by omega)]
          simp (disch := omega) only [push_cast, zp]
          exact h14
    by_cases c0 : 0 < i
    · cases c4 : slt (nth K0 s.things (i - 1)).sum (nth K0 s.things i).sum
      · exact ⟨fun h => absurd (h.adj c0) (by simp [c4]), fun _ => by simp (disch := omega) only [push_cast, zcn, ht, zc2, hft, zd2 _ s.width hz, ← c2, c4]⟩
      · refine tail _ ?_ (fun _ => c4)
        simp (disch := omega) only [push_cast, zcn, ht, zc2, hft, zd2 _ s.width hz, ← c2, c4]
    · refine tail _ ?_ (fun h => absurd h c0)
      simp (disch := omega) only [push_cast, zcn, ht, zc2, hft, zd2 _ s.width hz, ← c2]
  · show Lqc _ _ = _
    rw [eqc_4]; simp (disch := omega) only [push_cast]
theorem zo1 (hn : 0 ≤ s.now ∧ s.now ≤ 1000000000) (hT : SrtK s.things) (nT : s.things.length ≤ 600) (nL : s.leases.length ≤ 200) : Lqh (some 11) [.i 0, .i s.width, .i s.now, .i s.given, .i s.births, .l (encK s.things), .l (encP s.pins), .l (encL s.leases)]
    = if (∀ j, 0 ≤ j → j < s.leases.length → lP s.now s.given s.things s.leases j) then some [.b true] else some [.b false] := by
  refine z9 (f := fun i : Nat => Lqh (some 11) [.i (i : Int), .i s.width, .i s.now, .i s.given, .i s.births, .l (encK s.things), .l (encP s.pins), .l (encL s.leases)]) (fun i hi => ?_) ?_ 0 (Nat.zero_le _)
  · show (_ → Lqh _ _ = Lqh _ _) ∧ (_ → Lqh _ _ = _)
    rw [eqh_11]
    have hf := zbu (T := s.things) (x := (nth L0 s.leases i).sum)
    have hfe := zd5 s.width s.now s.given s.births s.things (encP s.pins) (encL s.leases) (nth L0 s.leases i).sum hT (by omega)
    by_cases c2 : 1 ≤ (nth L0 s.leases i).number ∧ (nth L0 s.leases i).number ≤ s.given
    rotate_left; · exact ⟨fun h => absurd ⟨h.lo, h.hi⟩ c2, fun _ => by simp (disch := omega) only [push_cast, zp]⟩
    by_cases c0 : 0 < i
    · by_cases c4 : (nth L0 s.leases (i - 1)).number < (nth L0 s.leases i).number
      rotate_left; · exact ⟨fun h => absurd (h.adj c0) c4, fun _ => by simp (disch := omega) only [push_cast, zp]⟩
      by_cases c1 : hasT s.things (nth L0 s.leases i).sum
      rotate_left; · exact ⟨fun h => absurd h.has c1, fun _ => by have := hf.2 c1; simp (disch := omega) only [push_cast, zp, hfe]⟩
      have c1' : ¬ findT s.things (nth L0 s.leases i).sum < 0 := fun h => hf.1 h c1
      by_cases c5 : s.now < (nth L0 s.leases i).till
      rotate_left; · exact ⟨fun h => absurd h.t1 c5, fun _ => by simp (disch := omega) only [push_cast, zp, hfe]⟩
      by_cases c6 : (nth L0 s.leases i).till ≤ s.now + 100000
      rotate_left; · exact ⟨fun h => absurd h.t2 c6, fun _ => by simp (disch := omega) only [push_cast, zp, hfe]⟩
      exact ⟨fun _ => by simp (disch := omega) only [push_cast, zp, hfe] <;> rfl, fun h => absurd ⟨c1, c2.1, c2.2, fun _ => c4, c5, c6⟩ h⟩
    · by_cases c1 : hasT s.things (nth L0 s.leases i).sum
      rotate_left; · exact ⟨fun h => absurd h.has c1, fun _ => by have := hf.2 c1; simp (disch := omega) only [push_cast, zp, hfe]⟩
      have c1' : ¬ findT s.things (nth L0 s.leases i).sum < 0 := fun h => hf.1 h c1
      by_cases c5 : s.now < (nth L0 s.leases i).till
      rotate_left; · exact ⟨fun h => absurd h.t1 c5, fun _ => by simp (disch := omega) only [push_cast, zp, hfe]⟩
      by_cases c6 : (nth L0 s.leases i).till ≤ s.now + 100000
      rotate_left; · exact ⟨fun h => absurd h.t2 c6, fun _ => by simp (disch := omega) only [push_cast, zp, hfe]⟩
      exact ⟨fun _ => by simp (disch := omega) only [push_cast, zp, hfe] <;> rfl, fun h => absurd ⟨c1, c2.1, c2.2, fun h => absurd h c0, c5, c6⟩ h⟩
  · show Lqh _ _ = _
    rw [eqh_11]; simp (disch := omega) only [push_cast]
theorem svs_6 (hT : SrtK s.things) (nT : s.things.length ≤ 600) (nP : s.pins.length ≤ 100) (hN : ∀ p ∈ s.pins, p.name.size ≤ 4611686018427387904) : Lqh (some 6) [.i 0, .i s.width, .i s.now, .i s.given, .i s.births, .l (encK s.things), .l (encP s.pins), .l (encL s.leases)]
    = if (∀ j, 0 ≤ j → j < s.pins.length → pP s.things s.pins j) then Lqh (some 11) [.i 0, .i s.width, .i s.now, .i s.given, .i s.births, .l (encK s.things), .l (encP s.pins), .l (encL s.leases)] else some [.b false] := by
  refine z9 (f := fun i : Nat => Lqh (some 6) [.i (i : Int), .i s.width, .i s.now, .i s.given, .i s.births, .l (encK s.things), .l (encP s.pins), .l (encL s.leases)]) (fun i hi => ?_) ?_ 0 (Nat.zero_le _)
  · show (_ → Lqh _ _ = Lqh _ _) ∧ (_ → Lqh _ _ = _)
    rw [eqh_6]
    have hf := zbu (T := s.things) (x := (nth P0 s.pins i).sum)
    have hfe := zd5 s.width s.now s.given s.births s.things (encP s.pins) (encL s.leases) (nth P0 s.pins i).sum hT (by omega)
    have hne := zhx (nth P0 s.pins i).name (hN _ (zl hi))
    unfold nameB at hne
    by_cases c2 : NameOk (nth P0 s.pins i).name
    rotate_left; · exact ⟨fun h => absurd h.nm c2, fun _ => by simp (disch := omega) only [push_cast, hne]⟩
    by_cases c0 : 0 < i
    · cases c4 : slt (nth P0 s.pins (i - 1)).name (nth P0 s.pins i).name
      · exact ⟨fun h => absurd (h.adj c0) (by simp [c4]), fun _ => by simp (disch := omega) only [push_cast, hne, c4]⟩
      · by_cases c1 : hasT s.things (nth P0 s.pins i).sum
        rotate_left; · exact ⟨fun h => absurd h.has c1, fun _ => by have := hf.2 c1; simp (disch := omega) only [push_cast, hne, c4, hfe]⟩
        have c1' : ¬ findT s.things (nth P0 s.pins i).sum < 0 := fun h => hf.1 h c1
        exact ⟨fun _ => by simp (disch := omega) only [push_cast, hne, c4, hfe] <;> rfl, fun h => absurd ⟨c1, c2, fun _ => c4⟩ h⟩
    · by_cases c1 : hasT s.things (nth P0 s.pins i).sum
      rotate_left; · exact ⟨fun h => absurd h.has c1, fun _ => by have := hf.2 c1; simp (disch := omega) only [push_cast, hne, hfe]⟩
      have c1' : ¬ findT s.things (nth P0 s.pins i).sum < 0 := fun h => hf.1 h c1
      exact ⟨fun _ => by simp (disch := omega) only [push_cast, hne, hfe] <;> rfl, fun h => absurd ⟨c1, c2, fun h => absurd h c0⟩ h⟩
  · show Lqh _ _ = _
    rw [eqh_6]; simp (disch := omega) only [push_cast]
theorem zmz (T : List Kept) : List.replicate 601 ([.b false] : List C) = near T 0 := by
  unfold near bsT
  simp only [List.take_zero, List.map_nil, List.not_mem_nil, decide_false]
  rw [List.map_const', List.length_range]
theorem zln (s : State) (hN : ∀ p ∈ s.pins, p.name.size ≤ 4611686018427387904) : Lqh none (encSt s) = some [.b (decide (VS s))] := by
  unfold encSt
  rw [eqh_i]
  have hv := zhm s
  by_cases h1 : 1 ≤ s.width ∧ s.width ≤ 8
  rotate_left; · rw [decide_eq_false fun V : VS s => h1 V.wd]; have : zm s.width = false := by cases h : zm s.width; { rfl }; { exact absurd (zbi.1 h) h1 }
                 simp (disch := omega) only [push_cast, zbe, this]
  have hw : zm s.width = true := zbi.2 h1
  by_cases h2 : 0 ≤ s.now ∧ s.now ≤ 1000000000
  rotate_left; · rw [decide_eq_false fun V : VS s => h2 V.now]; simp (disch := omega) only [push_cast, zbe, hw, zp]
  by_cases h3 : 0 ≤ s.given ∧ s.given ≤ 1000000000
  rotate_left; · rw [decide_eq_false fun V : VS s => h3 V.given]; simp (disch := omega) only [push_cast, zbe, hw, zp]
  by_cases h4 : 0 ≤ s.births ∧ s.births ≤ 1000000000
  rotate_left; · rw [decide_eq_false fun V : VS s => h4 V.births]; simp (disch := omega) only [push_cast, zbe, hw, zp]
  by_cases h5 : s.things.length ≤ 600
  rotate_left; · rw [decide_eq_false fun V : VS s => h5 V.nT]; simp (disch := omega) only [push_cast, zbe, hw, zp]
  by_cases h6 : s.pins.length ≤ 100
  rotate_left; · rw [decide_eq_false fun V : VS s => h6 V.nP]; simp (disch := omega) only [push_cast, zbe, hw, zp]
  by_cases h7 : s.leases.length ≤ 200
  rotate_left; · rw [decide_eq_false fun V : VS s => h7 V.nL]; simp (disch := omega) only [push_cast, zbe, hw, zp]
  have hto : Lqc none [.i s.width, .i s.now, .i s.given, .i s.births, .l (encK s.things), .l (encP s.pins), .l (encL s.leases)] = _ := (eqc_i _ _ _ _ _ _ _).trans ((by rw [zmz s.things]; rfl : _ = Lqc (some 4) [.i 0, .i s.width, .i s.now, .i s.given, .i s.births, .l (encK s.things), .l (encP s.pins), .l (encL s.leases), .l (near s.things 0), .l (encN (farL s.things 0))]).trans (sto_4 h5 h4))
  by_cases h8 : ∀ j, 0 ≤ j → j < s.things.length → tP s.width s.births s.things j
  rotate_left; · rw [if_neg h8] at hto; rw [decide_eq_false fun V : VS s => h8 (hv.1 V).2.2.2.2.2.2.2.1]; simp (disch := omega) only [push_cast, zbe, hw, zp, hto]
  have hs := (zfq _ _ _).1 h8
  rw [if_pos h8, zlv hs.1 h5 fun k hk => (hs.2.1 k hk).1.refs] at hto
  by_cases h9 : ∀ j, 0 ≤ j → j < s.things.length → ∀ i, 0 ≤ i → i < (nth K0 s.things j).thing.refs.length → refIn s.things (nth K0 s.things j).born (nth .empty (nth K0 s.things j).thing.refs i)
  rotate_left; · rw [if_neg h9] at hto; rw [decide_eq_false fun V : VS s => h9 (hv.1 V).2.2.2.2.2.2.2.2.1]; simp (disch := omega) only [push_cast, zbe, hw, zp, hto]
  rw [if_pos h9] at hto
  simp (disch := omega) only [push_cast, zbe, hw, zp, hto, svs_6 hs.1 h5 h6 hN]
  by_cases h10 : ∀ j, 0 ≤ j → j < s.pins.length → pP s.things s.pins j
  rotate_left; · rw [if_neg h10, decide_eq_false fun V : VS s => h10 (hv.1 V).2.2.2.2.2.2.2.2.2.1]
  rw [if_pos h10, zo1 h2 hs.1 h5 h7]
  by_cases h11 : ∀ j, 0 ≤ j → j < s.leases.length → lP s.now s.given s.things s.leases j
  rotate_left; · rw [if_neg h11, decide_eq_false fun V : VS s => h11 (hv.1 V).2.2.2.2.2.2.2.2.2.2]
  rw [if_pos h11, decide_eq_true (hv.2 ⟨h1, h2, h3, h4, h5, h6, h7, h8, h9, h10, h11⟩)]
end
end KV
end
section
namespace KV
open Go Go.Eng
open Classical
inductive Rch (T : List Kept) (F : List Bs) : Bs → Prop where
  | base (x : Bs) (h : x ∈ F) : Rch T F x
  | ref (k : Kept) (x : Bs) (hk : k ∈ T) (h : Rch T F k.sum) (hx : x ∈ k.thing.refs) : Rch T F x
def Liv (s : State) (x : Bs) : Prop := Rch s.things (zfg s) x
end KV
end
section
namespace KV
open Go Go.Eng
open Classical
theorem zng {s : State} {x : Bs} : x ∈ zfg s ↔ held s x := by
  unfold zfg held
  rw [zh5, zh5]
  simp only [List.mem_map, List.not_mem_nil, false_or]
structure CR (s : State) (r : Round) : Prop where
  t1 : ∀ x, held s x → x ∈ r.marked ∨ x ∈ r.queue
  t2 : ∀ k ∈ s.things, k.sum ∈ r.marked → ∀ y ∈ k.thing.refs, y ∈ r.marked ∨ y ∈ r.queue
  t3 : ∀ k ∈ s.things, r.at_ ≤ k.born → k.sum ∈ r.marked ∨ k.sum ∈ r.queue
  lm : ∀ x ∈ r.marked, Liv s x
  lq : ∀ x ∈ r.queue, Liv s x
theorem CR.all {s : State} {r : Round} (h : CR s r) (hq : r.queue = []) (V : VS s) {x : Bs} (hx : Liv s x) : x ∈ r.marked := by
  induction hx with
  | base x hx => have := h.t1 x (zng.1 hx); rw [hq] at this; exact this.resolve_right (fun h => nomatch h)
  | ref k x hk h1 hx ih => have := h.t2 k hk ih x hx; rw [hq] at this; exact this.resolve_right (fun h => nomatch h)
structure UK (s s' : State) : Prop where
  ints : s'.width = s.width ∧ s'.births = s.births ∧ s'.now = s.now ∧ s'.given = s.given
  pins : s'.pins = s.pins
  leases : s'.leases = s.leases
  sub : s'.things.Sublist s.things
  liv : ∀ x, Liv s' x ↔ Liv s x
theorem UK.trans {a b c : State} (h : UK a b) (k : UK b c) : UK a c := by
  obtain ⟨a1, a2, a3, a4⟩ := h.ints
  obtain ⟨b1, b2, b3, b4⟩ := k.ints
  exact ⟨⟨b1.trans a1, b2.trans a2, b3.trans a3, b4.trans a4⟩, k.pins.trans h.pins, k.leases.trans h.leases, k.sub.trans h.sub, fun x => (k.liv x).trans (h.liv x)⟩
end KV
end
section
namespace KV
open Go Go.Eng
open Classical
theorem GS.names {s : State} (h : GS s) : ∀ p ∈ s.pins, p.name.size ≤ 4611686018427387904 := h.bs.names
end KV
end
section
namespace KV
open Go Go.Eng
open Classical
def TX (w : Int) (l : List Bs) : Prop := ∀ n s, runL w (empty w) (l.take n) 0 = .inl s → ∀ k ∈ s.things, k.thing.text.size ≤ 20
theorem TX.nil (w : Int) : TX w [] := fun n s hn k hk => by
  rw [List.take_nil] at hn
  simp only [runL] at hn
  cases hn; cases hk
end KV
end
section

end
section
namespace KV
open Go Go.Eng
open Classical
def Zs : State := ⟨0, 0, 0, 0, [], [], []⟩
noncomputable def zk (s : State) (e : Entry) : Out := if VS s ∧ zj e s.width = true then chg s e else fail Zs 1
def stA (o : Out) : State := if o.code = 0 then o.st else Zs
theorem zkb {s : State} (hN : ∀ p ∈ s.pins, p.name.size ≤ 4611686018427387904) (e : Entry) (hn : e.name.size ≤ 4611686018427387904) :
    Lqce none [.i s.width, .i s.now, .i s.given, .i s.births, .l (encK s.things), .l (encP s.pins), .l (encL s.leases), .i e.kind, .s e.sum, .s e.name, .i e.number, .s e.thing.text, .l (encS e.thing.refs)] = some [.i (zk s e).code, .i (stA (zk s e)).width, .i (stA (zk s e)).now, .i (stA (zk s e)).given, .i (stA (zk s e)).births, .s (zk s e).sum, .i (zk s e).lease, .s (zk s e).a, .s (zk s e).b, .l (encK (stA (zk s e)).things), .l (encP (stA (zk s e)).pins), .l (encL (stA (zk s e)).leases)] := by
  have hv := zk8 s hN
  have he := zmg e s.width hn
  have he' : Lqe none [.i e.kind, .s e.sum, .s e.name, .i e.number, .s e.thing.text, .l (encS e.thing.refs), .i s.width] = _ := he
  unfold encSt at hv
  rw [eqce_i]
  unfold zk
  by_cases V : VS s
  rotate_left
  · rw [decide_eq_false V] at hv
    rw [if_neg fun h => V h.1]
    simp (disch := omega) only [push_cast, hv]; rfl
  rw [decide_eq_true V] at hv
  by_cases c : zj e s.width = true
  rotate_left
  · rw [if_neg fun h => c h.2]
    rw [Bool.not_eq_true] at c
    rw [c] at he'
    simp (disch := omega) only [push_cast, hv, he']; rfl
  rw [if_pos ⟨V, c⟩]
  rw [c] at he'
  have n1 := V.nT; have n2 := V.nP; have n3 := V.nL
  have hcs := zm5 s.width s.now s.given s.births s.things (encP s.pins) (encL s.leases) (by omega) (fun k hk => by have := (V.okT k hk).1.refs; omega) (by rw [zbj]; omega) (by rw [zbq]; omega)
  have hch : Lqa none [.i e.kind, .s e.sum, .s e.name, .i e.number, .s e.thing.text, .l (encS e.thing.refs), .i s.width, .i s.now, .i s.given, .i s.births, .l (encK s.things), .l (encP s.pins), .l (encL s.leases)] = some (zt (chg s e)) := zle V c
  unfold zt at hch
  by_cases h0 : (chg s e).code = 0
  · have : stA (chg s e) = (chg s e).st := if_pos h0
    rw [this]
    simp (disch := omega) only [push_cast, hv, he', hcs, hch]
  · have : stA (chg s e) = Zs := if_neg h0
    rw [this]
    simp (disch := omega) only [push_cast, hv, he', hcs, hch]; rfl
theorem zpf {s : State} (hN : ∀ p ∈ s.pins, p.name.size ≤ 4611686018427387904) (e : Entry) (hn : e.name.size ≤ 4611686018427387904) :
    Lqcn none [.i s.width, .i s.now, .i s.given, .i s.births, .l (encK s.things), .l (encP s.pins), .l (encL s.leases), .i e.kind, .s e.sum, .s e.name, .i e.number, .s e.thing.text, .l (encS e.thing.refs)] = some [.i (zk s e).code, .i (stA (zk s e)).width, .i (stA (zk s e)).now, .i (stA (zk s e)).given, .i (stA (zk s e)).births, .s (zk s e).sum, .i (zk s e).lease, .s (zk s e).a, .s (zk s e).b, .l (encK (stA (zk s e)).things), .l (encP (stA (zk s e)).pins), .l (encL (stA (zk s e)).leases)] := by
  have hv := zln s hN
  have he := zmr e s.width hn
  have he' : Lqq none [.i e.kind, .s e.sum, .s e.name, .i e.number, .s e.thing.text, .l (encS e.thing.refs), .i s.width] = _ := he
  unfold encSt at hv
  rw [eqcn_i]
  unfold zk
  by_cases V : VS s
  rotate_left
  · rw [decide_eq_false V] at hv
    rw [if_neg fun h => V h.1]
    simp (disch := omega) only [push_cast, hv]; rfl
  rw [decide_eq_true V] at hv
  by_cases c : zj e s.width = true
  rotate_left
  · rw [if_neg fun h => c h.2]
    rw [Bool.not_eq_true] at c
    rw [c] at he'
    simp (disch := omega) only [push_cast, hv, he']; rfl
  rw [if_pos ⟨V, c⟩]
  rw [c] at he'
  have n1 := V.nT; have n2 := V.nP; have n3 := V.nL
  have hcs := zer s.width s.now s.given s.births s.things (encP s.pins) (encL s.leases) (by omega) (fun k hk => by have := (V.okT k hk).1.refs; omega) (by rw [zbj]; omega) (by rw [zbq]; omega)
  have hch := zk3 V c
  unfold zb5 at hch
  by_cases h0 : (chg s e).code = 0
  · have hst : stA (chg s e) = (chg s e).st := if_pos h0
    have V' := zfv V c h0
    have m1 := V'.nT; have m2 := V'.nP; have m3 := V'.nL
    have hcs2 := zer (chg s e).st.width (chg s e).st.now (chg s e).st.given (chg s e).st.births (chg s e).st.things (encP (chg s e).st.pins) (encL (chg s e).st.leases) (by omega) (fun k hk => by have := (V'.okT k hk).1.refs; omega) (by rw [zbj]; omega) (by rw [zbq]; omega)
    rw [zly h0] at hch
    rw [hst]
    simp (disch := omega) only [push_cast, hv, he', hcs, hch, hcs2, h0]
  · have hst : stA (chg s e) = Zs := if_neg h0
    have hcs2 := zer 0 0 0 0 [] [] [] (Nat.zero_le _) (fun k hk => nomatch hk) (Nat.zero_le _) (Nat.zero_le _)
    have c1 : (encK ([] : List Kept)) = [] := rfl
    rw [c1] at hcs2
    rw [zks h0] at hch
    rw [hst]
    simp (disch := omega) only [push_cast, hv, he', hcs, hch, hcs2]; rfl
end KV
end
section
namespace KV
open Go Go.Eng
open Classical
theorem zn5 {e : Entry} {left y : Int} (h1 : left ≤ 1048576) (h : Lqbu none [.i e.kind, .s e.sum, .s e.name, .i e.number, .s e.thing.text, .l (encS e.thing.refs), .i left] = some [.i y]) (b1 : e.sum.size ≤ 140737488351232) (b2 : e.name.size ≤ 140737488351232) (hl : 0 ≤ left) (hy : 0 ≤ y) : e.name.size ≤ 1048576 := by
  by_cases c1 : left - (e.sum.size : Int) < 0
  · rw [eqbu_i] at h
    have : Lqbu none [.i e.kind, .s e.sum, .s e.name, .i e.number, .s e.thing.text, .l (encS e.thing.refs), .i left] = some [.i (-1)] := by rw [eqbu_i]; simp (disch := omega) only [push_cast]
    rw [eqbu_i, h] at this
    cases this; omega
  by_cases c2 : left - (e.sum.size : Int) - (e.name.size : Int) < 0
  · rw [eqbu_i] at h
    have : Lqbu none [.i e.kind, .s e.sum, .s e.name, .i e.number, .s e.thing.text, .l (encS e.thing.refs), .i left] = some [.i (-1)] := by rw [eqbu_i]; simp (disch := omega) only [push_cast]
    rw [eqbu_i, h] at this
    cases this; omega
  omega
theorem zl9 {s : State} (e : Entry) : Few (stA (zk s e)) := by
  unfold stA zk
  by_cases c : VS s ∧ zj e s.width = true
  · rw [if_pos c]
    split
    · rename_i h; exact (zfv c.1 c.2 h).few
    · exact Few.nil
  · rw [if_neg c]
    split
    · exact Few.nil
    · exact Few.nil
theorem zon (s : State) (e : Entry) (B : BigS s) (Be : BigE e) : Lqc2 none [.i s.width, .i s.now, .i s.given, .i s.births, .l (encK s.things), .l (encP s.pins), .l (encL s.leases), .i e.kind, .s e.sum, .s e.name, .i e.number, .s e.thing.text, .l (encS e.thing.refs)] = some [.b true] := by
  rw [eqc2_i]
  obtain ⟨y, y1, y2, y3⟩ := zmc s B 1048576 (by omega) (by omega)
  by_cases hy : y < 0
  · simp (disch := omega) only [push_cast, y1]
  have H := y3 (by omega)
  obtain ⟨z, z1, z2, z3⟩ := zj7 e Be.sum Be.name Be.text Be.refs y (by omega) (by omega)
  by_cases hz : z < 0
  · simp (disch := omega) only [push_cast, y1, z1]
  have R := z3 (by omega)
  have hn := zn5 (by omega) z1 Be.sum Be.name (by omega) (by omega)
  have o1 := zpf H.names e (by omega)
  have o2 := zkb H.names e (by omega)
  have F := zl9 (s := s) e
  generalize stA (zk s e) = t at o1 o2 F
  generalize zk s e = o at o1 o2
  obtain ⟨n, T', P', L', m1, m2, m3⟩ := H.mark 1 (by omega) (by omega)
  obtain ⟨k, ys, r1, r2⟩ := zod e R n (by omega) (by omega)
  obtain ⟨m, T, P, L, k0, k1, k2⟩ := zpe F o.code o.sum o.lease o.a o.b
  simp (disch := omega) only [push_cast, y1, z1, zm8 H, znq R, o1, o2, zj8 F o.code o.sum o.lease o.a o.b, H.eq, zkl R, m1, r1, k1, k2]
end KV
end
