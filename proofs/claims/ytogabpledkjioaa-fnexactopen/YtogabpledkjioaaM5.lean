/- Plain laws over the walks' closed forms. -/
import Derived.IntWalk
import Derived.WideShapes
import Derived.Laws.Strings
import Derived.Test.YtogabpledkjioaaM1
import Derived.Test.YtogabpledkjioaaM2
import Derived.Test.YtogabpledkjioaaM3
import Derived.Test.YtogabpledkjioaaM4
set_option linter.unusedSimpArgs false
set_option linter.unusedVariables false
set_option linter.unusedSectionVars false
section
namespace KV
open Go Go.Eng
abbrev Bs := ByteArray
theorem w64 {n : Int} (h : -9223372036854775808 ≤ n ∧ n ≤ 9223372036854775807) : IntKind.i64.wrap n = n := IntWalk.i64_in n h
theorem w8 {n : Int} (h : 0 ≤ n ∧ n ≤ 255) : IntKind.u8.wrap n = n := IntWalk.u8_in n h
theorem inb_f {i : Int} {n : Nat} (h : i < 0 ∨ (n : Int) ≤ i) : inb i n = false := by
  simp only [inb, Bool.and_eq_false_iff, decide_eq_false_iff_not]; omega
theorem dlt_f {i n : Nat} (h : n ≤ i) : decide ((i : Int) < (n : Int)) = false := by simp; omega
theorem zlb (x y : Bs) : Eng.seq x y = decide (x = y) := by
  unfold Eng.seq
  rw [ByteArray.toList_eq, ByteArray.toList_eq]
  by_cases h : x = y
  · subst h; simp
  · simp only [h, decide_false, beq_eq_false_iff_ne]
    exact fun e => h (Go.WideShapes.bytes_inj e)
theorem zhy : ∀ x : List UInt8, Op.bytesLess x x = false
  | [] => rfl
  | a :: x => by simp [Op.bytesLess, zhy x]
theorem zh9 : ∀ {x y z : List UInt8}, Op.bytesLess x y = true → Op.bytesLess y z = true → Op.bytesLess x z = true
  | [], [], _, h, _ => by simp [Op.bytesLess] at h
  | [], _ :: _, [], _, h => by simp [Op.bytesLess] at h
  | [], _ :: _, _ :: _, _, _ => rfl
  | _ :: _, [], _, h, _ => by simp [Op.bytesLess] at h
  | _ :: _, _ :: _, [], _, h => by simp [Op.bytesLess] at h
  | a :: x, b :: y, c :: z, h, k => by
    simp only [Op.bytesLess, Bool.or_eq_true, decide_eq_true_eq, Bool.and_eq_true, beq_iff_eq] at h k ⊢
    rcases h with h | ⟨rfl, h⟩ <;> rcases k with k | ⟨rfl, k⟩
    · exact .inl (UInt8.lt_trans h k)
    · exact .inl h
    · exact .inl k
    · exact .inr ⟨rfl, zh9 h k⟩
theorem zg0 : ∀ (x y : List UInt8), Op.bytesLess x y = true ∨ x = y ∨ Op.bytesLess y x = true
  | [], [] => .inr (.inl rfl)
  | [], _ :: _ => .inl rfl
  | _ :: _, [] => .inr (.inr rfl)
  | a :: x, b :: y => by
    simp only [Op.bytesLess, Bool.or_eq_true, decide_eq_true_eq, Bool.and_eq_true, beq_iff_eq, List.cons.injEq]
    rcases zg0 x y with h | h | h
    · rcases Nat.lt_trichotomy a.toNat b.toNat with k | k | k
      · exact .inl (.inl (UInt8.lt_iff_toNat_lt.2 k))
      · exact .inl (.inr ⟨UInt8.toNat_inj.1 k, h⟩)
      · exact .inr (.inr (.inl (UInt8.lt_iff_toNat_lt.2 k)))
    · rcases Nat.lt_trichotomy a.toNat b.toNat with k | k | k
      · exact .inl (.inl (UInt8.lt_iff_toNat_lt.2 k))
      · exact .inr (.inl ⟨UInt8.toNat_inj.1 k, h⟩)
      · exact .inr (.inr (.inl (UInt8.lt_iff_toNat_lt.2 k)))
    · rcases Nat.lt_trichotomy a.toNat b.toNat with k | k | k
      · exact .inl (.inl (UInt8.lt_iff_toNat_lt.2 k))
      · exact .inr (.inr (.inr ⟨(UInt8.toNat_inj.1 k).symm, h⟩))
      · exact .inr (.inr (.inl (UInt8.lt_iff_toNat_lt.2 k)))
theorem zdd (x : Bs) : slt x x = false := zhy _
theorem zb2 {x y z : Bs} (h : slt x y = true) (k : slt y z = true) : slt x z = true := zh9 h k
theorem zos (x y : Bs) : slt x y = true ∨ x = y ∨ slt y x = true := by
  rcases zg0 x.toList y.toList with h | h | h
  · exact .inl h
  · rw [ByteArray.toList_eq, ByteArray.toList_eq] at h; exact .inr (.inl (Go.WideShapes.bytes_inj h))
  · exact .inr (.inr h)
theorem zm7 {x y : Bs} (h : slt x y = true) : x ≠ y := fun e => by rw [e, zdd] at h; cases h
theorem zk7 {x y : Bs} (h : slt x y = true) : slt y x = false := by
  cases k : slt y x
  · rfl
  · have := zb2 h k; rw [zdd] at this; cases this
theorem zi4 {x y : Bs} : slt x y = false ↔ x = y ∨ slt y x = true := by
  constructor
  · intro h; rcases zos x y with k | k | k
    · rw [h] at k; cases k
    · exact .inl k
    · exact .inr k
  · rintro (rfl | h)
    · exact zdd _
    · exact zk7 h
theorem zko {α : Type} (f : α → List C) (l : List α) (i o : Nat) (h : i < l.length) : rd (l.map f) i o = (f l[i]).getD o (.i 0) := by
  simp [rd, List.getD_eq_getElem?_getD, h]
theorem zfx {α : Type} (f : α → List C) (l : List α) (a b : Nat) : Eng.sub (l.map f) a b = ((l.drop a).take (b - a)).map f := by
  simp [Eng.sub, List.map_take, List.map_drop]
def encS (l : List Bs) : Rw := l.map fun s => [.s s]
theorem zl (l : List Bs) : (encS l).length = l.length := by simp [encS]
theorem zep (l m : List Bs) : encS l ++ encS m = encS (l ++ m) := by simp [encS]
@[push_cast] theorem cpos {p : Prop} [Decidable p] {α : Type} {a b : α} (h : p) : cond (decide p) a b = a := by simp [h]
@[push_cast] theorem cneg {p : Prop} [Decidable p] {α : Type} {a b : α} (h : ¬ p) : cond (decide p) a b = b := by simp [h]
@[push_cast] theorem cnot {α : Type} (c : Bool) (a b : α) : cond (!c) a b = cond c b a := by cases c <;> rfl
attribute [push_cast] cond_true cond_false Option.bind_some Option.bind_none Int.toNat_natCast
@[push_cast] theorem notT : (!true) = false := Eq.trans rfl rfl
@[push_cast] theorem notF : (!false) = true := Eq.trans rfl rfl
@[push_cast] theorem g0 (a : Lf) (l : List Lf) : g (a :: l) 0 = a := Eq.trans rfl rfl
@[push_cast] theorem g1 (a b : Lf) (l : List Lf) : g (a :: b :: l) 1 = b := Eq.trans rfl rfl
@[push_cast] theorem g2 (a b c : Lf) (l : List Lf) : g (a :: b :: c :: l) 2 = c := Eq.trans rfl rfl
@[push_cast] theorem g3 (a b c d : Lf) (l : List Lf) : g (a :: b :: c :: d :: l) 3 = d := Eq.trans rfl rfl
@[push_cast] theorem g4 (a b c d e : Lf) (l : List Lf) : g (a :: b :: c :: d :: e :: l) 4 = e := Eq.trans rfl rfl
@[push_cast] theorem g5 (a b c d e f : Lf) (l : List Lf) : g (a :: b :: c :: d :: e :: f :: l) 5 = f := Eq.trans rfl rfl
@[push_cast] theorem g6 (a b c d e f h : Lf) (l : List Lf) : g (a :: b :: c :: d :: e :: f :: h :: l) 6 = h := Eq.trans rfl rfl
@[push_cast] theorem gS (a b c d e f h : Lf) (l : List Lf) (n : Nat) : g (a :: b :: c :: d :: e :: f :: h :: l) (n + 7) = g l n := Eq.trans rfl rfl
@[push_cast] theorem lfI (n : Int) : (Lf.i n).int = n := Eq.trans rfl rfl
@[push_cast] theorem lfB (n : Bool) : (Lf.b n).bool = n := Eq.trans rfl rfl
@[push_cast] theorem lfS (n : ByteArray) : (Lf.s n).str = n := Eq.trans rfl rfl
@[push_cast] theorem lfL (n : Rw) : (Lf.l n).list = n := Eq.trans rfl rfl
@[push_cast] theorem lfM (n : List (C × C)) : (Lf.m n).map = n := Eq.trans rfl rfl
attribute [push_cast] w64 w8
@[push_cast] theorem inbp {i : Int} {n : Nat} (h : 0 ≤ i ∧ i < (n : Int)) : inb i n = true := by simp [inb, h]
@[push_cast] theorem inbn {i : Int} {n : Nat} (h : ¬ (0 ≤ i ∧ i < (n : Int))) : inb i n = false := inb_f (by omega)
@[push_cast] theorem tnA (i : Nat) : ((i : Int) + 1).toNat = i + 1 := by omega
@[push_cast] theorem tnM (i : Nat) : ((i : Int) - 1).toNat = i - 1 := by omega
@[push_cast] theorem bneI (a b : Int) : (a != b) = !decide (a = b) := by
  by_cases h : a = b
  · subst h; simp
  · simp [h]
@[push_cast] theorem beqI (a b : Int) : (a == b) = decide (a = b) := by
  by_cases h : a = b
  · subst h; simp
  · simp [h]
attribute [push_cast] zlb zl
@[push_cast] theorem lenC {α : Type} (a : α) (l : List α) : (a :: l).length = l.length + 1 := Eq.trans rfl rfl
@[push_cast] theorem lenN {α : Type} : ([] : List α).length = 0 := Eq.trans rfl rfl
@[push_cast] theorem ifT {α : Type} (a b : α) : (if True then a else b) = a := if_pos trivial
@[push_cast] theorem ifF {α : Type} (a b : α) : (if False then a else b) = b := if_neg id
@[push_cast] theorem ftE : (false = true) = False := by simp
attribute [push_cast] eq_self
@[push_cast] theorem decT [Decidable True] : decide True = true := by simp
@[push_cast] theorem decF [Decidable False] : decide False = false := by simp
def nth {α : Type} (d : α) (l : List α) (i : Nat) : α := l.getD i d
theorem zgd {α : Type} (d x : α) (l : List α) : nth d (x :: l) 0 = x := rfl
theorem zco {α : Type} (d x : α) (l : List α) (i : Nat) : nth d (x :: l) (i + 1) = nth d l i := rfl
theorem zo {α : Type} (d : α) (l : List α) (i : Nat) (h : i < l.length) : nth d l i = l[i] := by
  unfold nth; rw [List.getD_eq_getElem?_getD, List.getElem?_eq_getElem h]; rfl
theorem zlz {α : Type} {d : α} {l : List α} {i : Nat} (h : i < l.length) : l[i]? = some (nth d l i) := by
  rw [zo d l i h, List.getElem?_eq_getElem h]
theorem zw {α : Type} {l : List α} {i : Nat} {d : α} (h : i < l.length) : nth d l i ∈ l := by
  rw [zo d l i h]; exact List.getElem_mem h
theorem zdt {α : Type} {l : List α} {x : α} (d : α) (h : x ∈ l) : ∃ i, i < l.length ∧ nth d l i = x := by
  obtain ⟨i, h1, h2⟩ := List.mem_iff_getElem.1 h
  exact ⟨i, h1, by rw [zo d l i h1]; exact h2⟩
theorem zcg {α : Type} (d : α) {l : List α} {i : Nat} (h : i < l.length) : l.drop i = nth d l i :: l.drop (i + 1) := by
  rw [List.drop_eq_getElem_cons h, zo d l i h]
theorem zbl {α : Type} (d : α) {l : List α} {i : Nat} (h : i < l.length) : l.take (i + 1) = l.take i ++ [nth d l i] := by
  rw [List.take_add_one, zlz (d := d) h]; rfl
theorem zgo {α : Type} (f : α → List C) (d : α) (l : List α) (i o : Nat) (h : i < l.length) : rd (l.map f) i o = (f (nth d l i)).getD o (.i 0) := by
  rw [zko f l i o h, zo d l i h]
theorem zi2 {α : Type} (f : α → List C) (l : List α) (i o : Nat) (h : l.length ≤ i) : rd (l.map f) i o = .i 0 := by
  have : (l.map f).getD i [] = [] := by
    rw [List.getD_eq_getElem?_getD, List.getElem?_eq_none (by simpa using h)]; rfl
  unfold rd
  rw [this]; rfl
@[push_cast] theorem zp2 (l : List Bs) (i : Nat) : (rd (encS l) i 0).str = nth .empty l i := by
  rcases Nat.lt_or_ge i l.length with h | h
  · rw [encS, zgo _ .empty _ _ _ h]; rfl
  · rw [encS, zi2 _ _ _ _ h, nth, List.getD_eq_getElem?_getD, List.getElem?_eq_none h]; rfl
end KV
end
section

end
section
namespace KV
open Go Go.Eng
open Classical in
theorem zb8 {β : Type} {f : Nat → β} {P : Nat → Prop} {n : Nat} {T F : β} (step : ∀ i, i < n → (P i → f i = f (i + 1)) ∧ (¬ P i → f i = F)) (last : f n = T) :
    ∀ i, i ≤ n → f i = if (∀ j, i ≤ j → j < n → P j) then T else F := by
  intro i hi
  generalize hk : n - i = k
  induction k generalizing i with
  | zero =>
    have : i = n := by omega
    subst this
    rw [if_pos (fun j h1 h2 => absurd h2 (by omega)), last]
  | succ k ih =>
    have hlt : i < n := by omega
    by_cases h : P i
    · rw [(step i hlt).1 h, ih (i + 1) (by omega) (by omega)]
      by_cases h2 : ∀ j, i + 1 ≤ j → j < n → P j
      · rw [if_pos h2, if_pos fun j h3 h4 => by
          rcases Nat.eq_or_lt_of_le h3 with rfl | h5
          · exact h
          · exact h2 j h5 h4]
      · rw [if_neg h2, if_neg fun h3 => h2 fun j h4 h5 => h3 j (by omega) h5]
    · rw [(step i hlt).2 h, if_neg fun h3 => h (h3 i (Nat.le_refl _) hlt)]
theorem zjh {β σ : Type} {f : Nat → σ → β} {g : Nat → σ → σ} {n : Nat} (step : ∀ i s, i < n → f i s = f (i + 1) (g i s)) :
    ∀ i, i ≤ n → ∀ s, f i s = f n ((List.range' i (n - i)).foldl (fun s i => g i s) s) := by
  intro i hi
  generalize hk : n - i = k
  induction k generalizing i with
  | zero =>
    intro s
    have : i = n := by omega
    subst this; rfl
  | succ k ih =>
    intro s
    rw [step i s (by omega), ih (i + 1) (by omega) (by omega)]
    rfl
theorem zr {β σ : Type} {f : Nat → σ → β} {I : Nat → σ → Prop} {n : Nat} {T : β} (step : ∀ i s, i < n → I i s → ∃ s', f i s = f (i + 1) s' ∧ I (i + 1) s') (last : ∀ s, I n s → f n s = T) :
    ∀ i s, i ≤ n → I i s → f i s = T := by
  intro i s hi
  generalize hk : n - i = k
  induction k generalizing i s with
  | zero =>
    intro h
    have : i = n := by omega
    subst this; exact last s h
  | succ k ih =>
    intro h
    obtain ⟨s', h1, h2⟩ := step i s (by omega) h
    rw [h1]; exact ih (i + 1) s' (by omega) (by omega) h2
theorem zcu {β σ : Type} {f : Nat → σ → β} {I : Nat → σ → Prop} {n : Nat} {T : β → Prop} (step : ∀ i s, i < n → I i s → (∃ s', f i s = f (i + 1) s' ∧ I (i + 1) s') ∨ T (f i s)) (last : ∀ s, I n s → T (f n s)) :
    ∀ i s, i ≤ n → I i s → T (f i s) := by
  intro i s hi
  generalize hk : n - i = k
  induction k generalizing i s with
  | zero =>
    intro h
    have : i = n := by omega
    subst this; exact last s h
  | succ k ih =>
    intro h
    rcases step i s (by omega) h with ⟨s', h1, h2⟩ | h1
    · rw [h1]; exact ih (i + 1) s' (by omega) (by omega) h2
    · exact h1
theorem zbd (xs ys : Rw) : bytesOf (xs ++ ys) = bytesOf xs ++ bytesOf ys := by
  apply Go.WideShapes.bytes_inj
  simp [bytesOf, ByteArray.data_append]
theorem zci (s : Bs) : bytesOf (rowsOf s) = s := by
  apply Go.WideShapes.bytes_inj
  simp only [bytesOf, rowsOf, List.map_map]
  rw [show ((fun r : List C => UInt8.ofNat (r.getD 0 (.i 0)).int.toNat) ∘ fun b : UInt8 => [C.i (b.toNat : Int)]) = id from funext fun b => by simp only [Function.comp, List.getD_cons_zero, C.int, Int.toNat_natCast, UInt8.ofNat_toNat, id]]
  simp only [List.map_id, Array.toArray_toList]
theorem zdl (xs : Rw) : (bytesOf xs).size = xs.length := by
  show (xs.map _).toArray.size = _
  simp only [List.size_toArray, List.length_map]
theorem zdw (s : Bs) : (rowsOf s).length = s.size := by
  show (s.data.toList.map _).length = s.data.size
  simp only [List.length_map, Array.length_toList]
theorem zm (s : Bs) (n : Nat) : 0 ≤ byteAt s n ∧ byteAt s n < 256 := by
  unfold byteAt
  generalize s.data.getD n 0 = b
  have := b.toNat_lt
  omega
theorem size_extract (s : Bs) (a b : Nat) : (s.extract a b).size = min b s.size - a := ByteArray.size_extract
theorem zbn (s t : Bs) : (s ++ t).size = s.size + t.size := ByteArray.size_append
theorem zo2 {s : Bs} : s.size = 0 ↔ s = (⟨#[]⟩ : Bs) := by
  constructor
  · intro h
    apply Go.WideShapes.bytes_inj
    have h : s.data.size = 0 := h
    have := Array.eq_empty_of_size_eq_zero h
    rw [this]
  · rintro rfl; rfl
end KV
end
section
namespace KV
open Go Go.Eng
open Classical
def zj (w : Int) : Bool := decide (1 ≤ w) && decide (w ≤ 8)
theorem zbe {w : Int} : zj w = true ↔ 1 ≤ w ∧ w ≤ 8 := by simp [zj]
theorem zc9 (w : Int) : Lqp none [.i w] = some [.b (zj w)] := by
  rw [eqp_i]; unfold zj
  cases decide (1 ≤ w) <;> rfl
theorem zbq (w : Int) : Lqf none [.i w] = some [.b (zj w)] := by
  rw [eqf_i]; unfold zj
  cases decide (1 ≤ w) <;> rfl
structure Thing where
  text : Bs
  refs : List Bs
def Asc (l : List Bs) : Prop := l.Pairwise fun a b => slt a b = true
theorem zo0 (l : List Bs) : Asc l ↔ ∀ j, 0 < j → j < l.length → slt (nth .empty l (j - 1)) (nth .empty l j) = true := by
  induction l with
  | nil => exact ⟨fun _ j _ h => absurd h (by simp), fun _ => List.Pairwise.nil⟩
  | cons a l ih =>
    unfold Asc at ih ⊢
    rw [List.pairwise_cons, ih]
    constructor
    · rintro ⟨h1, h2⟩ j hj hl
      cases j with
      | zero => omega
      | succ j =>
        simp only [Nat.add_sub_cancel, zco]
        cases j with
        | zero =>
          simp only [List.length_cons] at hl
          exact h1 _ (zw (by omega))
        | succ j =>
          simp only [zco]
          simp only [List.length_cons] at hl
          exact h2 (j + 1) (by omega) (by omega)
    · intro h
      have h2 : ∀ j, 0 < j → j < l.length → slt (nth .empty l (j - 1)) (nth .empty l j) = true := fun j hj hl => by
        have := h (j + 1) (by omega) (by simp; omega)
        cases j with
        | zero => omega
        | succ j => simpa [zco, zgd] using this
      refine ⟨fun b hb => ?_, h2⟩
      obtain ⟨i, hi, rfl⟩ := zdt .empty hb
      clear hb
      induction i with
      | zero => have := h 1 (by omega) (by simp; omega); simpa [zco, zgd] using this
      | succ i ihi => exact zb2 (ihi (by omega)) (h2 (i + 1) (by omega) hi)
structure ThingOk (t : Thing) (w : Int) : Prop where
  wd : 1 ≤ w ∧ w ≤ 8
  text : t.text.size ≤ 2000
  refs : t.refs.length ≤ 30
  size : ∀ r ∈ t.refs, (r.size : Int) = w
  asc : Asc t.refs
noncomputable def zu (t : Thing) (w : Int) : Bool := decide (ThingOk t w)
theorem zcc {t : Thing} {w : Int} : zu t w = true ↔ ThingOk t w := by simp [zu]
def refP (l : List Bs) (w : Int) (j : Nat) : Prop := ((nth .empty l j).size : Int) = w ∧ (0 < j → slt (nth .empty l (j - 1)) (nth .empty l j) = true)
theorem zni (l : List Bs) (w : Int) : (∀ j, 0 ≤ j → j < l.length → refP l w j) ↔ (∀ r ∈ l, (r.size : Int) = w) ∧ Asc l := by
  rw [zo0]
  constructor
  · intro h
    refine ⟨fun r hr => ?_, fun j h1 h2 => (h j (by omega) h2).2 h1⟩
    obtain ⟨i, hi, rfl⟩ := zdt .empty hr
    exact (h i (by omega) hi).1
  · rintro ⟨h1, h2⟩ j _ hj
    exact ⟨h1 _ (zw hj), fun h => h2 j h hj⟩
theorem zpi (l : List Bs) (x : Bs) (w : Int) (hl : l.length ≤ 30) : ∀ i : Nat, i ≤ l.length →
    Lqv (some 4) [.i w, .l (encS l), .i (l.length : Int), .i (i : Int), .s x, .l (encS l)] = if (∀ j, i ≤ j → j < l.length → refP l w j) then some [.b (zj w)] else some [.b false] := by
  refine zb8 (f := fun i : Nat => Lqv (some 4) [.i w, .l (encS l), .i (l.length : Int), .i (i : Int), .s x, .l (encS l)]) (fun i hi => ?_) ?_
  · show (_ → Lqv _ _ = _) ∧ (_ → Lqv _ _ = _)
    rw [eqv_4]
    unfold refP
    by_cases h0 : 0 < i <;> by_cases h1 : ((nth .empty l i).size : Int) = w <;> simp (disch := omega) only [push_cast]
    · cases slt (nth .empty l (i - 1)) (nth .empty l i) <;> simp [h0, h1]
    · simp [h1]
    · simp [h0, h1]
    · simp [h1]
  · show Lqv _ _ = _
    rw [eqv_4]; simp (disch := omega) only [push_cast, zc9]
theorem zcp (t : Thing) (w : Int) : ThingOk t w ↔ zj w = true ∧ t.text.size ≤ 2000 ∧ t.refs.length ≤ 30 ∧ ∀ j, 0 ≤ j → j < t.refs.length → refP t.refs w j := by
  rw [zni, zbe]
  exact ⟨fun h => ⟨h.wd, h.text, h.refs, h.size, h.asc⟩, fun h => ⟨h.1, h.2.1, h.2.2.1, h.2.2.2.1, h.2.2.2.2⟩⟩
theorem ziv (t : Thing) (w : Int) : Lqv none [.s t.text, .l (encS t.refs), .i w] = some [.b (zu t w)] := by
  rw [eqv_i, zl]
  by_cases h1 : t.text.size ≤ 2000
  · by_cases h2 : t.refs.length ≤ 30
    · rw [show decide ((2000 : Int) < (t.text.size : Int)) = false by simp; omega, show decide ((30 : Int) < (t.refs.length : Int)) = false by simp; omega]
      simp only [cond_false]
      have := zpi t.refs t.text w h2 0 (Nat.zero_le _)
      rw [show ((0 : Nat) : Int) = 0 from rfl] at this
      rw [this]
      unfold zu
      by_cases h3 : ∀ j, 0 ≤ j → j < t.refs.length → refP t.refs w j
      · rw [if_pos h3]; congr 3
        cases hw : zj w
        · exact (decide_eq_false fun h => by rw [zcp, hw] at h; cases h.1).symm
        · exact (decide_eq_true ((zcp t w).2 ⟨hw, h1, h2, h3⟩)).symm
      · rw [if_neg h3, decide_eq_false fun h => h3 ((zcp t w).1 h).2.2.2]
    · rw [show decide ((2000 : Int) < (t.text.size : Int)) = false by simp; omega, show decide ((30 : Int) < (t.refs.length : Int)) = true by simp; omega]
      simp only [cond_false, cond_true]
      unfold zu
      rw [decide_eq_false fun h => h2 h.refs]
  · rw [show decide ((2000 : Int) < (t.text.size : Int)) = true by simp; omega]
    simp only [cond_true]
    unfold zu
    rw [decide_eq_false fun h => h1 h.text]
theorem zlm (l : List Bs) (x : Bs) (w : Int) (hl : l.length ≤ 30) : ∀ i : Nat, i ≤ l.length →
    Lqo (some 4) [.i w, .i (i : Int), .s x, .l (encS l)] = if (∀ j, i ≤ j → j < l.length → refP l w j) then some [.b true] else some [.b false] := by
  refine zb8 (f := fun i : Nat => Lqo (some 4) [.i w, .i (i : Int), .s x, .l (encS l)]) (fun i hi => ?_) ?_
  · show (_ → Lqo _ _ = _) ∧ (_ → Lqo _ _ = _)
    rw [eqo_4]
    unfold refP
    by_cases h0 : 0 < i <;> by_cases h1 : ((nth .empty l i).size : Int) = w <;> simp (disch := omega) only [push_cast]
    · cases slt (nth .empty l (i - 1)) (nth .empty l i) <;> simp [h0, h1]
    · simp [h1]
    · simp [h0, h1]
    · simp [h1]
  · show Lqo _ _ = _
    rw [eqo_4]; simp (disch := omega) only [push_cast]
theorem zgn (t : Thing) (w : Int) : Lqo none [.s t.text, .l (encS t.refs), .i w] = some [.b (zu t w)] := by
  rw [eqo_i, zbq, zl]
  simp only [Option.bind_some, g, List.getD_cons_zero, Lf.bool]
  unfold zu
  cases hw : zj w
  · simp (disch := omega) only [push_cast]; rw [decide_eq_false (p := ThingOk t w) fun h => by rw [zcp, hw] at h; cases h.1]
  by_cases h1 : t.text.size ≤ 2000
  · by_cases h2 : t.refs.length ≤ 30
    · rw [show decide ((2000 : Int) < (t.text.size : Int)) = false by simp; omega, show decide ((30 : Int) < (t.refs.length : Int)) = false by simp; omega]
      simp only [cond_false, Bool.not_true]
      have := zlm t.refs t.text w h2 0 (Nat.zero_le _)
      rw [show ((0 : Nat) : Int) = 0 from rfl] at this
      rw [this]
      by_cases h3 : ∀ j, 0 ≤ j → j < t.refs.length → refP t.refs w j
      · rw [if_pos h3, decide_eq_true ((zcp t w).2 ⟨hw, h1, h2, h3⟩)]
      · rw [if_neg h3, decide_eq_false fun h => h3 ((zcp t w).1 h).2.2.2]
    · rw [show decide ((2000 : Int) < (t.text.size : Int)) = false by simp; omega, show decide ((30 : Int) < (t.refs.length : Int)) = true by simp; omega]
      simp only [cond_false, cond_true, Bool.not_true]
      rw [decide_eq_false fun h => h2 h.refs]
  · rw [show decide ((2000 : Int) < (t.text.size : Int)) = true by simp; omega]
    simp only [cond_true, cond_false, Bool.not_true]
    rw [decide_eq_false fun h => h1 h.text]
theorem zge (n : Int) : IntKind.u64.wrap n = n % 18446744073709551616 := by simp [IntKind.wrap, IntKind.bits, IntKind.signed]
def step1 (h b : Int) : Int := IntKind.u64.wrap ((IntKind.u64.wrap (BitVec.ofInt (IntKind.u64).bits h ^^^ BitVec.ofInt (IntKind.u64).bits (IntKind.u64.wrap b)).toNat) * 1099511628211)
def hash (s : Bs) : Int := (List.range' 0 s.size).foldl (fun h i => step1 h (byteAt s i)) 14695981039346656037
def digs : Nat → Int → List Int
  | 0, _ => []
  | n + 1, h => digs n (h / 256) ++ [h % 256]
def rowI (l : List Int) : Rw := l.map fun d => [.i d]
noncomputable def sumM (s : Bs) (w : Int) : Bs := if zj w = true then bytesOf (rowI (digs w.toNat (hash s))) else ⟨#[]⟩
theorem zoy (n : Int) : 0 ≤ IntKind.u64.wrap n ∧ IntKind.u64.wrap n < 18446744073709551616 := by rw [zge]; omega
theorem zij (s : Bs) : 0 ≤ hash s ∧ hash s < 18446744073709551616 := by
  unfold hash
  generalize List.range' 0 s.size = l
  have : ∀ (l : List Nat) (h : Int), (0 ≤ h ∧ h < 18446744073709551616) → 0 ≤ l.foldl (fun h i => step1 h (byteAt s i)) h ∧ l.foldl (fun h i => step1 h (byteAt s i)) h < 18446744073709551616 := by
    intro l
    induction l with
    | nil => exact fun h hh => hh
    | cons a l ih => exact fun h _ => ih _ (zoy _)
  exact this l _ (by omega)
theorem wrI (l : List Int) (i : Nat) (d : Int) (h : i < l.length) : wrs (rowI l) i 0 [.i d] = rowI (l.set i d) := by
  unfold wrs wrs wr rowI
  rw [List.map_set]
  congr 1
  have : (l.map fun d => [C.i d]).getD i [] = [.i l[i]] := by simp [List.getD_eq_getElem?_getD, h]
  rw [this]; rfl
theorem zoc (n : Nat) : ∀ (h : Int) (l r : List Int), 0 ≤ h → h < 18446744073709551616 → l.length = n → n + r.length ≤ 8 →
    Lqu (some 12) [.i h, .i ((n : Int) - 1), .l (rowI (l ++ r))] = some [.s (bytesOf (rowI (digs n h ++ r)))] := by
  induction n with
  | zero =>
    intro h l r h0 h1 hl hr
    rw [equ_12]
    have : l = [] := List.eq_nil_of_length_eq_zero hl
    subst this
    simp (disch := omega) only [push_cast] <;> rfl
  | succ n ih =>
    intro h l r h0 h1 hl hr
    rw [equ_12]
    have hlen : (rowI (l ++ r)).length = n + 1 + r.length := by simp [rowI, hl]
    have e : ((n + 1 : Nat) : Int) - 1 = (n : Int) := by omega
    rw [e, hlen]
    have hu : IntKind.u8.wrap h = h % 256 := by rw [IntKind.wrap_u8]
    simp (disch := omega) only [push_cast, wrI]
    rw [hu, wrI _ _ _ (by simp [hl]; omega)]
    have hset : (l ++ r).set n (h % 256) = l.take n ++ (h % 256 :: r) := by
      rw [List.set_append_left _ _ (by omega)]
      have : l = l.take n ++ [l[n]] := by
        conv => lhs; rw [← List.take_append_drop n l, List.drop_eq_getElem_cons (by omega), List.drop_of_length_le (by omega)]
      conv => lhs; rw [this]
      rw [List.set_append_right _ _ (by simp; omega)]
      simp [hl]
    rw [hset]
    have hf : h.fdiv (2 ^ 8) = h / 256 := by rw [Int.fdiv_eq_ediv_of_nonneg _ (by omega)]; rfl
    rw [hf, ih (h / 256) (l.take n) (h % 256 :: r) (by omega) (by omega) (by simp [hl]) (by simp; omega)]
    simp [digs]
theorem zlq (s : Bs) (w : Int) (hs : s.size ≤ 1099511627776) : Lqu none [.s s, .i w] = some [.s (sumM s w)] := by
  rw [equ_i, zc9]
  unfold sumM
  cases hw : zj w
  · simp (disch := omega) only [push_cast] <;> rfl
  · simp (disch := omega) only [push_cast]
    have := zjh (f := fun (i : Nat) (h : Int) => Lqu (some 5) [.s s, .i w, .i h, .i (s.size : Int), .i (i : Int)]) (g := fun i h => step1 h (byteAt s i)) (n := s.size) (fun i h hi => by
      show Lqu _ _ = Lqu _ _
      rw [equ_5]; simp (disch := omega) only [push_cast] <;> rfl) 0 (Nat.zero_le _) 14695981039346656037
    rw [show ((0 : Nat) : Int) = 0 from rfl] at this
    rw [this, Nat.sub_zero, show (List.range' 0 s.size).foldl (fun h i => step1 h (byteAt s i)) 14695981039346656037 = hash s from rfl, equ_5]
    have h8 := zbe.1 hw
    have hr := zij s
    have hm : (most : Int) = 1099511627776 := rfl
    obtain ⟨n, rfl⟩ : ∃ n : Nat, w = (n : Int) := ⟨w.toNat, by omega⟩
    simp (disch := omega) only [push_cast, hm]
    have h12 := zoc n (hash s) (List.replicate n 0) [] hr.1 hr.2 (by simp) (by simp; omega)
    rw [List.append_nil, List.append_nil, show rowI (List.replicate n 0) = List.replicate n [C.i 0] by simp [rowI]] at h12
    exact h12
theorem zml (n : Nat) : ∀ (h : Int) (r : List Int) (w : Nat), 0 ≤ h → h < 18446744073709551616 → r.length + n = w → w ≤ 8 →
    Lqt (some 10) [.i (w : Int), .i h, .i (r.length : Int), .l (rowI r)] = some [.s (bytesOf (rowI (digs n h ++ r)))] := by
  induction n with
  | zero =>
    intro h r w h0 h1 hr hw
    rw [eqt_10]
    simp (disch := omega) only [push_cast] <;> rfl
  | succ n ih =>
    intro h r w h0 h1 hr hw
    rw [eqt_10]
    have hm : most = 1099511627776 := rfl
    have hlen : (rowI r).length = r.length := by simp [rowI]
    have hu : IntKind.u8.wrap (h.tmod 256) = h % 256 := by rw [Int.tmod_eq_emod_of_nonneg h0, w8 (by omega)]
    have hq : IntKind.u64.wrap (h.tdiv 256) = h / 256 := by rw [Int.tdiv_eq_ediv_of_nonneg h0, zge]; omega
    rw [hu, hq]
    simp (disch := omega) only [push_cast, List.length_cons, List.length_nil, hm, hlen]
    have := ih (h / 256) (h % 256 :: r) w (by omega) (by omega) (by simp; omega) hw
    simp only [List.length_cons] at this
    rw [show ([[C.i (h % 256)]] : Rw) ++ rowI r = rowI (h % 256 :: r) from rfl, show ((r.length : Int) + 1) = ((r.length + 1 : Nat) : Int) by omega, this]
    simp [digs]
theorem zkf (s : Bs) (w : Int) (hs : s.size ≤ 1099511627776) : Lqt none [.s s, .i w] = some [.s (sumM s w)] := by
  rw [eqt_i, zbq]
  unfold sumM
  cases hw : zj w
  · simp (disch := omega) only [push_cast] <;> rfl
  · simp (disch := omega) only [push_cast]
    have := zjh (f := fun (i : Nat) (h : Int) => Lqt (some 5) [.s s, .i w, .i h, .i (i : Int)]) (g := fun i h => step1 h (byteAt s i)) (n := s.size) (fun i h hi => by
      show Lqt _ _ = Lqt _ _
      rw [eqt_5]; simp (disch := omega) only [push_cast] <;> rfl) 0 (Nat.zero_le _) 14695981039346656037
    rw [show ((0 : Nat) : Int) = 0 from rfl] at this
    rw [this, Nat.sub_zero, show (List.range' 0 s.size).foldl (fun h i => step1 h (byteAt s i)) 14695981039346656037 = hash s from rfl, eqt_5]
    have h8 := zbe.1 hw
    have hr := zij s
    obtain ⟨n, rfl⟩ : ∃ n : Nat, w = (n : Int) := ⟨w.toNat, by omega⟩
    simp (disch := omega) only [push_cast]
    have := zml n (hash s) [] n hr.1 hr.2 (by simp) (by omega)
    rw [List.append_nil] at this
    exact this
end KV
end
section
namespace KV
open Go Go.Eng
open Classical
theorem mostE : most = 1099511627776 := rfl
theorem ze6 (l : Rw) (h : l.length ≤ 1099511627776) : Lqbr none [.l l] = some [.l l] := by
  rw [eqbr_i, mostE]; simp (disch := omega) only [push_cast]
theorem zj8 (x : Bs) (l : Rw) (h : l.length ≤ 1099511627776) : Lqbt none [.s x, .l l] = some [.s x, .l l] := by
  rw [eqbt_i, mostE]; simp (disch := omega) only [push_cast, List.length_nil, List.nil_append]
def szs (l : List Bs) : Nat := (l.map (·.size)).sum
theorem zfz (a : Bs) (l : List Bs) : szs (a :: l) = a.size + szs l := rfl
theorem zhl (l m : List Bs) : szs (l ++ m) = szs l + szs m := by simp [szs]
theorem zgv (l : List Bs) (i : Nat) : szs (l.take i) ≤ szs l := by
  conv => rhs; rw [← List.take_append_drop i l, zhl]
  omega
def hd (n : Nat) : Bs := bytesOf [[.i (IntKind.u8.wrap (n : Int))]]
theorem zb0 (n : Nat) : (hd n).size = 1 := by rw [hd, zdl]; rfl
def cat (a : Bs) (l : List Bs) : Bs := l.foldl (· ++ ·) a
theorem zdb (l : List Bs) : ∀ a, (cat a l).size = a.size + szs l := by
  induction l with
  | nil => intro a; rfl
  | cons x l ih => intro a; show (cat (a ++ x) l).size = _; rw [ih, zbn, zfz]; omega
theorem ze0 (a : Bs) (l : List Bs) (i : Nat) (h : i < l.length) : cat a (l.take (i + 1)) = cat a (l.take i) ++ nth .empty l i := by
  unfold cat; rw [zbl .empty h, List.foldl_append]; rfl
def formM (t : Thing) : Bs := cat (hd t.refs.length) t.refs ++ t.text
theorem zew (t : Thing) : (formM t).size = 1 + szs t.refs + t.text.size := by rw [formM, zbn, zdb, zb0]
theorem znp (t : Thing) (h : 1 + szs t.refs + t.text.size ≤ 1099511627776) (hl : t.refs.length ≤ 4611686018427387904) : Lqz none [.s t.text, .l (encS t.refs)] = some [.s (formM t)] := by
  rw [eqz_i]
  have := zr (f := fun (i : Nat) (a : Bs) => Lqz (some 3) [.s a, .l (encS t.refs), .i (t.refs.length : Int), .i (i : Int), .s t.text, .l (encS t.refs)]) (n := t.refs.length) (T := some [.s (formM t)])
    (I := fun i a => a = cat (hd t.refs.length) (t.refs.take i)) (fun i a hi hI => ⟨_, by
      show Lqz _ _ = Lqz _ _
      rw [eqz_3, mostE]
      have : a.size + (nth .empty t.refs i).size ≤ 1 + szs t.refs := by
        rw [hI, ← zbn, ← ze0 _ _ _ hi, zdb, zb0]
        have := zgv t.refs (i + 1); omega
      simp (disch := omega) only [push_cast] <;> rfl, by show _ = _; rw [hI, ze0 _ _ _ hi]⟩) (fun a hI => by
      show Lqz _ _ = _
      have : a.size + t.text.size ≤ 1099511627776 := by rw [hI, List.take_length, zdb, zb0]; omega
      rw [eqz_3, mostE]; simp (disch := omega) only [push_cast]
      rw [hI, List.take_length]; rfl) 0 (hd t.refs.length) (Nat.zero_le _) rfl
  rw [zl]; exact this
theorem zdv {t : Thing} {w : Int} (h : ThingOk t w) : 1 + szs t.refs + t.text.size ≤ 2241 ∧ t.refs.length ≤ 30 := by
  have h1 := h.refs; have h2 := h.text; have h3 := h.wd
  have : ∀ l : List Bs, (∀ r ∈ l, (r.size : Int) = w) → szs l ≤ 8 * l.length := by
    intro l
    induction l with
    | nil => intro _; simp [szs]
    | cons a l ih => intro hl; rw [zfz, List.length_cons]; have := hl a (by simp); have := ih fun r hr => hl r (by simp [hr]); omega
  have := this _ h.size
  omega
theorem zg7 {t : Thing} {w : Int} (h : ThingOk t w) : Lqz none [.s t.text, .l (encS t.refs)] = some [.s (formM t)] := by
  have := zdv h
  exact znp t (by omega) (by omega)
noncomputable def formT (t : Thing) (w : Int) : Bs := if zu t w = true then formM t else ⟨#[]⟩
theorem ze9 (t : Thing) (w : Int) : Lqw none [.s t.text, .l (encS t.refs), .i w] = some [.s (formT t w)] := by
  rw [eqw_i, zgn]
  unfold formT
  cases ht : zu t w
  · simp (disch := omega) only [push_cast] <;> rfl
  · simp (disch := omega) only [push_cast]
    have hk := zdv (zcc.1 ht)
    have := zr (f := fun (i : Nat) (a : Rw) => Lqw (some 5) [.i (i : Int), .s t.text, .l (encS t.refs), .l a]) (n := t.refs.length) (T := some [.s (formM t)])
      (I := fun i a => bytesOf a = cat (hd t.refs.length) (t.refs.take i)) (fun i a hi hI => ⟨_, by
        show Lqw _ _ = Lqw _ _
        rw [eqw_5, mostE]
        have : a.length + (nth .empty t.refs i).size ≤ 1 + szs t.refs := by
          rw [← zdl, hI, ← zbn, ← ze0 _ _ _ hi, zdb, zb0]
          have := zgv t.refs (i + 1); omega
        simp (disch := omega) only [push_cast, zdw] <;> rfl, by show _ = _; rw [zbd, zci, hI, ze0 _ _ _ hi]⟩) (fun a hI => by
        show Lqw _ _ = _
        have : a.length + t.text.size ≤ 1099511627776 := by rw [← zdl, hI, List.take_length, zdb, zb0]; omega
        rw [eqw_5, mostE]; simp (disch := omega) only [push_cast, zdw]
        rw [zbd, zci, hI, List.take_length]; rfl) 0 [[.i (IntKind.u8.wrap (t.refs.length : Int))]] (Nat.zero_le _) rfl
    exact this
theorem zd0 (s : Bs) (a b c d : Nat) : (s.extract a b).extract c d = s.extract (a + c) (min (a + d) b) := by
  apply Go.WideShapes.bytes_inj
  simp only [ByteArray.data_extract, Array.toList_extract, List.extract_eq_take_drop]
  apply List.ext_getElem?
  intro i
  simp only [List.getElem?_take, List.getElem?_drop]
  by_cases h1 : i < d - c
  · by_cases h2 : c + i < b - a
    · rw [if_pos h1, if_pos h2, if_pos (by omega)]; congr 1; omega
    · rw [if_pos h1, if_neg h2, if_neg (by omega)]
  · rw [if_neg h1, if_neg (by omega)]
def chunk (s : Bs) (w i : Nat) : Bs := s.extract (1 + i * w) (1 + i * w + w)
def parts (s : Bs) (w : Nat) : Thing := ⟨s.extract (1 + (byteAt s 0).toNat * w) s.size, (List.range (byteAt s 0).toNat).map (chunk s w)⟩
noncomputable def readT (s : Bs) (w : Int) : Option Thing :=
  if zj w = true ∧ 1 ≤ s.size ∧ 1 + (byteAt s 0).toNat * w.toNat ≤ s.size then (if zu (parts s w.toNat) w = true then some (parts s w.toNat) else none) else none
theorem zir {s : Bs} {w : Int} (h : zj w = false) : readT s w = none := by unfold readT; rw [if_neg fun h1 => by rw [h] at h1; cases h1.1]
theorem zj3 {s : Bs} {w : Int} (h : ¬ 1 ≤ s.size) : readT s w = none := by unfold readT; rw [if_neg fun h1 => h h1.2.1]
theorem zg5 {s : Bs} {n k : Nat} (hk : byteAt s 0 = (k : Int)) (h : ¬ 1 + k * n ≤ s.size) : readT s n = none := by
  unfold readT; rw [if_neg fun h1 => h (by have := h1.2.2; rw [hk] at this; exact this)]
theorem zfj {s : Bs} {n k : Nat} (hw : zj (n : Int) = true) (h0 : 1 ≤ s.size) (hk : byteAt s 0 = (k : Int)) (h : 1 + k * n ≤ s.size) :
    readT s n = if zu (parts s n) (n : Int) = true then some (parts s n) else none := by
  unfold readT; rw [if_pos ⟨hw, h0, by rw [hk]; exact h⟩]; rfl
def encOT : Option Thing → Lv
  | none => [.s ⟨#[]⟩, .b false, .l []]
  | some t => [.s t.text, .b true, .l (encS t.refs)]
theorem ziy {b n : Nat} (hb : b ≤ 255) (hn : n ≤ 8) : b * n ≤ 2040 := by
  calc b * n ≤ 255 * 8 := Nat.mul_le_mul hb hn
    _ = 2040 := rfl
theorem zgh {α : Type} (f : Nat → α) (i : Nat) : (List.range (i + 1)).map f = (List.range i).map f ++ [f i] := by rw [List.range_succ, List.map_append]; rfl
theorem zno (s : Bs) (w : Int) (hs : s.size ≤ 1099511627776) : Lqbc none [.s s, .i w] = some (encOT (readT s w)) := by
  rw [eqbc_i, zc9]
  cases hw : zj w
  · simp (disch := omega) only [push_cast, zir hw] <;> rfl
  have h8 := zbe.1 hw
  obtain ⟨n, rfl⟩ : ∃ n : Nat, w = (n : Int) := ⟨w.toNat, by omega⟩
  have hb := zm s 0
  obtain ⟨k, hk⟩ : ∃ k : Nat, byteAt s 0 = (k : Int) := ⟨(byteAt s 0).toNat, by omega⟩
  by_cases h0 : 1 ≤ s.size
  · have hne : ¬ s = ⟨#[]⟩ := fun e => by rw [e] at h0; exact absurd h0 (by decide)
    have hkn := ziy (b := k) (n := n) (by omega) (by omega)
    rw [hk]
    have hc : ((k : Int) * (n : Int)) = ((k * n : Nat) : Int) := by rw [Int.natCast_mul]
    generalize hq : k * n = q at hkn hc
    by_cases h1 : 1 + q ≤ s.size
    · simp (disch := omega) only [push_cast, hc]
      have := zr (f := fun (i : Nat) (a : Bs × List Bs) => Lqbc (some 6) [.s a.1, .i (n : Int), .i ((k : Int) - (i : Int)), .s ⟨#[]⟩, .s ⟨#[]⟩, .l [], .l (encS a.2)]) (n := k) (T := some (encOT (if zu (parts s n) (n : Int) = true then some (parts s n) else none)))
        (I := fun i a => a.1 = s.extract (1 + i * n) s.size ∧ a.2 = (List.range i).map (chunk s n)) (fun i a hi hI => by
          have hin : i * n + n ≤ q := by rw [← hq, ← Nat.succ_mul]; exact Nat.mul_le_mul_right n hi
          have hr2 : (i + 1) * n = i * n + n := Nat.succ_mul i n
          have hl2 : a.2.length = i := by rw [hI.2]; simp
          have hch : chunk s n i = s.extract (1 + i * n) (1 + i * n + n) := rfl
          have hI1 := hI.1
          generalize hr : i * n = r at hin hr2 hch hI1
          have hsz : a.1.size = s.size - (1 + r) := by rw [hI1, size_extract]; omega
          refine ⟨(a.1.extract n a.1.size, a.2 ++ [a.1.extract 0 n]), ?_, ?_, ?_⟩
          · show Lqbc _ _ = Lqbc _ _
            rw [eqbc_6, mostE, show ((k : Int) - ((i + 1 : Nat) : Int)) = (k : Int) - (i : Int) - 1 by omega, ← zep]
            simp (disch := omega) only [push_cast, List.length_cons, List.length_nil] <;> rfl
          · show a.1.extract n a.1.size = s.extract (1 + (i + 1) * n) s.size
            rw [hsz, hI1, zd0, hr2]
            congr 1 <;> omega
          · show a.2 ++ [a.1.extract 0 n] = (List.range (i + 1)).map (chunk s n)
            rw [zgh, hI.2]
            congr 1
            rw [hI1, zd0, hch]
            congr 2; omega) (fun a hI => by
          show Lqbc _ _ = _
          rw [eqbc_6]
          have e1 : a.1 = (parts s n).text := by rw [hI.1]; unfold parts; rw [hk]; rfl
          have e2 : a.2 = (parts s n).refs := by rw [hI.2]; unfold parts; rw [hk]; rfl
          rw [e1, e2]
          simp (disch := omega) only [push_cast, ziv]
          cases zu (parts s n) (n : Int) <;> rfl) 0 (s.extract 1 s.size, []) (Nat.zero_le _) ⟨by simp, rfl⟩
      rw [zfj hw h0 hk (by rw [hq]; exact h1)]
      exact this
    · simp (disch := omega) only [push_cast, hc, zg5 (n := n) hk (by rw [hq]; exact h1)] <;> rfl
  · have he : s = ⟨#[]⟩ := zo2.1 (by omega)
    subst he
    simp (disch := omega) only [push_cast, zj3 h0] <;> rfl
theorem zpq (s : Bs) (w : Int) (hs : s.size ≤ 1099511627776) : Lq6 none [.s s, .i w] = some (encOT (readT s w)) := by
  rw [eq6_i, zbq]
  cases hw : zj w
  · simp (disch := omega) only [push_cast, zir hw] <;> rfl
  have h8 := zbe.1 hw
  obtain ⟨n, rfl⟩ : ∃ n : Nat, w = (n : Int) := ⟨w.toNat, by omega⟩
  have hb := zm s 0
  obtain ⟨k, hk⟩ : ∃ k : Nat, byteAt s 0 = (k : Int) := ⟨(byteAt s 0).toNat, by omega⟩
  by_cases h0 : 1 ≤ s.size
  · have hkn := ziy (b := k) (n := n) (by omega) (by omega)
    rw [hk]
    have hc : ((k : Int) * (n : Int)) = ((k * n : Nat) : Int) := by rw [Int.natCast_mul]
    generalize hq : k * n = q at hkn hc
    by_cases h1 : 1 + q ≤ s.size
    · simp (disch := omega) only [push_cast, hc]
      have := zr (f := fun (i : Nat) (a : List Bs) => Lq6 (some 6) [.s s, .i (n : Int), .i (k : Int), .i (i : Int), .s ⟨#[]⟩, .s (s.extract (1 + q) s.size), .l [], .l (encS a)]) (n := k) (T := some (encOT (if zu (parts s n) (n : Int) = true then some (parts s n) else none)))
        (I := fun i a => a = (List.range i).map (chunk s n)) (fun i a hi hI => by
          have hin : i * n + n ≤ q := by rw [← hq, ← Nat.succ_mul]; exact Nat.mul_le_mul_right n hi
          have hl2 : a.length = i := by rw [hI]; simp
          have hc2 : ((i : Int) * (n : Int)) = ((i * n : Nat) : Int) := by rw [Int.natCast_mul]
          generalize hr : i * n = r at hin hc2
          refine ⟨a ++ [chunk s n i], ?_, ?_⟩
          · show Lq6 _ _ = Lq6 _ _
            rw [eq6_6, mostE, ← zep]
            have t1 : ((1 : Int) + (r : Int)).toNat = 1 + r := by omega
            have t2 : ((1 : Int) + (r : Int) + (n : Int)).toNat = 1 + r + n := by omega
            have hch : chunk s n i = s.extract (1 + r) (1 + r + n) := by unfold chunk; rw [hr]
            rw [hch]
            simp (disch := omega) only [push_cast, hc2, List.length_cons, List.length_nil, t1, t2] <;> rfl
          · show _ = _
            rw [zgh, hI]) (fun a hI => by
          show Lq6 _ _ = _
          rw [eq6_6]
          have e1 : s.extract (1 + q) s.size = (parts s n).text := by unfold parts; rw [hk]; show _ = s.extract (1 + k * n) s.size; rw [hq]
          have e2 : a = (parts s n).refs := by rw [hI]; unfold parts; rw [hk]; rfl
          rw [e1, e2]
          simp (disch := omega) only [push_cast, zgn]
          cases zu (parts s n) (n : Int) <;> rfl) 0 [] (Nat.zero_le _) rfl
      rw [zfj hw h0 hk (by rw [hq]; exact h1)]
      rw [show ((1 : Int) + (q : Int)).toNat = 1 + q by omega]
      exact this
    · simp (disch := omega) only [push_cast, hc, zg5 (n := n) hk (by rw [hq]; exact h1)] <;> rfl
  · simp (disch := omega) only [push_cast, zj3 h0] <;> rfl
end KV
end
section
namespace KV
open Go Go.Eng
open Classical
structure Entry where
  kind : Int
  sum : Bs
  name : Bs
  number : Int
  thing : Thing
abbrev E0 : Bs := ⟨#[]⟩
def encE (e : Entry) : Lv := [.i e.kind, .s e.sum, .s e.name, .i e.number, .s e.thing.text, .l (encS e.thing.refs)]
structure NameOk (s : Bs) : Prop where
  lo : 1 ≤ s.size
  hi : s.size ≤ 40
  by_ : ∀ j, 0 ≤ j → j < s.size → 33 ≤ byteAt s j ∧ byteAt s j ≤ 126
noncomputable def nameB (s : Bs) : Bool := decide (NameOk s)
theorem zhg {s : Bs} : nameB s = true ↔ NameOk s := by simp [nameB]
theorem zi7 (s : Bs) : (if (∀ j, 0 ≤ j → j < s.size → 33 ≤ byteAt s j ∧ byteAt s j ≤ 126) then cond (decide (1 ≤ (s.size : Int))) (some [Lf.b (decide ((s.size : Int) ≤ 40))]) (some [.b false]) else some [.b false]) = some [.b (nameB s)] := by
  unfold nameB
  by_cases h : ∀ j, 0 ≤ j → j < s.size → 33 ≤ byteAt s j ∧ byteAt s j ≤ 126
  · rw [if_pos h]
    by_cases h1 : 1 ≤ s.size
    · rw [show decide (1 ≤ (s.size : Int)) = true by simp; omega]
      by_cases h2 : s.size ≤ 40
      · rw [decide_eq_true (p := NameOk s) ⟨h1, h2, h⟩, show decide ((s.size : Int) ≤ 40) = true by simp; omega]; rfl
      · rw [decide_eq_false (p := NameOk s) fun h => h2 h.hi, show decide ((s.size : Int) ≤ 40) = false by simp; omega]; rfl
    · rw [decide_eq_false (p := NameOk s) fun h => h1 h.lo, show decide (1 ≤ (s.size : Int)) = false by simp; omega]; rfl
  · rw [if_neg h, decide_eq_false (p := NameOk s) fun h1 => h h1.by_]
theorem zot (s : Bs) (hs : s.size ≤ 4611686018427387904) : Lqbb none [.s s] = some [.b (nameB s)] := by
  rw [eqbb_i]
  have := zb8 (f := fun i : Nat => Lqbb (some 2) [.s s, .i (s.size : Int), .i (i : Int)]) (n := s.size) (P := fun j => 33 ≤ byteAt s j ∧ byteAt s j ≤ 126) (F := some [.b false])
    (T := cond (decide (1 ≤ (s.size : Int))) (some [Lf.b (decide ((s.size : Int) ≤ 40))]) (some [.b false])) (fun i hi => by
      show (_ → Lqbb _ _ = _) ∧ (_ → Lqbb _ _ = _)
      rw [eqbb_2]
      by_cases h1 : 33 ≤ byteAt s i <;> by_cases h2 : byteAt s i ≤ 126 <;> simp (disch := omega) only [push_cast] <;> simp [h1, h2]) (by
      show Lqbb _ _ = _
      rw [eqbb_2, dlt_f (Nat.le_refl _)]; rfl) 0 (Nat.zero_le _)
  rw [zi7] at this
  exact this
theorem zok (s : Bs) (hs : s.size ≤ 4611686018427387904) : Lq5 none [.s s] = some [.b (nameB s)] := by
  rw [eq5_i]
  have := zb8 (f := fun i : Nat => Lq5 (some 2) [.s s, .i (i : Int)]) (n := s.size) (P := fun j => 33 ≤ byteAt s j ∧ byteAt s j ≤ 126) (F := some [.b false])
    (T := cond (decide (1 ≤ (s.size : Int))) (some [Lf.b (decide ((s.size : Int) ≤ 40))]) (some [.b false])) (fun i hi => by
      show (_ → Lq5 _ _ = _) ∧ (_ → Lq5 _ _ = _)
      rw [eq5_2]
      by_cases h1 : 33 ≤ byteAt s i <;> by_cases h2 : byteAt s i ≤ 126 <;> simp (disch := omega) only [push_cast] <;> simp [h1, h2]) (by
      show Lq5 _ _ = _
      rw [eq5_2, dlt_f (Nat.le_refl _)]; rfl) 0 (Nat.zero_le _)
  rw [zi7] at this
  exact this
def uS (k : Int) : Bool := decide (k = 2 ∨ k = 4 ∨ k = 7)
def uN (k : Int) : Bool := decide (k = 2 ∨ k = 3)
theorem znk (k : Int) : Lqby none [.i k] = some [.b (uS k)] := by
  rw [eqby_i]; unfold uS
  by_cases h1 : k = 2 <;> by_cases h2 : k = 4 <;> by_cases h3 : k = 7 <;> simp (disch := omega) only [push_cast] <;> simp [h1, h2, h3]
theorem znt (k : Int) : Lqbz none [.i k] = some [.b (uN k)] := by
  rw [eqbz_i]; unfold uN
  by_cases h1 : k = 2 <;> by_cases h2 : k = 3 <;> simp (disch := omega) only [push_cast] <;> simp [h1, h2]
noncomputable def sumB (k : Int) (s : Bs) (w : Int) : Bool := if uS k = true then decide ((s.size : Int) = w) else decide (s = E0)
noncomputable def namB (k : Int) (n : Bs) : Bool := if uN k = true then nameB n else decide (n = E0)
def numB (k m : Int) : Bool := if k = 1 ∨ k = 4 ∨ k = 6 then decide (1 ≤ m ∧ m ≤ 100000) else if k = 5 then decide (1 ≤ m ∧ m ≤ 1000000000) else decide (m = 0)
noncomputable def thgB (k : Int) (t : Thing) (w : Int) : Bool := if k = 1 then zu t w else decide (t.text = E0) && decide (t.refs.length = 0)
noncomputable def zi (e : Entry) (w : Int) : Bool := decide (1 ≤ e.kind ∧ e.kind ≤ 7) && (zj w && (sumB e.kind e.sum w && (namB e.kind e.name && (numB e.kind e.number && thgB e.kind e.thing w))))
theorem zb7 (w lo hi k m : Int) (s n : Bs) (t : Thing) : Lqc (some 15) [.i w, .i lo, .i hi, .i k, .s s, .s n, .i m, .s t.text, .l (encS t.refs)] = some [.b (decide (lo ≤ m ∧ m ≤ hi) && thgB k t w)] := by
  rw [eqc_15]; unfold thgB
  by_cases h1 : lo ≤ m
  · by_cases h2 : m ≤ hi
    · by_cases h3 : k = 1
      · simp (disch := omega) only [push_cast, ziv, if_pos h3] <;> simp [h1, h2]
      · by_cases h4 : t.text = E0
        · simp (disch := omega) only [push_cast, if_neg h3] <;> simp [h1, h2, h4]
        · simp (disch := omega) only [push_cast, if_neg h3]; rw [decide_eq_false h4] <;> simp
    · simp (disch := omega) only [push_cast]; rw [decide_eq_false fun h => h2 h.2]; rfl
  · simp (disch := omega) only [push_cast]; rw [decide_eq_false fun h => h1 h.1]; rfl
theorem zk3 (w k m : Int) (s n : Bs) (t : Thing) (hk : 1 ≤ k ∧ k ≤ 7) : Lqc (some 7) [.i w, .i k, .s s, .s n, .i m, .s t.text, .l (encS t.refs)] = some [.b (numB k m && thgB k t w)] := by
  rw [eqc_7]; unfold numB
  have : k = 1 ∨ k = 2 ∨ k = 3 ∨ k = 4 ∨ k = 5 ∨ k = 6 ∨ k = 7 := by omega
  rcases this with h | h | h | h | h | h | h
  · subst h; simp (disch := omega) only [push_cast, zb7] <;> simp
  · subst h; simp (disch := omega) only [push_cast]; rw [eqc_13]; simp (disch := omega) only [push_cast, zb7]; rw [show decide (0 ≤ m ∧ m ≤ 0) = decide (m = 0) from decide_eq_decide.2 (by omega)] <;> simp
  · subst h; simp (disch := omega) only [push_cast]; rw [eqc_13]; simp (disch := omega) only [push_cast, zb7]; rw [show decide (0 ≤ m ∧ m ≤ 0) = decide (m = 0) from decide_eq_decide.2 (by omega)] <;> simp
  · subst h; simp (disch := omega) only [push_cast, zb7] <;> simp
  · subst h; simp (disch := omega) only [push_cast]; rw [eqc_13]; simp (disch := omega) only [push_cast, zb7] <;> simp
  · subst h; simp (disch := omega) only [push_cast, zb7] <;> simp
  · subst h; simp (disch := omega) only [push_cast]; rw [eqc_13]; simp (disch := omega) only [push_cast, zb7]; rw [show decide (0 ≤ m ∧ m ≤ 0) = decide (m = 0) from decide_eq_decide.2 (by omega)] <;> simp
theorem zmp (w k m : Int) (s n : Bs) (t : Thing) (hk : 1 ≤ k ∧ k ≤ 7) (hn : n.size ≤ 4611686018427387904) : Lqc (some 5) [.i w, .i k, .s s, .s n, .i m, .s t.text, .l (encS t.refs)] = some [.b (namB k n && (numB k m && thgB k t w))] := by
  rw [eqc_5]; unfold namB
  rw [znt, zot n hn, zk3 w k m s n t hk]
  cases hu : uN k
  · by_cases h : n = E0
    · subst h; simp (disch := omega) only [push_cast] <;> simp
    · simp (disch := omega) only [push_cast] <;> simp [h]
  · cases nameB n
    · simp (disch := omega) only [push_cast] <;> simp
    · simp (disch := omega) only [push_cast] <;> simp
theorem zjv (e : Entry) (w : Int) (hn : e.name.size ≤ 4611686018427387904) : Lqc none (encE e ++ [.i w]) = some [.b (zi e w)] := by
  show Lqc none [.i e.kind, .s e.sum, .s e.name, .i e.number, .s e.thing.text, .l (encS e.thing.refs), .i w] = _
  rw [eqc_i]; unfold zi
  by_cases h1 : 1 ≤ e.kind
  · by_cases h7 : e.kind ≤ 7
    · simp (disch := omega) only [push_cast, zc9, znk, zmp w e.kind e.number e.sum e.name e.thing ⟨h1, h7⟩ hn]
      rw [decide_eq_true (show 1 ≤ e.kind ∧ e.kind ≤ 7 from ⟨h1, h7⟩), Bool.true_and]
      unfold sumB
      cases zj w
      · rfl
      · cases hu : uS e.kind
        · simp (disch := omega) only [push_cast]
          by_cases h : e.sum = E0
          · rw [cpos h]; simp [h]
          · rw [cneg h]; simp [h]
        · simp (disch := omega) only [push_cast]
          by_cases h : (e.sum.size : Int) = w
          · rw [cpos h]; simp [h]
          · rw [cneg h]; simp [h]
    · simp (disch := omega) only [push_cast]; rw [decide_eq_false fun h => h7 h.2]; rfl
  · simp (disch := omega) only [push_cast]; rw [decide_eq_false fun h => h1 h.1]; rfl
theorem zlh (w k m : Int) (s n : Bs) (t : Thing) (b : Bool) (hb : b = decide (k = 1)) : Lqj (some 8) [.i w, .b b, .i k, .s s, .s n, .i m, .s t.text, .l (encS t.refs)] = some [.b (thgB k t w)] := by
  subst hb
  rw [eqj_8]; unfold thgB
  by_cases h : k = 1
  · simp (disch := omega) only [push_cast, zgn, if_pos h]
  · simp (disch := omega) only [push_cast, if_neg h]
    by_cases h4 : t.text = E0
    · rw [cpos h4]; simp [h4]
    · rw [cneg h4]; simp [h4]
theorem zly (w k m : Int) (s n : Bs) (t : Thing) (a b : Bool) (ha : a = uN k) (hb : b = decide (k = 1)) (hn : n.size ≤ 4611686018427387904) :
    Lqj (some 6) [.i w, .b a, .b b, .i k, .s s, .s n, .i m, .s t.text, .l (encS t.refs)] = some [.b (namB k n && thgB k t w)] := by
  subst ha
  rw [eqj_6, zok n hn, zlh w k m s n t b hb]; unfold namB
  cases hu : uN k
  · simp (disch := omega) only [push_cast]
    by_cases h : n = E0
    · rw [cpos h]; simp [h]
    · rw [cneg h]; simp [h]
  · cases nameB n
    · simp (disch := omega) only [push_cast] <;> simp
    · simp (disch := omega) only [push_cast] <;> simp
theorem zkj (m u : Int) : Lqbs none [.i m, .i u] = some [.b (if u = 1 then decide (1 ≤ m ∧ m ≤ 100000) else if u = 2 then decide (1 ≤ m ∧ m ≤ 1000000000) else decide (m = 0))] := by
  rw [eqbs_i]
  by_cases h1 : u = 1
  · subst h1; simp (disch := omega) only [push_cast]
    by_cases h : 1 ≤ m
    · simp (disch := omega) only [push_cast] <;> simp [h]
    · simp (disch := omega) only [push_cast] <;> simp [h]
  · by_cases h2 : u = 2
    · subst h2; simp (disch := omega) only [push_cast]
      by_cases h : 1 ≤ m
      · simp (disch := omega) only [push_cast] <;> simp [h]
      · simp (disch := omega) only [push_cast] <;> simp [h]
    · simp (disch := omega) only [push_cast] <;> simp [h1, h2]
def nU (k : Int) : Int := if k = 1 ∨ k = 4 ∨ k = 6 then 1 else if k = 5 then 2 else 0
theorem zlw (k : Int) (hk : 1 ≤ k ∧ k ≤ 7) : Lqb9 none [.i k] = some [.b (uS k), .b (uN k), .i (nU k), .b (decide (k = 1))] := by
  rw [eqb9_i]
  have : k = 1 ∨ k = 2 ∨ k = 3 ∨ k = 4 ∨ k = 5 ∨ k = 6 ∨ k = 7 := by omega
  rcases this with h | h | h | h | h | h | h <;> rw [h] <;> rfl
theorem zkz (k m : Int) (hk : 1 ≤ k ∧ k ≤ 7) : Lqbs none [.i m, .i (nU k)] = some [.b (numB k m)] := by
  rw [zkj]
  have : k = 1 ∨ k = 2 ∨ k = 3 ∨ k = 4 ∨ k = 5 ∨ k = 6 ∨ k = 7 := by omega
  rcases this with h | h | h | h | h | h | h <;> rw [h] <;> rfl
theorem zjg (e : Entry) (w : Int) (hn : e.name.size ≤ 4611686018427387904) : Lqj none (encE e ++ [.i w]) = some [.b (zi e w)] := by
  show Lqj none [.i e.kind, .s e.sum, .s e.name, .i e.number, .s e.thing.text, .l (encS e.thing.refs), .i w] = _
  rw [eqj_i, zbq]; unfold zi
  cases zj w
  · simp (disch := omega) only [push_cast] <;> simp
  by_cases h1 : 1 ≤ e.kind
  · by_cases h7 : e.kind ≤ 7
    · rw [decide_eq_true (show 1 ≤ e.kind ∧ e.kind ≤ 7 from ⟨h1, h7⟩), Bool.true_and, Bool.true_and]
      simp (disch := omega) only [push_cast, zlw e.kind ⟨h1, h7⟩, zkz e.kind e.number ⟨h1, h7⟩, zly w e.kind e.number e.sum e.name e.thing _ _ rfl rfl hn]
      unfold sumB
      cases hus : uS e.kind
      · by_cases h : e.sum = E0
        · cases numB e.kind e.number <;> simp (disch := omega) only [push_cast] <;> simp [h]
        · simp (disch := omega) only [push_cast] <;> simp [h]
      · by_cases h : (e.sum.size : Int) = w
        · cases numB e.kind e.number <;> simp (disch := omega) only [push_cast] <;> simp [h]
        · simp (disch := omega) only [push_cast] <;> simp [h]
    · simp (disch := omega) only [push_cast]; rw [decide_eq_false fun h => h7 h.2]; rfl
  · simp (disch := omega) only [push_cast]; rw [decide_eq_false fun h => h1 h.1]; rfl
end KV
end
section
namespace KV
open Go Go.Eng
open Classical
theorem EntryOk.kd {e : Entry} {w : Int} (h : zi e w = true) : 1 ≤ e.kind ∧ e.kind ≤ 7 := by
  unfold zi at h; simp only [Bool.and_eq_true, decide_eq_true_eq] at h; exact h.1
theorem EntryOk.wd {e : Entry} {w : Int} (h : zi e w = true) : zj w = true := by
  unfold zi at h; simp only [Bool.and_eq_true, decide_eq_true_eq] at h; exact h.2.1
theorem EntryOk.nm {e : Entry} {w : Int} (h : zi e w = true) : e.name.size ≤ 40 := by
  unfold zi namB at h; simp only [Bool.and_eq_true, decide_eq_true_eq] at h
  have := h.2.2.2.1
  split at this
  · exact (zhg.1 this).hi
  · have := of_decide_eq_true this; rw [this]; decide
theorem EntryOk.num {e : Entry} {w : Int} (h : zi e w = true) : 0 ≤ e.number ∧ e.number ≤ 1000000000 := by
  unfold zi numB at h; simp only [Bool.and_eq_true, decide_eq_true_eq] at h
  have := h.2.2.2.2.1
  split at this
  · have := of_decide_eq_true this; omega
  · split at this
    · have := of_decide_eq_true this; omega
    · have := of_decide_eq_true this; omega
theorem EntryOk.sum {e : Entry} {w : Int} (h : zi e w = true) : e.sum.size ≤ 8 := by
  have hw := zbe.1 (EntryOk.wd h)
  unfold zi sumB at h; simp only [Bool.and_eq_true, decide_eq_true_eq] at h
  have := h.2.2.1
  split at this
  · have := of_decide_eq_true this; omega
  · have := of_decide_eq_true this; rw [this]; decide
theorem EntryOk.thing {e : Entry} {w : Int} (h : zi e w = true) (hk : e.kind = 1) : ThingOk e.thing w := by
  unfold zi thgB at h; simp only [Bool.and_eq_true, decide_eq_true_eq, if_pos hk] at h
  exact zcc.1 h.2.2.2.2.2
theorem EntryOk.nothing {e : Entry} {w : Int} (h : zi e w = true) (hk : e.kind ≠ 1) : e.thing = ⟨E0, []⟩ := by
  unfold zi thgB at h; simp only [Bool.and_eq_true, decide_eq_true_eq, if_neg hk] at h
  have h1 := h.2.2.2.2.2
  have a : e.thing.text = E0 := h1.1
  have b : e.thing.refs = [] := List.eq_nil_of_length_eq_zero h1.2
  have : e.thing = ⟨e.thing.text, e.thing.refs⟩ := rfl
  rw [this, a, b]
def hd6 (k m : Int) (n : Nat) : Bs := bytesOf [[.i k], [.i (m / 16777216)], [.i (m / 65536 % 256)], [.i (m / 256 % 256)], [.i (m % 256)], [.i (n : Int)]]
theorem zec (k m : Int) (n : Nat) : (hd6 k m n).size = 6 := by rw [hd6, zdl]; rfl
def formE (e : Entry) : Bs := hd6 e.kind e.number e.name.size ++ e.name ++ e.sum ++ (if e.kind = 1 then formM e.thing else E0)
theorem zdk (s : Bs) : s ++ E0 = s := by
  apply Go.WideShapes.bytes_inj; simp [ByteArray.data_append]
theorem zcw (a b c : Bs) : a ++ b ++ c = a ++ (b ++ c) := by
  apply Go.WideShapes.bytes_inj; simp [ByteArray.data_append]
theorem zpr {m : Int} (h : 0 ≤ m ∧ m ≤ 1000000000) : IntKind.u8.wrap (IntKind.i64.wrap (m.tdiv 16777216)) = m / 16777216 ∧ IntKind.u8.wrap ((IntKind.i64.wrap (m.tdiv 65536)).tmod 256) = m / 65536 % 256 ∧ IntKind.u8.wrap ((IntKind.i64.wrap (m.tdiv 256)).tmod 256) = m / 256 % 256 ∧ IntKind.u8.wrap (m.tmod 256) = m % 256 := by
  rw [Int.tdiv_eq_ediv_of_nonneg h.1, Int.tdiv_eq_ediv_of_nonneg h.1, Int.tdiv_eq_ediv_of_nonneg h.1, Int.tmod_eq_emod_of_nonneg h.1, w64 (by omega), w64 (by omega), w64 (by omega), Int.tmod_eq_emod_of_nonneg (by omega), Int.tmod_eq_emod_of_nonneg (by omega)]
  exact ⟨w8 (by omega), w8 (by omega), w8 (by omega), w8 (by omega)⟩
theorem zo1 (e : Entry) (w : Int) (hn : e.name.size ≤ 4611686018427387904) : Lqbx none (encE e ++ [.i w]) = some [.s (if zi e w = true then formE e else E0)] := by
  show Lqbx none [.i e.kind, .s e.sum, .s e.name, .i e.number, .s e.thing.text, .l (encS e.thing.refs), .i w] = _
  rw [eqbx_i]
  rw [show Lqj none [.i e.kind, .s e.sum, .s e.name, .i e.number, .s e.thing.text, .l (encS e.thing.refs), .i w] = _ from zjg e w hn]
  cases he : zi e w
  · simp (disch := omega) only [push_cast] <;> rfl
  have hk := EntryOk.kd he; have hnm := EntryOk.nm he; have hsm := EntryOk.sum he; have hnum := EntryOk.num he
  obtain ⟨b1, b2, b3, b4⟩ := zpr hnum
  rw [b1, b2, b3, b4, w8 (n := (e.name.size : Int)) (by omega), w8 (n := e.kind) (by omega)]
  generalize hr : ([[C.i e.kind], [.i (e.number / 16777216)], [.i (e.number / 65536 % 256)], [.i (e.number / 256 % 256)], [.i (e.number % 256)], [.i (e.name.size : Int)]] : Rw) = r
  have h6 : bytesOf r = hd6 e.kind e.number e.name.size := by rw [← hr]; rfl
  have hl : r.length = 6 := by rw [← hr]; rfl
  simp (disch := omega) only [push_cast, mostE, List.length_append, zdw, hl]
  unfold formE
  by_cases h1 : e.kind = 1
  · have h3 := zdv (EntryOk.thing he h1)
    have hs := zew e.thing
    simp (disch := omega) only [push_cast, ze9, formT, if_pos (zcc.2 (EntryOk.thing he h1)), zdw, if_pos h1]
    rw [zbd, zbd, zbd, zci, zci, zci, h6]
  · simp (disch := omega) only [push_cast, if_neg h1]; rw [zdk, zbd, zbd, zci, zci, h6]
theorem zbp (s : Bs) {a b c : Nat} (h1 : a ≤ b) (h2 : b ≤ c) : s.extract a b ++ s.extract b c = s.extract a c := by
  apply Go.WideShapes.bytes_inj
  simp only [ByteArray.data_append, ByteArray.data_extract, Array.toList_append, Array.toList_extract, List.extract_eq_take_drop]
  apply List.ext_getElem?
  intro i
  rw [List.getElem?_append]
  simp only [List.length_take, List.length_drop, Array.length_toList, List.getElem?_take, List.getElem?_drop]
  have hs : ∀ j, s.data.size ≤ j → s.data.toList[j]? = none := fun j hj => List.getElem?_eq_none (by simpa using hj)
  by_cases h : i < min (b - a) (s.data.size - a)
  · rw [if_pos h, if_pos (by omega), if_pos (by omega)]
  · rw [if_neg h]
    by_cases h3 : i < c - a
    · by_cases h4 : b - a ≤ s.data.size - a
      · rw [if_pos h3, if_pos (by omega)]; congr 1; omega
      · rw [if_pos h3, hs (a + i) (by omega)]
        split
        · exact hs _ (by omega)
        · rfl
    · by_cases h4 : b - a ≤ s.data.size - a
      · rw [if_neg h3, if_neg (by omega)]
      · rw [if_neg h3]
        split
        · exact hs _ (by omega)
        · rfl
theorem zb9 (s : Bs) : s.extract 0 s.size = s := by
  apply Go.WideShapes.bytes_inj
  simp only [ByteArray.data_extract, Array.toList_extract, List.extract_eq_take_drop]
  rw [List.drop_zero, Nat.sub_zero, List.take_of_length_le]
  show s.data.toList.length ≤ s.data.size
  rw [Array.length_toList]; exact Nat.le_refl _
theorem zbs (s : Bs) (i : Nat) (h : i < s.size) : s.extract i (i + 1) = bytesOf [[.i (byteAt s i)]] := by
  apply Go.WideShapes.bytes_inj
  have h' : i < s.data.toList.length := by simpa using h
  simp only [ByteArray.data_extract, Array.toList_extract, List.extract_eq_take_drop]
  rw [List.drop_eq_getElem_cons h', show i + 1 - i = 1 by omega]
  simp only [List.take_succ_cons, List.take_zero]
  show _ = [UInt8.ofNat (byteAt s i).toNat]
  have : s.data.getD i 0 = s.data.toList[i] := by simp [Array.getD]; rw [dif_pos h]
  rw [byteAt, this, Int.toNat_natCast, UInt8.ofNat_toNat]
theorem zhs {s : Bs} {w : Int} {t : Thing} (h : readT s w = some t) : formM t = s ∧ ThingOk t w := by
  unfold readT at h
  split at h
  · rename_i hc
    split at h
    · rename_i ht
      cases h
      refine ⟨?_, zcc.1 ht⟩
      have hb := zm s 0
      obtain ⟨k, hk⟩ : ∃ k : Nat, byteAt s 0 = (k : Int) := ⟨(byteAt s 0).toNat, by omega⟩
      have hkn : (byteAt s 0).toNat = k := by rw [hk]; rfl
      obtain ⟨hw, h0, h1⟩ := hc
      rw [hkn] at h1
      unfold formM parts
      simp only [List.length_map, List.length_range, hkn]
      have hcat : ∀ i, i ≤ k → cat (hd k) ((List.range i).map (chunk s w.toNat)) = s.extract 0 (1 + i * w.toNat) := by
        intro i
        induction i with
        | zero =>
          intro _
          rw [Nat.zero_mul, zbs s 0 (by omega)]
          show hd k = _
          unfold hd
          rw [hk, w8 (by omega)]
        | succ i ih =>
          intro hi
          have hm : (i + 1) * w.toNat = i * w.toNat + w.toNat := Nat.succ_mul _ _
          have hm2 : (i + 1) * w.toNat ≤ k * w.toNat := Nat.mul_le_mul_right _ hi
          unfold cat at ih ⊢
          rw [zgh, List.foldl_append, ih (by omega)]
          show _ ++ chunk s w.toNat i = _
          unfold chunk
          rw [zbp s (by omega) (by omega), hm]; congr 1; omega
      rw [hcat k (Nat.le_refl _), zbp s (by omega) h1, zb9]
    · cases h
  · cases h
theorem zj0 (a b : Bs) (i j : Nat) (h : j ≤ a.size) : (a ++ b).extract i j = a.extract i j := by
  apply Go.WideShapes.bytes_inj
  simp only [ByteArray.data_append, ByteArray.data_extract, Array.toList_append, Array.toList_extract, List.extract_eq_take_drop]
  apply List.ext_getElem?
  intro n
  simp only [List.getElem?_take, List.getElem?_drop]
  have h' : j ≤ a.data.toList.length := by simpa using h
  split
  · rw [List.getElem?_append_left (by omega)]
  · rfl
theorem zc6 (a b : Bs) (i j : Nat) : (a ++ b).extract (a.size + i) (a.size + j) = b.extract i j := by
  apply Go.WideShapes.bytes_inj
  simp only [ByteArray.data_append, ByteArray.data_extract, Array.toList_append, Array.toList_extract, List.extract_eq_take_drop]
  have h' : a.data.toList.length = a.size := by simp
  rw [List.drop_append, h', List.drop_of_length_le (by omega)]
  simp only [List.nil_append]
  congr 1
  · omega
  · congr 1; omega
theorem zg1 (a b : Bs) (i : Nat) (h : i < a.size) : byteAt (a ++ b) i = byteAt a i := by
  unfold byteAt
  have h1 : i < a.data.size := h
  simp [Array.getD, ByteArray.data_append, Array.getElem_append]
  rw [dif_pos (by omega), dif_pos h, dif_pos h]
theorem zes (xs : Rw) (i : Nat) (n : Int) (h : xs[i]? = some [.i n]) (hn : 0 ≤ n ∧ n ≤ 255) : byteAt (bytesOf xs) i = n := by
  have hi : i < xs.length := by
    rcases Nat.lt_or_ge i xs.length with h1 | h1
    · exact h1
    · rw [List.getElem?_eq_none h1] at h; cases h
  have hx : xs[i] = [C.i n] := by rw [List.getElem?_eq_getElem hi] at h; exact Option.some.inj h
  unfold byteAt bytesOf
  simp only [Array.getD, List.size_toArray, List.length_map, hi, dite_true]
  simp only [Array.getInternal_eq_getElem, List.getElem_toArray, List.getElem_map, hx]
  simp only [List.getD_cons_zero, C.int]
  rw [UInt8.toNat_ofNat']; omega
theorem ze8 (a : Bs) (l : List Bs) : cat a l = a ++ cat E0 l := by
  induction l generalizing a with
  | nil => exact (zdk a).symm
  | cons x l ih =>
    show cat (a ++ x) l = a ++ cat (E0 ++ x) l
    rw [ih (a ++ x), ih (E0 ++ x), zcw]
    congr 1
theorem zi6 (s : Bs) : E0 ++ s = s := by apply Go.WideShapes.bytes_inj; simp [ByteArray.data_append]
theorem zj1 (w : Nat) : ∀ (l : List Bs) (x : Bs), (∀ r ∈ l, r.size = w) → ∀ i, i < l.length → (cat E0 l ++ x).extract (i * w) (i * w + w) = nth .empty l i
  | [], _, _, i, h => by simp at h
  | r :: l, x, hl, i, h => by
    have hr : r.size = w := hl r (by simp)
    have e : cat E0 (r :: l) = r ++ cat E0 l := by show cat (E0 ++ r) l = _; rw [ze8, zi6]
    rw [e, zcw]
    cases i with
    | zero => rw [Nat.zero_mul, Nat.zero_add, zj0 _ _ _ _ (by omega), ← hr, zb9]; rfl
    | succ i =>
      have h1 := zj1 w l x (fun r hr => hl r (by simp [hr])) i (by simpa using h)
      have e3 : (i + 1) * w + w = r.size + (i * w + w) := by rw [Nat.succ_mul]; omega
      have e2 : (i + 1) * w = r.size + i * w := by rw [Nat.succ_mul]; omega
      rw [e3, e2, zc6, zco, h1]
theorem zkw {t : Thing} {w : Int} (h : ThingOk t w) : readT (formM t) w = some t := by
  have hw := h.wd
  obtain ⟨n, rfl⟩ : ∃ n : Nat, w = (n : Int) := ⟨w.toNat, by omega⟩
  have hsz : ∀ r ∈ t.refs, r.size = n := fun r hr => by have := h.size r hr; omega
  have hrf := h.refs
  have hs := zew t
  have hk : byteAt (formM t) 0 = (t.refs.length : Int) := by
    unfold formM
    rw [ze8, zcw, zg1 _ _ _ (by rw [zb0]; omega)]
    unfold hd
    exact zes _ _ _ (by rw [w8 (by omega)]; rfl) (by omega)
  have hszs : ∀ l : List Bs, (∀ r ∈ l, r.size = n) → szs l = l.length * n := by
    intro l
    induction l with
    | nil => intro _; simp [szs]
    | cons a l ih => intro hl; rw [zfz, List.length_cons, Nat.succ_mul, ih fun r hr => hl r (by simp [hr]), hl a (by simp)]; omega
  have hz := hszs _ hsz
  have hp : parts (formM t) n = t := by
    unfold parts
    rw [hk, Int.toNat_natCast]
    obtain ⟨x, l⟩ := t
    simp only at hs hz hsz ⊢
    have hcs : (cat (hd l.length) l).size = 1 + l.length * n := by rw [zdb, zb0, hz]
    congr 1
    · unfold formM; simp only
      have := zc6 (cat (hd l.length) l) x 0 x.size
      rw [zb9, hcs, Nat.add_zero] at this
      rw [zbn, hcs]; exact this
    · apply List.ext_getElem
      · simp
      · intro i h1 h2
        simp only [List.getElem_map, List.getElem_range]
        rw [← zo .empty l i h2, ← zj1 n l x hsz i h2]
        unfold chunk formM; simp only
        rw [ze8, zcw]
        have := zc6 (hd l.length) (cat E0 l ++ x) (i * n) (i * n + n)
        rw [zb0] at this
        rw [← this]; congr 1; omega
  rw [zfj (n := n) (zbe.2 hw) (by omega) hk (by omega), hp, if_pos (zcc.2 h)]
def num4 (s : Bs) : Int := byteAt s 1 * 16777216 + byteAt s 2 * 65536 + byteAt s 3 * 256 + byteAt s 4
def nmEnd (s : Bs) : Nat := 6 + (byteAt s 5).toNat
noncomputable def readE (s : Bs) (w : Int) : Option Entry :=
  if zj w = true ∧ 6 ≤ s.size ∧ nmEnd s ≤ s.size then
    (if byteAt s 0 = 1 then (match readT (s.extract (nmEnd s) s.size) w with
      | none => none
      | some t => if zi ⟨1, E0, s.extract 6 (nmEnd s), num4 s, t⟩ w = true then some ⟨1, E0, s.extract 6 (nmEnd s), num4 s, t⟩ else none)
    else if zi ⟨byteAt s 0, s.extract (nmEnd s) s.size, s.extract 6 (nmEnd s), num4 s, ⟨E0, []⟩⟩ w = true then some ⟨byteAt s 0, s.extract (nmEnd s) s.size, s.extract 6 (nmEnd s), num4 s, ⟨E0, []⟩⟩ else none)
  else none
theorem zpn (s : Bs) (h : 6 ≤ s.size) : hd6 (byteAt s 0) (num4 s) (byteAt s 5).toNat = s.extract 0 6 := by
  have b0 := zm s 0; have b1 := zm s 1; have b2 := zm s 2; have b3 := zm s 3; have b4 := zm s 4; have b5 := zm s 5
  unfold hd6 num4
  have e : ∀ a b c d e f : Int, bytesOf [[.i a], [.i b], [.i c], [.i d], [.i e], [.i f]] = bytesOf [[.i a]] ++ bytesOf [[.i b]] ++ bytesOf [[.i c]] ++ bytesOf [[.i d]] ++ bytesOf [[.i e]] ++ bytesOf [[.i f]] := fun a b c d e f => by
    rw [← zbd, ← zbd, ← zbd, ← zbd, ← zbd]; rfl
  have n1 : (byteAt s 1 * 16777216 + byteAt s 2 * 65536 + byteAt s 3 * 256 + byteAt s 4) / 16777216 = byteAt s 1 := by omega
  have n2 : (byteAt s 1 * 16777216 + byteAt s 2 * 65536 + byteAt s 3 * 256 + byteAt s 4) / 65536 % 256 = byteAt s 2 := by omega
  have n3 : (byteAt s 1 * 16777216 + byteAt s 2 * 65536 + byteAt s 3 * 256 + byteAt s 4) / 256 % 256 = byteAt s 3 := by omega
  have n4 : (byteAt s 1 * 16777216 + byteAt s 2 * 65536 + byteAt s 3 * 256 + byteAt s 4) % 256 = byteAt s 4 := by omega
  have n5 : (((byteAt s 5).toNat : Nat) : Int) = byteAt s 5 := by omega
  rw [n1, n2, n3, n4, n5, e, ← zbs s 0 (by omega), ← zbs s 1 (by omega), ← zbs s 2 (by omega), ← zbs s 3 (by omega), ← zbs s 4 (by omega), ← zbs s 5 (by omega)]
  rw [zbp s (by omega) (by omega), zbp s (by omega) (by omega), zbp s (by omega) (by omega), zbp s (by omega) (by omega), zbp s (by omega) (by omega)]
theorem zm3 (s : Bs) : 0 ≤ num4 s ∧ num4 s < 4294967296 := by
  have b1 := zm s 1; have b2 := zm s 2; have b3 := zm s 3; have b4 := zm s 4
  unfold num4; omega
theorem zei (s : Bs) (x : Thing) (h6 : 6 ≤ s.size) (h : nmEnd s ≤ s.size) (a : Bs) (hx : (if byteAt s 0 = 1 then formM x else E0) = (if byteAt s 0 = 1 then s.extract (nmEnd s) s.size else E0)) (ha : a = if byteAt s 0 = 1 then E0 else s.extract (nmEnd s) s.size) :
    formE ⟨byteAt s 0, a, s.extract 6 (nmEnd s), num4 s, x⟩ = s := by
  unfold formE
  simp only
  have hn : (s.extract 6 (nmEnd s)).size = (byteAt s 5).toNat := by rw [size_extract]; unfold nmEnd at h ⊢; omega
  rw [hn, zpn s h6, zbp s (by omega) (by unfold nmEnd; omega), hx, ha]
  split
  · rw [zdk, zbp s (by omega) h, zb9]
  · rw [zdk, zbp s (by omega) h, zb9]
theorem zf8 {s : Bs} {w : Int} {e : Entry} (h : readE s w = some e) : formE e = s ∧ zi e w = true := by
  unfold readE at h
  split at h
  · rename_i hc
    obtain ⟨hw, h6, hl⟩ := hc
    split at h
    · rename_i h1
      cases ht : readT (s.extract (nmEnd s) s.size) w with
      | none => rw [ht] at h; cases h
      | some t =>
        rw [ht] at h
        simp only at h
        split at h
        · rename_i he
          cases h
          refine ⟨?_, he⟩
          have := zei s t h6 hl E0 (by rw [if_pos h1, if_pos h1, (zhs ht).1]) (by rw [if_pos h1])
          rw [h1] at this; exact this
        · cases h
    · rename_i h1
      split at h
      · rename_i he
        cases h
        exact ⟨zei s ⟨E0, []⟩ h6 hl _ (by rw [if_neg h1, if_neg h1]) (by rw [if_neg h1]), he⟩
      · cases h
  · cases h
theorem zmf {k m : Int} {n : Nat} (x : Bs) (hk : 0 ≤ k ∧ k ≤ 255) (hm : 0 ≤ m ∧ m < 4294967296) (hn : n ≤ 255) :
    byteAt (hd6 k m n ++ x) 0 = k ∧ num4 (hd6 k m n ++ x) = m ∧ byteAt (hd6 k m n ++ x) 5 = n := by
  have hs := zec k m n
  have b : ∀ i v, i < 6 → ([[C.i k], [.i (m / 16777216)], [.i (m / 65536 % 256)], [.i (m / 256 % 256)], [.i (m % 256)], [.i (n : Int)]] : Rw)[i]? = some [.i v] → (0 ≤ v ∧ v ≤ 255) → byteAt (hd6 k m n ++ x) i = v := fun i v hi h1 h2 => by
    rw [zg1 _ _ _ (by omega)]; exact zes _ _ _ h1 h2
  refine ⟨b 0 k (by omega) rfl hk, ?_, b 5 n (by omega) rfl (by omega)⟩
  unfold num4
  rw [b 1 (m / 16777216) (by omega) rfl (by omega), b 2 (m / 65536 % 256) (by omega) rfl (by omega), b 3 (m / 256 % 256) (by omega) rfl (by omega), b 4 (m % 256) (by omega) rfl (by omega)]
  omega
theorem zmb {e : Entry} {w : Int} (h : zi e w = true) : readE (formE e) w = some e := by
  have hk := EntryOk.kd h; have hnm := EntryOk.nm h; have hsm := EntryOk.sum h; have hnum := EntryOk.num h
  have hform : formE e = hd6 e.kind e.number e.name.size ++ (e.name ++ (e.sum ++ (if e.kind = 1 then formM e.thing else E0))) := by unfold formE; rw [zcw, zcw]
  obtain ⟨c0, c1, c2⟩ := zmf (k := e.kind) (m := e.number) (n := e.name.size) (e.name ++ (e.sum ++ (if e.kind = 1 then formM e.thing else E0))) (by omega) (by omega) (by omega)
  rw [← hform] at c0 c1 c2
  have hs : (formE e).size = 6 + (e.name.size + (e.sum.size + (if e.kind = 1 then formM e.thing else E0).size)) := by rw [hform, zbn, zbn, zbn, zec]
  have hend : nmEnd (formE e) = 6 + e.name.size := by unfold nmEnd; rw [c2]; rfl
  have x1 : (formE e).extract 6 (6 + e.name.size) = e.name := by
    have := zc6 (hd6 e.kind e.number e.name.size) (e.name ++ (e.sum ++ (if e.kind = 1 then formM e.thing else E0))) 0 e.name.size
    rw [← hform, zec] at this
    rw [show (6 : Nat) = 6 + 0 from rfl, show 6 + 0 + e.name.size = 6 + e.name.size by omega, this, zj0 _ _ _ _ (Nat.le_refl _), zb9]
  have x2 : (formE e).extract (6 + e.name.size) (formE e).size = e.sum ++ (if e.kind = 1 then formM e.thing else E0) := by
    have h1 := zc6 (hd6 e.kind e.number e.name.size) (e.name ++ (e.sum ++ (if e.kind = 1 then formM e.thing else E0))) (e.name.size + 0) (e.name.size + (e.sum ++ (if e.kind = 1 then formM e.thing else E0)).size)
    have h2 := zc6 e.name (e.sum ++ (if e.kind = 1 then formM e.thing else E0)) 0 (e.sum ++ (if e.kind = 1 then formM e.thing else E0)).size
    rw [zb9] at h2
    rw [h2, ← hform, zec] at h1
    rw [hs, ← h1, zbn]; congr 1
  unfold readE
  rw [if_pos ⟨EntryOk.wd h, by omega, by rw [hend]; omega⟩, hend, x1, x2, c0, c1]
  obtain ⟨k, sm, nm, m, t⟩ := e
  simp only at *
  by_cases h1 : k = 1
  · have hsum : sm = E0 := by
      unfold zi sumB uS at h; simp only [Bool.and_eq_true, decide_eq_true_eq] at h
      have := h.2.2.1
      rw [if_neg (by omega)] at this
      exact of_decide_eq_true this
    rw [if_pos h1, if_pos h1, hsum, zi6, zkw (EntryOk.thing h h1)]
    subst h1; subst hsum
    simp only
    rw [if_pos h]
  · have ht : t = ⟨E0, []⟩ := EntryOk.nothing h h1
    subst ht
    rw [if_neg h1, if_neg h1, zdk, if_pos h]
end KV
end
section
namespace KV
open Go Go.Eng
open Classical
def encOE : Option Entry → Lv
  | none => [.i 0, .s E0, .s E0, .i 0, .s E0, .b false, .l []]
  | some e => [.i e.kind, .s e.sum, .s e.name, .i e.number, .s e.thing.text, .b true, .l (encS e.thing.refs)]
theorem or32 {x y k : Nat} (hx : x < 2 ^ k) (hy : 2 ^ k * y < 4294967296) (hk : 2 ^ k ≤ 4294967296) :
    IntKind.u32.wrap ((BitVec.ofInt IntKind.u32.bits ((x : Nat) : Int) ||| BitVec.ofInt IntKind.u32.bits ((2 ^ k * y : Nat) : Int)).toNat : Int) = ((2 ^ k * y + x : Nat) : Int) := by
  show IntKind.u32.wrap ((BitVec.ofInt 32 ((x : Nat) : Int) ||| BitVec.ofInt 32 ((2 ^ k * y : Nat) : Int)).toNat : Int) = _
  rw [BitVec.toNat_or, BitVec.toNat_ofInt, BitVec.toNat_ofInt]
  have e1 : (((x : Nat) : Int) % ((2 ^ 32 : Nat) : Int)).toNat = x := by
    rw [Int.emod_eq_of_lt (by omega) (by have : (2 ^ 32 : Nat) = 4294967296 := rfl; omega)]; rfl
  have e2 : (((2 ^ k * y : Nat) : Int) % ((2 ^ 32 : Nat) : Int)).toNat = 2 ^ k * y := by
    rw [Int.emod_eq_of_lt (by omega) (by have : (2 ^ 32 : Nat) = 4294967296 := rfl; omega)]; rfl
  rw [e1, e2, Nat.or_comm, ← Nat.two_pow_add_eq_or_of_lt hx]
  have hor := Nat.two_pow_add_eq_or_of_lt hx y
  have : 2 ^ k * y + x < 4294967296 := by
    have h1 : 2 ^ k * y ||| x < 2 ^ 32 := Nat.or_lt_two_pow (by simpa using hy) (by simpa using Nat.lt_of_lt_of_le hx hk)
    rw [← hor] at h1; simpa using h1
  exact IntWalk.u32_in _ (by omega)
theorem zpt (s : Bs) (i : Nat) (h : i < s.size) : (rd (rowsOf s) i 0).int = byteAt s i := by
  unfold rowsOf
  rw [zgo _ (0 : UInt8) _ _ _ (by simpa using h)]
  unfold byteAt nth
  simp only [List.getD_cons_zero, C.int]
  congr 2
  rw [List.getD_eq_getElem?_getD]; simp [Array.getD]
  rw [dif_pos h, Array.getElem?_eq_getElem h]; rfl
theorem zlp (s : Bs) (a b i : Nat) (h : a + i < b) (hb : b ≤ s.size) : byteAt (s.extract a b) i = byteAt s (a + i) := by
  have e1 := zbs (s.extract a b) i (by rw [size_extract]; omega)
  have e2 := zbs s (a + i) (by omega)
  rw [zd0, show a + (i + 1) = a + i + 1 by omega, Nat.min_eq_left (by omega), e2] at e1
  have r1 := zm s (a + i); have r2 := zm (s.extract a b) i
  have h1 := zes [[.i (byteAt s (a + i))]] 0 _ rfl (by omega)
  have h2 := zes [[.i (byteAt (s.extract a b) i)]] 0 _ rfl (by omega)
  rw [← h1, ← h2, e1]
theorem zfh (s : Bs) (h : 6 ≤ s.size) : Lqcf none [.l (rowsOf (s.extract 1 5))] = some [.i (num4 s)] := by
  rw [eqcf_i]
  have hl : (rowsOf (s.extract 1 5)).length = 4 := by rw [zdw, size_extract]; omega
  have hz : (s.extract 1 5).size = 4 := by rw [size_extract]; omega
  have c : ∀ i, i < 4 → (rd (rowsOf (s.extract 1 5)) i 0).int = byteAt s (1 + i) := fun i hi => by
    rw [zpt _ _ (by omega), zlp s 1 5 i (by omega) (by omega)]
  have b1 := zm s 1; have b2 := zm s 2; have b3 := zm s 3; have b4 := zm s 4
  rw [c 0 (by omega), c 1 (by omega), c 2 (by omega), c 3 (by omega)]
  unfold num4
  simp only [Nat.add_zero, show 1 + 1 = 2 from rfl, show 1 + 2 = 3 from rfl, show 1 + 3 = 4 from rfl]
  obtain ⟨x1, h1⟩ : ∃ x : Nat, byteAt s 1 = (x : Int) := ⟨(byteAt s 1).toNat, by omega⟩
  obtain ⟨x2, h2⟩ : ∃ x : Nat, byteAt s 2 = (x : Int) := ⟨(byteAt s 2).toNat, by omega⟩
  obtain ⟨x3, h3⟩ : ∃ x : Nat, byteAt s 3 = (x : Int) := ⟨(byteAt s 3).toNat, by omega⟩
  obtain ⟨x4, h4⟩ : ∃ x : Nat, byteAt s 4 = (x : Int) := ⟨(byteAt s 4).toNat, by omega⟩
  rw [h1] at b1 ⊢; rw [h2] at b2 ⊢; rw [h3] at b3 ⊢; rw [h4] at b4 ⊢
  have u : ∀ n : Int, 0 ≤ n ∧ n ≤ 4294967295 → IntKind.u32.wrap n = n := IntWalk.u32_in
  rw [u (x1 : Int) (by omega), u (x2 : Int) (by omega), u (x3 : Int) (by omega), u (x4 : Int) (by omega)]
  rw [show ((x3 : Int) * 2 ^ 8) = ((2 ^ 8 * x3 : Nat) : Int) by omega, show ((x2 : Int) * 2 ^ 16) = ((2 ^ 16 * x2 : Nat) : Int) by omega, show ((x1 : Int) * 2 ^ 24) = ((2 ^ 24 * x1 : Nat) : Int) by omega]
  rw [u ((2 ^ 8 * x3 : Nat) : Int) (by omega), u ((2 ^ 16 * x2 : Nat) : Int) (by omega), u ((2 ^ 24 * x1 : Nat) : Int) (by omega)]
  rw [or32 (x := x4) (y := x3) (k := 8) (by omega) (by omega) (by omega), or32 (x := 2 ^ 8 * x3 + x4) (y := x2) (k := 16) (by omega) (by omega) (by omega), or32 (x := 2 ^ 16 * x2 + (2 ^ 8 * x3 + x4)) (y := x1) (k := 24) (by omega) (by omega) (by omega)]
  simp only [hl, show inb 3 4 = true from rfl, show inb 2 4 = true from rfl, show inb 1 4 = true from rfl, show inb 0 4 = true from rfl, cond_true]
  congr 3; omega
theorem zjd {s : Bs} {w : Int} (h : zj w = false) : readE s w = none := by unfold readE; rw [if_neg fun h1 => by rw [h] at h1; cases h1.1]
theorem zg3 {s : Bs} {w : Int} (h : ¬ 6 ≤ s.size) : readE s w = none := by unfold readE; rw [if_neg fun h1 => h h1.2.1]
theorem zj2 {s : Bs} {w : Int} (h : ¬ nmEnd s ≤ s.size) : readE s w = none := by unfold readE; rw [if_neg fun h1 => h h1.2.2]
theorem zo5 (s : Bs) (w : Int) (hs : s.size ≤ 1099511627776) : Lqcg none [.s s, .i w] = some (encOE (readE s w)) := by
  rw [eqcg_i, zc9]
  by_cases h6 : 6 ≤ s.size
  · cases hw : zj w
    · simp (disch := omega) only [push_cast, zjd hw] <;> rfl
    have b5 := zm s 5; have b0 := zm s 0
    have hz : (s.extract 6 s.size).size = s.size - 6 := by rw [size_extract]; omega
    have hnm := zm3 s
    by_cases hn : nmEnd s ≤ s.size
    · have hn' : 6 + byteAt s 5 ≤ s.size := by unfold nmEnd at hn; omega
      have x1 : (s.extract 6 s.size).extract 0 (byteAt s 5).toNat = s.extract 6 (nmEnd s) := by rw [zd0]; unfold nmEnd; congr 1; omega
      have x2 : (s.extract 6 s.size).extract (byteAt s 5).toNat (s.size - 6) = s.extract (nmEnd s) s.size := by rw [zd0]; unfold nmEnd; congr 1; omega
      have hsz : (s.extract 6 (nmEnd s)).size ≤ 4611686018427387904 := by rw [size_extract]; omega
      unfold readE
      rw [if_pos ⟨hw, h6, hn⟩]
      by_cases h1 : byteAt s 0 = 1
      · simp (disch := omega) only [push_cast, hz, zfh s h6, x1, x2, if_pos h1]
        rw [zno _ _ (by rw [size_extract]; omega)]
        cases ht : readT (s.extract (nmEnd s) s.size) w with
        | none => simp (disch := omega) only [push_cast, encOT] <;> rfl
        | some t =>
          have := zjv ⟨1, E0, s.extract 6 (nmEnd s), num4 s, t⟩ w hsz
          rw [← h1] at this
          simp (disch := omega) only [push_cast, encOT, show Lqc none [.i (byteAt s 0), .s E0, .s (s.extract 6 (nmEnd s)), .i (num4 s), .s t.text, .l (encS t.refs), .i w] = _ from this]
          rw [h1]
          cases zi ⟨1, E0, s.extract 6 (nmEnd s), num4 s, t⟩ w <;> rfl
      · have := zjv ⟨byteAt s 0, s.extract (nmEnd s) s.size, s.extract 6 (nmEnd s), num4 s, ⟨E0, []⟩⟩ w hsz
        simp (disch := omega) only [push_cast, hz, zfh s h6, x1, x2, if_neg h1, show Lqc none [.i (byteAt s 0), .s (s.extract (nmEnd s) s.size), .s (s.extract 6 (nmEnd s)), .i (num4 s), .s E0, .l [], .i w] = _ from this]
        cases zi ⟨byteAt s 0, s.extract (nmEnd s) s.size, s.extract 6 (nmEnd s), num4 s, ⟨E0, []⟩⟩ w <;> rfl
    · have hn' : ¬ 6 + byteAt s 5 ≤ s.size := by unfold nmEnd at hn; omega
      simp (disch := omega) only [push_cast, hz, zfh s h6, zj2 hn] <;> rfl
  · simp (disch := omega) only [push_cast, zg3 h6] <;> rfl
theorem zfb (s : Bs) (w k : Int) (a nm : Bs) (m : Int) (t : Thing) (z1 z2 : Int) (y1 y2 y3 : Bs) (y4 : Rw) (hn : nm.size ≤ 4611686018427387904) :
    Lqbm (some 9) [.s s, .i w, .i z1, .s y1, .s y2, .i z2, .s y3, .i k, .s a, .s nm, .i m, .s t.text, .l (encS t.refs), .l y4] = some (if zi ⟨k, a, nm, m, t⟩ w = true ∧ formE ⟨k, a, nm, m, t⟩ = s then encOE (some ⟨k, a, nm, m, t⟩) else encOE none) := by
  rw [eqbm_9]
  have h1 := zjg ⟨k, a, nm, m, t⟩ w hn
  have h2 := zo1 ⟨k, a, nm, m, t⟩ w hn
  simp (disch := omega) only [push_cast, show Lqj none [.i k, .s a, .s nm, .i m, .s t.text, .l (encS t.refs), .i w] = _ from h1, show Lqbx none [.i k, .s a, .s nm, .i m, .s t.text, .l (encS t.refs), .i w] = _ from h2]
  cases he : zi ⟨k, a, nm, m, t⟩ w
  · simp (disch := omega) only [push_cast]
    rw [if_neg fun h => by cases h.1]; rfl
  · by_cases hf : formE ⟨k, a, nm, m, t⟩ = s
    · simp (disch := omega) only [push_cast]; rw [if_pos ⟨trivial, hf⟩]; rfl
    · simp (disch := omega) only [push_cast]; rw [if_neg fun h => hf h.2]; rfl
theorem zk1 (s : Bs) (w : Int) (hs : s.size ≤ 1099511627776) : Lqbm none [.s s, .i w] = some (encOE (readE s w)) := by
  rw [eqbm_i, zbq]
  cases hw : zj w
  · simp (disch := omega) only [push_cast, zjd hw] <;> rfl
  by_cases h6 : 6 ≤ s.size
  · have b5 := zm s 5; have b0 := zm s 0; have b1 := zm s 1; have b2 := zm s 2; have b3 := zm s 3; have b4 := zm s 4
    by_cases hn : nmEnd s ≤ s.size
    · have hn' : 6 + byteAt s 5 ≤ s.size := by unfold nmEnd at hn; omega
      have hne : (6 + byteAt s 5).toNat = nmEnd s := by unfold nmEnd; omega
      have hsz : (s.extract 6 (nmEnd s)).size ≤ 4611686018427387904 := by rw [size_extract]; omega
      have hnum : byteAt s 1 * 16777216 + byteAt s 2 * 65536 + byteAt s 3 * 256 + byteAt s 4 = num4 s := rfl
      have hnn : (6 : Int) ≤ (nmEnd s : Int) := by unfold nmEnd; omega
      unfold readE
      rw [if_pos ⟨hw, h6, hn⟩]
      by_cases h1 : byteAt s 0 = 1
      · simp (disch := omega) only [push_cast, hne, hnum, if_pos h1]
        rw [zpq _ _ (by rw [size_extract]; omega)]
        cases ht : readT (s.extract (nmEnd s) s.size) w with
        | none =>
          simp (disch := omega) only [push_cast, encOT]
          have := zfb s w (byteAt s 0) E0 (s.extract 6 (nmEnd s)) (num4 s) ⟨E0, []⟩ 0 0 E0 E0 E0 [] hsz
          rw [show Lqbm (some 9) [.s s, .i w, .i 0, .s E0, .s E0, .i 0, .s E0, .i (byteAt s 0), .s E0, .s (s.extract 6 (nmEnd s)), .i (num4 s), .s E0, .l [], .l []] = _ from this]
          rw [if_neg]
          rintro ⟨he, hf⟩
          have h2 := zmb he
          rw [hf] at h2
          unfold readE at h2
          rw [if_pos ⟨hw, h6, hn⟩, if_pos h1, ht] at h2
          cases h2
        | some t =>
          simp (disch := omega) only [push_cast, encOT]
          rw [zfb _ _ _ _ _ _ t _ _ _ _ _ _ hsz, h1]
          by_cases he : zi ⟨1, E0, s.extract 6 (nmEnd s), num4 s, t⟩ w = true
          · have hf := zei s t h6 hn E0 (by rw [if_pos h1, if_pos h1, (zhs ht).1]) (by rw [if_pos h1])
            rw [h1] at hf
            rw [if_pos ⟨he, hf⟩, if_pos he]
          · rw [if_neg fun h => he h.1, if_neg he]
      · simp (disch := omega) only [push_cast, hne, hnum, if_neg h1]
        have := zfb s w (byteAt s 0) (s.extract (nmEnd s) s.size) (s.extract 6 (nmEnd s)) (num4 s) ⟨E0, []⟩ 0 0 E0 E0 E0 [] hsz
        rw [show Lqbm (some 9) [.s s, .i w, .i 0, .s E0, .s E0, .i 0, .s E0, .i (byteAt s 0), .s (s.extract (nmEnd s) s.size), .s (s.extract 6 (nmEnd s)), .i (num4 s), .s E0, .l [], .l []] = _ from this]
        by_cases he : zi ⟨byteAt s 0, s.extract (nmEnd s) s.size, s.extract 6 (nmEnd s), num4 s, ⟨E0, []⟩⟩ w = true
        · have hf := zei s ⟨E0, []⟩ h6 hn (s.extract (nmEnd s) s.size) (by rw [if_neg h1, if_neg h1]) (by rw [if_neg h1])
          rw [if_pos ⟨he, hf⟩, if_pos he]
        · rw [if_neg fun h => he h.1, if_neg he]
    · have hn' : ¬ 6 + byteAt s 5 ≤ s.size := by unfold nmEnd at hn; omega
      simp (disch := omega) only [push_cast, zj2 hn] <;> rfl
  · simp (disch := omega) only [push_cast, zg3 h6] <;> rfl
end KV
end
section
namespace KV
open Go Go.Eng
open Classical
structure Kept where
  sum : Bs
  born : Int
  thing : Thing
structure Pin where
  name : Bs
  sum : Bs
structure Lease where
  number : Int
  sum : Bs
  till : Int
structure State where
  width : Int
  now : Int
  given : Int
  births : Int
  things : List Kept
  pins : List Pin
  leases : List Lease
def K0 : Kept := ⟨.empty, 0, ⟨.empty, []⟩⟩
def P0 : Pin := ⟨.empty, .empty⟩
def L0 : Lease := ⟨0, .empty, 0⟩
def cK (k : Kept) : List C := [.s k.sum, .i k.born, .s k.thing.text, .l (encS k.thing.refs)]
def cP (p : Pin) : List C := [.s p.name, .s p.sum]
def cL (l : Lease) : List C := [.i l.number, .s l.sum, .i l.till]
def encK (l : List Kept) : Rw := l.map cK
def encP (l : List Pin) : Rw := l.map cP
def encL (l : List Lease) : Rw := l.map cL
def encSt (s : State) : Lv := [.i s.width, .i s.now, .i s.given, .i s.births, .l (encK s.things), .l (encP s.pins), .l (encL s.leases)]
@[push_cast] theorem zcb (l : List Kept) : (encK l).length = l.length := by simp [encK]
@[push_cast] theorem zby (l : List Pin) : (encP l).length = l.length := by simp [encP]
@[push_cast] theorem zck (l : List Lease) : (encL l).length = l.length := by simp [encL]
theorem zjl {α : Type} (d : α) (l : List α) (i : Nat) (h : l.length ≤ i) : nth d l i = d := by
  rw [nth, List.getD_eq_getElem?_getD, List.getElem?_eq_none h]; rfl
theorem zbu {α β : Type} (f : α → List C) (d : α) (l : List α) (i o : Nat) (g : C → β) (h : g (.i 0) = g ((f d).getD o (.i 0))) : g (rd (l.map f) i o) = g ((f (nth d l i)).getD o (.i 0)) := by
  rcases Nat.lt_or_ge i l.length with h1 | h1
  · rw [zgo f d _ _ _ h1]
  · rw [zi2 _ _ _ _ h1, zjl d l i h1, h]
@[push_cast] theorem zpx (l : List Kept) (i : Nat) : (rd (encK l) i 0).str = (nth K0 l i).sum := zbu cK K0 l i 0 C.str rfl
@[push_cast] theorem zp1 (l : List Kept) (i : Nat) : (rd (encK l) i 1).int = (nth K0 l i).born := zbu cK K0 l i 1 C.int rfl
@[push_cast] theorem zp3 (l : List Kept) (i : Nat) : (rd (encK l) i 2).str = (nth K0 l i).thing.text := zbu cK K0 l i 2 C.str rfl
@[push_cast] theorem zkc (l : List Kept) (i : Nat) : (rd (encK l) i 3).list = encS (nth K0 l i).thing.refs := zbu cK K0 l i 3 C.list rfl
@[push_cast] theorem zpz (l : List Pin) (i : Nat) : (rd (encP l) i 0).str = (nth P0 l i).name := zbu cP P0 l i 0 C.str rfl
@[push_cast] theorem zpw (l : List Pin) (i : Nat) : (rd (encP l) i 1).str = (nth P0 l i).sum := zbu cP P0 l i 1 C.str rfl
@[push_cast] theorem zp4 (l : List Lease) (i : Nat) : (rd (encL l) i 0).int = (nth L0 l i).number := zbu cL L0 l i 0 C.int rfl
@[push_cast] theorem zp0 (l : List Lease) (i : Nat) : (rd (encL l) i 1).str = (nth L0 l i).sum := zbu cL L0 l i 1 C.str rfl
@[push_cast] theorem zpy (l : List Lease) (i : Nat) : (rd (encL l) i 2).int = (nth L0 l i).till := zbu cL L0 l i 2 C.int rfl
theorem zbm (l m : List Kept) : encK l ++ encK m = encK (l ++ m) := by simp [encK]
theorem zcj (l m : List Pin) : encP l ++ encP m = encP (l ++ m) := by simp [encP]
theorem zcy (l m : List Lease) : encL l ++ encL m = encL (l ++ m) := by simp [encL]
theorem zc1 (a : Bs) (b : Int) (c : Bs) (r : List Bs) : ([[.s a, .i b, .s c, .l (encS r)]] : Rw) = encK [⟨a, b, ⟨c, r⟩⟩] := rfl
theorem zfw (a b : Bs) : ([[.s a, .s b]] : Rw) = encP [⟨a, b⟩] := rfl
theorem zed (l : List Kept) (a b : Nat) : Eng.sub (encK l) a b = encK ((l.drop a).take (b - a)) := zfx _ _ _ _
theorem zeo (l : List Pin) (a b : Nat) : Eng.sub (encP l) a b = encP ((l.drop a).take (b - a)) := zfx _ _ _ _
theorem zhj (l : List Lease) (a b : Nat) : Eng.sub (encL l) a b = encL ((l.drop a).take (b - a)) := zfx _ _ _ _
theorem wrP (l : List Pin) (i : Nat) (x : Bs) (h : i < l.length) : wrs (encP l) i 1 [.s x] = encP (l.set i ⟨(nth P0 l i).name, x⟩) := by
  unfold wrs wrs wr encP
  rw [List.map_set]
  congr 1
  have : (l.map cP).getD i [] = cP (nth P0 l i) := by rw [zo P0 l i h, List.getD_eq_getElem?_getD]; simp [h]
  rw [this]; rfl
theorem zfs {f : Nat → Nat → Option Lv} {q : Nat → Bool} {n r : Nat} (hr : r ≤ n) (h1 : ∀ j, j < r → q j = true) (h2 : ∀ j, r ≤ j → j < n → q j = false)
    (step : ∀ lo hi, lo < hi → hi ≤ n → f lo hi = cond (q ((lo + hi) / 2)) (f ((lo + hi) / 2 + 1) hi) (f lo ((lo + hi) / 2))) (last : ∀ lo, lo ≤ n → f lo lo = some [.i (lo : Int)]) : f 0 n = some [.i (r : Int)] := by
  have : ∀ m lo hi, hi - lo = m → lo ≤ r → r ≤ hi → hi ≤ n → f lo hi = some [.i (r : Int)] := by
    intro m
    induction m using Nat.strongRecOn with
    | ind m ih =>
      intro lo hi hm hlo hhi hn
      rcases Nat.lt_or_ge lo hi with hlt | hge
      · rw [step lo hi hlt hn]
        rcases Nat.lt_or_ge ((lo + hi) / 2) r with h | h
        · rw [h1 _ h]; exact ih _ (by omega) _ _ rfl (by omega) hhi hn
        · rw [h2 _ h (by omega)]; exact ih _ (by omega) _ _ rfl hlo h (by omega)
      · have e1 : lo = r := by omega
        have e2 : hi = r := by omega
        subst e1; subst e2; exact last _ hn
  exact this n 0 n (by omega) (by omega) hr (Nat.le_refl _)
theorem zju {α : Type} {f : Nat → Option Lv} {l : List α} {d : α} {p : α → Bool} {ret : Nat → Option Lv} {e : Option Lv} (step : ∀ i, i < l.length → f i = cond (p (nth d l i)) (ret i) (f (i + 1))) (last : f l.length = e) :
    f 0 = match l.findIdx? p with | some i => ret i | none => e := by
  have : ∀ m i, l.length - i = m → i ≤ l.length → f i = match (l.drop i).findIdx? p with | some j => ret (i + j) | none => e := by
    intro m
    induction m with
    | zero =>
      intro i hm hi
      have : i = l.length := by omega
      subst this; rw [last, List.drop_length]; rfl
    | succ m ih =>
      intro i hm hi
      rw [step i (by omega), zcg d (show i < l.length by omega), List.findIdx?_cons]
      cases p (nth d l i)
      · rw [cond_false, ih (i + 1) (by omega) (by omega)]
        cases (l.drop (i + 1)).findIdx? p with
        | none => rfl
        | some j => simp only [Option.map_some]; rw [show i + 1 + j = i + (j + 1) by omega]; rfl
      · rfl
  have h := this l.length 0 (by omega) (by omega)
  rw [List.drop_zero] at h
  rw [h]
  cases l.findIdx? p with
  | none => rfl
  | some j => simp
def lb {α : Type} (q : α → Bool) (l : List α) : Nat := (l.takeWhile q).length
theorem lb_le {α : Type} (q : α → Bool) (l : List α) : lb q l ≤ l.length := by
  unfold lb
  induction l with
  | nil => simp
  | cons a l ih => rw [List.takeWhile_cons]; split <;> simp <;> omega
theorem lb_lt {α : Type} (q : α → Bool) (d : α) : ∀ (l : List α) j, j < lb q l → q (nth d l j) = true
  | [], j, h => by simp [lb] at h
  | a :: l, j, h => by
    unfold lb at h
    rw [List.takeWhile_cons] at h
    split at h
    · rename_i hq
      cases j with
      | zero => exact hq
      | succ j => rw [zco]; exact lb_lt q d l j (by simpa [lb] using h)
    · simp at h
theorem lb_at {α : Type} (q : α → Bool) (d : α) : ∀ (l : List α), lb q l < l.length → q (nth d l (lb q l)) = false
  | [], h => by simp at h
  | a :: l, h => by
    unfold lb at h ⊢
    rw [List.takeWhile_cons] at h ⊢
    split
    · rename_i hq
      rw [if_pos hq] at h
      simp only [List.length_cons, zco] at h ⊢
      exact lb_at q d l (by unfold lb; omega)
    · rename_i hq; simp only [List.length_nil, zgd]; simpa using hq
end KV
end
section
namespace KV
open Go Go.Eng
open Classical
theorem zio : ∀ (n : Nat) (k : Int) (s : Bs), n ≤ 18 → 0 ≤ k → k < 10 ^ n → s.size + n + 1 ≤ 1099511627776 → ∃ t, Lqb (some 4) [.i k, .s s] = some [.s t]
  | 0, k, s, hn, h0, h1, hs => by
    have hk : k = 0 := by have : (10 : Int) ^ 0 = 1 := rfl; omega
    have h2 : (⟨#[109]⟩ : Bs).size = 1 := rfl
    refine ⟨(⟨#[109]⟩ : Bs) ++ s, ?_⟩
    rw [eqb_4, mostE, hk]; simp (disch := omega) only [push_cast]
  | n + 1, k, s, hn, h0, h1, hs => by
    have h2 : (⟨#[109]⟩ : Bs).size = 1 := rfl
    by_cases hk : 0 < k
    · have h3 : k.tdiv 10 = k / 10 := Int.tdiv_eq_ediv_of_nonneg h0
      have h4 : (10 : Int) ^ (n + 1) = 10 ^ n * 10 := Int.pow_succ 10 n
      have h5 : (10 : Int) ^ n ≤ 10 ^ 18 := by
        have : (10 : Nat) ^ n ≤ 10 ^ 18 := Nat.pow_le_pow_right (by omega) (by omega)
        exact_mod_cast this
      have h6 : (10 : Int) ^ 18 = 1000000000000000000 := by decide
      have h7 : k / 10 < 10 ^ n := by omega
      generalize hb : bytesOf ([[.i (IntKind.u8.wrap (IntKind.i64.wrap (48 + (k.tmod 10))))]] : Rw) = b
      have h8 : b.size = 1 := by rw [← hb, zdl]; rfl
      obtain ⟨t, ht⟩ := zio n (k / 10) (b ++ s) (by omega) (by omega) h7 (by rw [zbn]; omega)
      refine ⟨t, ?_⟩
      rw [eqb_4, mostE, hb, h3]
      have h9 : IntKind.i64.wrap (k / 10) = k / 10 := w64 (by omega)
      simp (disch := omega) only [push_cast, h9]
      exact ht
    · have hk : k = 0 := by omega
      refine ⟨(⟨#[109]⟩ : Bs) ++ s, ?_⟩
      rw [eqb_4, mostE, hk]; simp (disch := omega) only [push_cast]
noncomputable def mt (k : Int) : Bs := (g ((Lqb none [.i k]).getD []) 0).str
theorem zbf {k : Int} (h : k < 1000000000000000000) : Lqb none [.i k] = some [.s (mt k)] := by
  have : ∃ t, Lqb none [.i k] = some [.s t] := by
    by_cases hk : k ≤ 0
    · exact ⟨⟨#[109, 48]⟩, by rw [eqb_i]; simp (disch := omega) only [push_cast]⟩
    · have h6 : (10 : Int) ^ 18 = 1000000000000000000 := by decide
      have h7 : (⟨#[]⟩ : Bs).size = 0 := rfl
      obtain ⟨t, ht⟩ := zio 18 k (⟨#[]⟩ : Bs) (by omega) (by omega) (by omega) (by omega)
      exact ⟨t, by rw [eqb_i]; simp (disch := omega) only [push_cast]; exact ht⟩
  obtain ⟨t, ht⟩ := this
  unfold mt
  rw [ht]; rfl
theorem zd4 (xs : Rw) (i o : Nat) (c : C) : wrs xs i o [c] = wr xs i o c := rfl
theorem castS (i : Nat) : ((i + 1 : Nat) : Int) = (i : Int) + 1 := by omega
def MarkS (k : Int) (ys : Rw) : Prop := ∀ i, i < ys.length → (rd ys i 0).str = mt (k + (i : Int))
theorem zdg (xs : Rw) (k : Int) (hk : 0 ≤ k) (hb : k + (xs.length : Int) ≤ 100000000000000000) : ∃ ys, Lqr none [.i k, .l xs] = some [.i (k + (xs.length : Int)), .l ys] ∧ ys.length = xs.length ∧ MarkS k ys := by
  rw [eqr_i]
  have := zcu (f := fun (i : Nat) (a : Rw) => Lqr (some 2) [.i (k + (i : Int)), .i (i : Int), .l a]) (n := xs.length)
    (T := fun r => ∃ ys, r = some [.i (k + (xs.length : Int)), .l ys] ∧ ys.length = xs.length ∧ MarkS k ys)
    (I := fun i a => a.length = xs.length ∧ ∀ j, j < i → (rd a j 0).str = mt (k + (j : Int))) (fun i a hi hI => .inl ⟨wr a i 0 (.s (mt (k + (i : Int)))), by
      show Lqr _ _ = Lqr _ _
      rw [show k + ((i + 1 : Nat) : Int) = k + (i : Int) + 1 by omega, castS]
      have h1 := hI.1
      rw [eqr_2, zbf (by omega)]
      simp (disch := omega) only [push_cast, zd4], by rw [zk]; exact hI.1, fun j hj => by
        rw [rd_wr (by rw [hI.1]; exact hi)]
        by_cases h : j = i
        · subst h; rw [if_pos ⟨rfl, rfl⟩]; rfl
        · rw [if_neg fun q => h q.1]; exact hI.2 j (by omega)⟩) (fun a hI => ⟨a, by
      show Lqr _ _ = _
      have h1 := hI.1
      rw [eqr_2]; simp (disch := omega) only [push_cast], hI.1, fun j hj => hI.2 j (by rw [← hI.1]; exact hj)⟩) 0 xs (Nat.zero_le _) ⟨rfl, fun j hj => by omega⟩
  simpa using this
theorem zdu {ys : Rw} {k : Int} (hk : 0 ≤ k) (hb : k + (ys.length : Int) ≤ 100000000000000000) (h : MarkS k ys) : Lqs none [.l ys, .i k] = some [.i (k + (ys.length : Int))] := by
  rw [eqs_i]
  have := zr (f := fun (i : Nat) (_ : Unit) => Lqs (some 2) [.l ys, .i (k + (i : Int)), .i (i : Int)]) (n := ys.length) (T := some [.i (k + (ys.length : Int))]) (I := fun i _ => True)
    (fun i _ hi _ => ⟨(), by
      show Lqs _ _ = Lqs _ _
      rw [show k + ((i + 1 : Nat) : Int) = k + (i : Int) + 1 by omega, castS]
      rw [eqs_2, zbf (by omega)]
      simp (disch := omega) only [push_cast, h i hi], trivial⟩) (fun _ _ => by
      show Lqs _ _ = _
      rw [eqs_2]; simp (disch := omega) only [push_cast]) 0 () (Nat.zero_le _) trivial
  simpa using this
end KV
end
section
namespace KV
open Go Go.Eng
open Classical
def offK (xs : Rw) : Nat → Int
  | 0 => 0
  | i + 1 => offK xs i + 3 + ((rd xs i 3).list.length : Int)
theorem zbt (xs : Rw) : ∀ {i j : Nat}, i ≤ j → offK xs i ≤ offK xs j
  | i, 0, h => by have : i = 0 := by omega
                  subst this; exact Int.le_refl _
  | i, j + 1, h => by
    rcases Nat.lt_or_ge i (j + 1) with h1 | h1
    · have := zbt xs (i := i) (j := j) (by omega)
      show _ ≤ offK xs j + 3 + _
      omega
    · have : i = j + 1 := by omega
      subst this; exact Int.le_refl _
def RowK (xs a : Rw) (j : Nat) (q : Int) : Prop := (rd a j 0).str = mt q ∧ (rd a j 1).int = q + 1 ∧ (rd a j 2).str = mt (q + 1 + 1) ∧ MarkS (q + 1 + 1 + 1) (rd a j 3).list ∧ (rd a j 3).list.length = (rd xs j 3).list.length
theorem znq (xs : Rw) (k : Int) (hk : 0 ≤ k) (hb : k + offK xs xs.length ≤ 100000000000000000) (hl : xs.length ≤ 1000000000) : ∃ ys, Lqbg none [.i k, .l xs] = some [.i (k + offK xs xs.length), .l ys] ∧ ys.length = xs.length ∧ ∀ j, j < xs.length → RowK xs ys j (k + offK xs j) := by
  rw [eqbg_i]
  have := zcu (f := fun (i : Nat) (a : Rw) => Lqbg (some 2) [.i (k + offK xs i), .i (i : Int), .l a]) (n := xs.length)
    (T := fun r => ∃ ys, r = some [.i (k + offK xs xs.length), .l ys] ∧ ys.length = xs.length ∧ ∀ j, j < xs.length → RowK xs ys j (k + offK xs j))
    (I := fun i a => a.length = xs.length ∧ (∀ j, i ≤ j → (rd a j 3).list = (rd xs j 3).list) ∧ ∀ j, j < i → RowK xs a j (k + offK xs j)) (fun i a hi hI => by
      obtain ⟨h1, h2, h3⟩ := hI
      have o1 := zbt xs (i := 0) (j := i) (by omega)
      have o2 := zbt xs (i := i + 1) (j := xs.length) (by omega)
      have o3 : offK xs (i + 1) = offK xs i + 3 + ((rd xs i 3).list.length : Int) := rfl
      have o0 : offK xs 0 = 0 := rfl
      generalize hq : k + offK xs i = q
      have hlen := h2 i (Nat.le_refl _)
      obtain ⟨ys, m1, m2, m3⟩ := zdg (rd a i 3).list (q + 1 + 1 + 1) (by omega) (by rw [hlen]; omega)
      left
      have hia : i < a.length := by omega
      have r3 : rd (wr (wr (wr a i 0 (.s (mt q))) i 1 (.i (q + 1))) i 2 (.s (mt (q + 1 + 1)))) i 3 = rd a i 3 := by
        rw [rd_wr (by rw [zk, zk]; exact hia), if_neg (by omega), rd_wr (by rw [zk]; exact hia), if_neg (by omega), rd_wr hia, if_neg (by omega)]
      have rr : ∀ j p, rd (wr (wr (wr (wr a i 0 (.s (mt q))) i 1 (.i (q + 1))) i 2 (.s (mt (q + 1 + 1)))) i 3 (.l ys)) j p = if j = i ∧ p = 3 then .l ys else if j = i ∧ p = 2 then .s (mt (q + 1 + 1)) else if j = i ∧ p = 1 then .i (q + 1) else if j = i ∧ p = 0 then .s (mt q) else rd a j p := by
        intro j p
        rw [rd_wr (by rw [zk, zk, zk]; exact hia), rd_wr (by rw [zk, zk]; exact hia), rd_wr (by rw [zk]; exact hia), rd_wr hia]
      refine ⟨wr (wr (wr (wr a i 0 (.s (mt q))) i 1 (.i (q + 1))) i 2 (.s (mt (q + 1 + 1)))) i 3 (.l ys), ?_, by rw [zk, zk, zk, zk]; exact h1, fun j hj => ?_, fun j hj => ?_⟩
      · show Lqbg _ _ = Lqbg _ _
        rw [castS, o3, show k + (offK xs i + 3 + ((rd xs i 3).list.length : Int)) = q + 1 + 1 + 1 + ((rd xs i 3).list.length : Int) by omega]
        rw [eqbg_2, zbf (by omega)]
        simp (disch := omega) only [push_cast, zd4, zk, zbf (k := q + 1 + 1) (by omega), r3, m1]
        rw [hlen]
      · rw [rr, if_neg (by omega), if_neg (by omega), if_neg (by omega), if_neg (by omega)]; exact h2 j (by omega)
      · by_cases h : j = i
        · subst h
          unfold RowK
          rw [rr, rr, rr, rr, hq]
          simp only [true_and, if_true, Nat.reduceEqDiff, if_false]
          exact ⟨rfl, rfl, rfl, m3, by rw [← hlen]; exact m2⟩
        · have := h3 j (by omega)
          unfold RowK at this ⊢
          rw [rr, rr, rr, rr]
          simp only [h, false_and, if_false]
          exact this) (fun a hI => ⟨a, by
      show Lqbg _ _ = _
      have h1 := hI.1
      rw [eqbg_2]; simp (disch := omega) only [push_cast], hI.1, fun j hj => hI.2.2 j hj⟩) 0 xs (Nat.zero_le _) ⟨rfl, fun j _ => rfl, fun j hj => by omega⟩
  simpa [offK] using this
theorem zmd {xs ys : Rw} {k : Int} (hk : 0 ≤ k) (hb : k + offK xs xs.length ≤ 100000000000000000) (hl : xs.length ≤ 1000000000) (h1 : ys.length = xs.length) (h2 : ∀ j, j < xs.length → RowK xs ys j (k + offK xs j)) : Lqbj none [.l ys, .i k] = some [.i (k + offK xs xs.length)] := by
  rw [eqbj_i]
  have := zr (f := fun (i : Nat) (_ : Unit) => Lqbj (some 2) [.l ys, .i (k + offK xs i), .i (i : Int)]) (n := xs.length) (T := some [.i (k + offK xs xs.length)]) (I := fun i _ => True)
    (fun i _ hi _ => ⟨(), by
      have o1 := zbt xs (i := 0) (j := i) (by omega)
      have o2 := zbt xs (i := i + 1) (j := xs.length) (by omega)
      have o3 : offK xs (i + 1) = offK xs i + 3 + ((rd xs i 3).list.length : Int) := rfl
      have o0 : offK xs 0 = 0 := rfl
      obtain ⟨r1, r2, r3, r4, r5⟩ := h2 i hi
      show Lqbj _ _ = Lqbj _ _
      generalize hq : k + offK xs i = q at r1 r2 r3 r4
      rw [castS, o3, show k + (offK xs i + 3 + ((rd xs i 3).list.length : Int)) = q + 1 + 1 + 1 + ((rd xs i 3).list.length : Int) by omega]
      rw [eqbj_2, zbf (by omega)]
      simp (disch := omega) only [push_cast, r1, r2, r3, zbf (k := q + 1 + 1) (by omega), zdu (k := q + 1 + 1 + 1) (by omega) (by rw [r5]; omega) r4]
      rw [r5], trivial⟩) (fun _ _ => by
      show Lqbj _ _ = _
      rw [eqbj_2]; simp (disch := omega) only [push_cast]) 0 () (Nat.zero_le _) trivial
  simpa [offK] using this
def zi3 (k : Int) (n : Nat) (ys : Rw) : Prop := ys.length = n ∧ ∀ j, j < n → (rd ys j 0).str = mt (k + 2 * (j : Int)) ∧ (rd ys j 1).str = mt (k + 2 * (j : Int) + 1)
theorem zmq (xs : Rw) (k : Int) (hk : 0 ≤ k) (hb : k + 2 * (xs.length : Int) ≤ 100000000000000000) : ∃ ys, Lqbh none [.i k, .l xs] = some [.i (k + 2 * (xs.length : Int)), .l ys] ∧ ys.length = xs.length ∧ ∀ j, j < xs.length → (rd ys j 0).str = mt (k + 2 * (j : Int)) ∧ (rd ys j 1).str = mt (k + 2 * (j : Int) + 1) := by
  rw [eqbh_i]
  have := zcu (f := fun (i : Nat) (a : Rw) => Lqbh (some 2) [.i (k + 2 * (i : Int)), .i (i : Int), .l a]) (n := xs.length)
    (T := fun r => ∃ ys, r = some [.i (k + 2 * (xs.length : Int)), .l ys] ∧ ys.length = xs.length ∧ ∀ j, j < xs.length → (rd ys j 0).str = mt (k + 2 * (j : Int)) ∧ (rd ys j 1).str = mt (k + 2 * (j : Int) + 1))
    (I := fun i a => a.length = xs.length ∧ ∀ j, j < i → (rd a j 0).str = mt (k + 2 * (j : Int)) ∧ (rd a j 1).str = mt (k + 2 * (j : Int) + 1)) (fun i a hi hI => by
      obtain ⟨h1, h3⟩ := hI
      have hia : i < a.length := by omega
      have rr : ∀ j p, rd (wr (wr a i 0 (.s (mt (k + 2 * (i : Int))))) i 1 (.s (mt (k + 2 * (i : Int) + 1)))) j p = if j = i ∧ p = 1 then .s (mt (k + 2 * (i : Int) + 1)) else if j = i ∧ p = 0 then .s (mt (k + 2 * (i : Int))) else rd a j p := by
        intro j p
        rw [rd_wr (by rw [zk]; exact hia), rd_wr hia]
      refine .inl ⟨wr (wr a i 0 (.s (mt (k + 2 * (i : Int))))) i 1 (.s (mt (k + 2 * (i : Int) + 1))), ?_, by rw [zk, zk]; exact h1, fun j hj => ?_⟩
      · show Lqbh _ _ = Lqbh _ _
        rw [castS, show k + 2 * ((i : Int) + 1) = k + 2 * (i : Int) + 1 + 1 by omega]
        rw [eqbh_2, zbf (by omega)]
        simp (disch := omega) only [push_cast, zd4, zk, zbf (k := k + 2 * (i : Int) + 1) (by omega)]
      · by_cases h : j = i
        · subst h; rw [rr, rr]; simp [C.str]
        · rw [rr, rr]; simp only [h, false_and, if_false]; exact h3 j (by omega)) (fun a hI => ⟨a, by
      show Lqbh _ _ = _
      have h1 := hI.1
      rw [eqbh_2]; simp (disch := omega) only [push_cast], hI.1, fun j hj => hI.2 j hj⟩) 0 xs (Nat.zero_le _) ⟨rfl, fun j hj => by omega⟩
  simpa using this
theorem zob {ys : Rw} {n : Nat} {k : Int} (hk : 0 ≤ k) (hb : k + 2 * (n : Int) ≤ 100000000000000000) (h : zi3 k n ys) : Lqbk none [.l ys, .i k] = some [.i (k + 2 * (n : Int))] := by
  obtain ⟨b, c⟩ := h
  rw [eqbk_i]
  have := zr (f := fun (i : Nat) (_ : Unit) => Lqbk (some 2) [.l ys, .i (k + 2 * (i : Int)), .i (i : Int)]) (n := n) (T := some [.i (k + 2 * (n : Int))]) (I := fun i _ => True)
    (fun i _ hi _ => ⟨(), by
      obtain ⟨r1, r2⟩ := c i hi
      show Lqbk _ _ = Lqbk _ _
      rw [castS, show k + 2 * ((i : Int) + 1) = k + 2 * (i : Int) + 1 + 1 by omega]
      rw [eqbk_2, zbf (by omega)]
      simp (disch := omega) only [push_cast, r1, r2, zbf (k := k + 2 * (i : Int) + 1) (by omega)], trivial⟩) (fun _ _ => by
      show Lqbk _ _ = _
      rw [eqbk_2]; simp (disch := omega) only [push_cast]) 0 () (Nat.zero_le _) trivial
  simpa using this
def zil (k : Int) (n : Nat) (ys : Rw) : Prop := ys.length = n ∧ ∀ j, j < n → (rd ys j 0).int = k + 3 * (j : Int) ∧ (rd ys j 1).str = mt (k + 3 * (j : Int) + 1) ∧ (rd ys j 2).int = k + 3 * (j : Int) + 1 + 1
theorem zkv (xs : Rw) (k : Int) (hk : 0 ≤ k) (hb : k + 3 * (xs.length : Int) ≤ 100000000000000000) : ∃ ys, Lqbi none [.i k, .l xs] = some [.i (k + 3 * (xs.length : Int)), .l ys] ∧ ys.length = xs.length ∧ ∀ j, j < xs.length → (rd ys j 0).int = k + 3 * (j : Int) ∧ (rd ys j 1).str = mt (k + 3 * (j : Int) + 1) ∧ (rd ys j 2).int = k + 3 * (j : Int) + 1 + 1 := by
  rw [eqbi_i]
  have := zcu (f := fun (i : Nat) (a : Rw) => Lqbi (some 2) [.i (k + 3 * (i : Int)), .i (i : Int), .l a]) (n := xs.length)
    (T := fun r => ∃ ys, r = some [.i (k + 3 * (xs.length : Int)), .l ys] ∧ ys.length = xs.length ∧ ∀ j, j < xs.length → (rd ys j 0).int = k + 3 * (j : Int) ∧ (rd ys j 1).str = mt (k + 3 * (j : Int) + 1) ∧ (rd ys j 2).int = k + 3 * (j : Int) + 1 + 1)
    (I := fun i a => a.length = xs.length ∧ ∀ j, j < i → (rd a j 0).int = k + 3 * (j : Int) ∧ (rd a j 1).str = mt (k + 3 * (j : Int) + 1) ∧ (rd a j 2).int = k + 3 * (j : Int) + 1 + 1) (fun i a hi hI => by
      obtain ⟨h1, h3⟩ := hI
      have hia : i < a.length := by omega
      have rr : ∀ j p, rd (wr (wr (wr a i 0 (.i (k + 3 * (i : Int)))) i 1 (.s (mt (k + 3 * (i : Int) + 1)))) i 2 (.i (k + 3 * (i : Int) + 1 + 1))) j p = if j = i ∧ p = 2 then .i (k + 3 * (i : Int) + 1 + 1) else if j = i ∧ p = 1 then .s (mt (k + 3 * (i : Int) + 1)) else if j = i ∧ p = 0 then .i (k + 3 * (i : Int)) else rd a j p := by
        intro j p
        rw [rd_wr (by rw [zk, zk]; exact hia), rd_wr (by rw [zk]; exact hia), rd_wr hia]
      refine .inl ⟨wr (wr (wr a i 0 (.i (k + 3 * (i : Int)))) i 1 (.s (mt (k + 3 * (i : Int) + 1)))) i 2 (.i (k + 3 * (i : Int) + 1 + 1)), ?_, by rw [zk, zk, zk]; exact h1, fun j hj => ?_⟩
      · show Lqbi _ _ = Lqbi _ _
        rw [castS, show k + 3 * ((i : Int) + 1) = k + 3 * (i : Int) + 1 + 1 + 1 by omega]
        rw [eqbi_2]
        simp (disch := omega) only [push_cast, zd4, zk, zbf (k := k + 3 * (i : Int) + 1) (by omega)]
      · by_cases h : j = i
        · subst h; rw [rr, rr, rr]; simp [C.str, C.int]
        · rw [rr, rr, rr]; simp only [h, false_and, if_false]; exact h3 j (by omega)) (fun a hI => ⟨a, by
      show Lqbi _ _ = _
      have h1 := hI.1
      rw [eqbi_2]; simp (disch := omega) only [push_cast], hI.1, fun j hj => hI.2 j hj⟩) 0 xs (Nat.zero_le _) ⟨rfl, fun j hj => by omega⟩
  simpa using this
theorem zkm {ys : Rw} {n : Nat} {k : Int} (hk : 0 ≤ k) (hb : k + 3 * (n : Int) ≤ 100000000000000000) (h : zil k n ys) : Lqbl none [.l ys, .i k] = some [.i (k + 3 * (n : Int))] := by
  obtain ⟨b, c⟩ := h
  rw [eqbl_i]
  have := zr (f := fun (i : Nat) (_ : Unit) => Lqbl (some 2) [.l ys, .i (k + 3 * (i : Int)), .i (i : Int)]) (n := n) (T := some [.i (k + 3 * (n : Int))]) (I := fun i _ => True)
    (fun i _ hi _ => ⟨(), by
      obtain ⟨r1, r2, r3⟩ := c i hi
      show Lqbl _ _ = Lqbl _ _
      rw [castS, show k + 3 * ((i : Int) + 1) = k + 3 * (i : Int) + 1 + 1 + 1 by omega]
      rw [eqbl_2]
      simp (disch := omega) only [push_cast, r1, r2, r3, zbf (k := k + 3 * (i : Int) + 1) (by omega)], trivial⟩) (fun _ _ => by
      show Lqbl _ _ = _
      rw [eqbl_2]; simp (disch := omega) only [push_cast]) 0 () (Nat.zero_le _) trivial
  simpa using this
end KV
end
section
namespace KV
open Go Go.Eng
open Classical
theorem mostZ : ((most : Nat) : Int) = 1099511627776 := rfl
theorem zls (p q : List C) (x c : C) : setAt (p ++ x :: q) p.length c = p ++ c :: q := by
  induction p with
  | nil => rfl
  | cons y p ih => show y :: setAt (p ++ x :: q) p.length c = _; rw [ih]; rfl
theorem zh8 : ∀ (r p q : List C) (a : Rw) (i : Nat), i < a.length → a.getD i [] = p ++ q → q.length = r.length → wrs a i p.length r = a.set i (p ++ r)
  | [], p, q, a, i, hi, h, hq => by
    have : q = [] := List.eq_nil_of_length_eq_zero hq
    subst this
    show a = _
    rw [← h]
    apply List.ext_getElem?
    intro n
    rw [List.getElem?_set]
    split
    · rename_i hn; subst hn; rw [List.getD_eq_getElem?_getD, List.getElem?_eq_getElem hi]; rfl
    · rfl
  | c :: r, p, q, a, i, hi, h, hq => by
    cases q with
    | nil => simp at hq
    | cons x q =>
      show wrs (wr a i p.length c) i (p.length + 1) r = _
      have hw : wr a i p.length c = a.set i (p ++ c :: q) := by unfold wr; rw [h, zls]
      have := zh8 r (p ++ [c]) q (wr a i p.length c) i (by rw [zk]; exact hi) (by
        rw [hw, List.getD_eq_getElem?_getD, List.getElem?_set, if_pos rfl, if_pos hi]; simp) (by simpa using hq)
      rw [List.length_append] at this
      rw [show p.length + 1 = p.length + [c].length from rfl, this, hw]
      simp
theorem zo3 {a : Rw} {i : Nat} {z r : List C} (hi : i < a.length) (h : a.getD i [] = z) (hl : z.length = r.length) : wrs a i 0 r = a.set i r := by
  have := zh8 r [] z a i hi (by rw [h]; rfl) hl
  simpa using this
theorem zpm {β : Type} {f : Nat → Rw → β} {ys : Rw} {z : List C} {T : β} (step : ∀ i a, i < ys.length → a.length = ys.length → a.getD i [] = z → f i a = f (i + 1) (a.set i (ys.getD i []))) (last : f ys.length ys = T) : f 0 (List.replicate ys.length z) = T := by
  refine zr (f := f) (n := ys.length) (I := fun i a => a.length = ys.length ∧ ∀ j, j < ys.length → a.getD j [] = if j < i then ys.getD j [] else z) (fun i a hi hI => ⟨_, step i a hi hI.1 (by rw [hI.2 i hi, if_neg (by omega)]), by rw [List.length_set]; exact hI.1, fun j hj => ?_⟩) (fun a hI => ?_) 0 _ (Nat.zero_le _) ⟨by simp, fun j hj => by simp [List.getD_eq_getElem?_getD, hj]⟩
  · rw [List.getD_eq_getElem?_getD, List.getElem?_set]
    by_cases h : i = j
    · subst h; rw [if_pos rfl, if_pos (by rw [hI.1]; exact hi), if_pos (by omega)]; rfl
    · rw [if_neg h, ← List.getD_eq_getElem?_getD, hI.2 j hj]
      by_cases h2 : j < i
      · rw [if_pos h2, if_pos (by omega)]
      · rw [if_neg h2, if_neg (by omega)]
  · have : a = ys := by
      apply List.ext_getElem hI.1
      intro n h1 h2
      have := hI.2 n h2
      rw [if_pos h2, List.getD_eq_getElem?_getD, List.getD_eq_getElem?_getD, List.getElem?_eq_getElem h1, List.getElem?_eq_getElem h2] at this
      simpa using this
    rw [this, last]
theorem zoi {α : Type} (f : α → List C) (d : α) (l : List α) (i : Nat) (h : i < l.length) : (l.map f).getD i [] = f (nth d l i) := by
  simp [nth, List.getD_eq_getElem?_getD, h]
theorem zg4 (l : List Bs) (h : l.length ≤ 1099511627776) : Lq4 none [.l (encS l)] = some [.l (encS l)] := by
  rw [eq4_i, mostZ]; simp (disch := omega) only [push_cast]
  refine Eq.trans ?_ (zpm (f := fun (i : Nat) (a : Rw) => Lq4 (some 3) [.l (encS l), .i (i : Int), .l a]) (ys := encS l) (z := [.s ⟨#[]⟩]) (fun i a hi ha hz => ?_) ?_)
  · simp only [zl]; rfl
  · rw [zl] at hi
    rw [zl] at ha
    show Lq4 _ _ = Lq4 _ _
    rw [castS, eq4_3]
    simp (disch := omega) only [push_cast]
    rw [zo3 (by omega) hz (by rfl), encS, zoi _ .empty _ _ hi]
  · show Lq4 _ _ = _
    rw [eq4_3]; simp (disch := omega) only [push_cast]
theorem zdz (xs : Rw) (h : xs.length ≤ 4611686018427387904) : Lqq none [.l xs, .l xs] = some [.b true] := by
  rw [eqq_i]; simp (disch := omega) only [push_cast]
  exact zr (f := fun (i : Nat) (_ : Unit) => Lqq (some 4) [.l xs, .l xs, .i (i : Int)]) (n := xs.length) (T := some [.b true]) (I := fun i _ => True)
    (fun i _ hi _ => ⟨(), by
      show Lqq _ _ = Lqq _ _
      rw [castS, eqq_4]; simp (disch := omega) only [push_cast], trivial⟩) (fun _ _ => by
      show Lqq _ _ = _
      rw [eqq_4]; simp (disch := omega) only [push_cast]) 0 () (Nat.zero_le _) trivial
theorem zmk (xs : Rw) (h : xs.length ≤ 4611686018427387904) (hr : ∀ i, (rd xs i 3).list.length ≤ 4611686018427387904) : Lqbd none [.l xs, .l xs] = some [.b true] := by
  rw [eqbd_i]; simp (disch := omega) only [push_cast]
  exact zr (f := fun (i : Nat) (_ : Unit) => Lqbd (some 4) [.l xs, .l xs, .i (i : Int)]) (n := xs.length) (T := some [.b true]) (I := fun i _ => True)
    (fun i _ hi _ => ⟨(), by
      show Lqbd _ _ = Lqbd _ _
      rw [castS, eqbd_4, eqcv_i, eqcu_i]; simp (disch := omega) only [push_cast, zdz _ (hr _)], trivial⟩) (fun _ _ => by
      show Lqbd _ _ = _
      rw [eqbd_4]; simp (disch := omega) only [push_cast]) 0 () (Nat.zero_le _) trivial
theorem zk4 (xs : Rw) (h : xs.length ≤ 4611686018427387904) : Lqbe none [.l xs, .l xs] = some [.b true] := by
  rw [eqbe_i]; simp (disch := omega) only [push_cast]
  exact zr (f := fun (i : Nat) (_ : Unit) => Lqbe (some 4) [.l xs, .l xs, .i (i : Int)]) (n := xs.length) (T := some [.b true]) (I := fun i _ => True)
    (fun i _ hi _ => ⟨(), by
      show Lqbe _ _ = Lqbe _ _
      rw [castS, eqbe_4, eqcw_i]; simp (disch := omega) only [push_cast], trivial⟩) (fun _ _ => by
      show Lqbe _ _ = _
      rw [eqbe_4]; simp (disch := omega) only [push_cast]) 0 () (Nat.zero_le _) trivial
theorem zl8 (xs : Rw) (h : xs.length ≤ 4611686018427387904) : Lqbf none [.l xs, .l xs] = some [.b true] := by
  rw [eqbf_i]; simp (disch := omega) only [push_cast]
  exact zr (f := fun (i : Nat) (_ : Unit) => Lqbf (some 4) [.l xs, .l xs, .i (i : Int)]) (n := xs.length) (T := some [.b true]) (I := fun i _ => True)
    (fun i _ hi _ => ⟨(), by
      show Lqbf _ _ = Lqbf _ _
      rw [castS, eqbf_4, eqcx_i]; simp (disch := omega) only [push_cast], trivial⟩) (fun _ _ => by
      show Lqbf _ _ = _
      rw [eqbf_4]; simp (disch := omega) only [push_cast]) 0 () (Nat.zero_le _) trivial
end KV
end
section
namespace KV
open Go Go.Eng
open Classical
theorem zkn {l : List Bs} {i : Nat} (h : i < l.length) : szs (l.take (i + 1)) = szs (l.take i) + (nth .empty l i).size := by
  rw [zbl .empty h, zhl]; simp [szs]
theorem zhh (l : List Bs) (left : Int) (h0 : 0 ≤ left) (h1 : left ≤ 1048576) (hl : l.length ≤ 140737488351232) (hs : ∀ x ∈ l, x.size ≤ 140737488351232) :
    ∃ y, Lqy none [.l (encS l), .i left] = some [.i y] ∧ y ≤ left ∧ (0 ≤ y → y = left - ((l.length : Int) + (szs l : Int))) := by
  rw [eqy_i]
  by_cases hn : left - (l.length : Int) < 0
  · exact ⟨-1, by simp (disch := omega) only [push_cast], by omega, fun h => by omega⟩
  simp (disch := omega) only [push_cast]
  refine zcu (f := fun (i : Nat) (y : Int) => Lqy (some 5) [.l (encS l), .i y, .i (i : Int)]) (n := l.length)
    (T := fun r => ∃ y, r = some [.i y] ∧ y ≤ left ∧ (0 ≤ y → y = left - ((l.length : Int) + (szs l : Int)))) (I := fun i y => 0 ≤ y ∧ y = left - ((l.length : Int) + (szs (l.take i) : Int)))
    (fun i y hi hI => ?_) (fun y hI => ⟨y, ?_, by omega, fun h => ?_⟩) 0 (left - (l.length : Int)) (Nat.zero_le _) ⟨by omega, by simp [szs]⟩
  · have hx := hs _ (zw (d := .empty) hi)
    have hz := zkn hi
    show (∃ s', Lqy _ _ = Lqy _ _ ∧ _) ∨ _
    by_cases hc : y - ((nth .empty l i).size : Int) < 0
    · right
      refine ⟨-1, ?_, by omega, fun h => by omega⟩
      show Lqy _ _ = _
      rw [eqy_5]; simp (disch := omega) only [push_cast]
    · left
      refine ⟨y - ((nth .empty l i).size : Int), ?_, by omega, by omega⟩
      rw [castS, eqy_5]; simp (disch := omega) only [push_cast]
  · show Lqy _ _ = _
    rw [eqy_5]; simp (disch := omega) only [push_cast]
  · rw [List.take_length] at hI; exact hI.2
def wK (k : Kept) : Nat := k.sum.size + k.thing.text.size + k.thing.refs.length + szs k.thing.refs
def wKs (l : List Kept) : Nat := (l.map wK).sum
theorem zmr {l : List Kept} {i : Nat} (h : i < l.length) : wKs (l.take (i + 1)) = wKs (l.take i) + wK (nth K0 l i) := by
  rw [zbl K0 h]; simp [wKs]
structure Light (s : State) : Prop where
  nT : s.things.length ≤ 1048576
  nP : s.pins.length ≤ 1048576
  nL : s.leases.length ≤ 1048576
  sum : (wKs s.things : Int) ≤ 1048576
  refs : ∀ k ∈ s.things, k.thing.refs.length ≤ 1048576
  names : ∀ p ∈ s.pins, p.name.size ≤ 4611686018427387904
theorem zgq {l : List Kept} {n : Nat} (h : ∀ k ∈ l, k.thing.refs.length ≤ n) (i : Nat) : (rd (encK l) i 3).list.length ≤ n := by
  rw [zkc, zl]
  rcases Nat.lt_or_ge i l.length with h1 | h1
  · exact h _ (zw h1)
  · rw [zjl K0 l i h1]; exact Nat.zero_le _
theorem zhn (a b c d : Int) (T P L : Rw) (h1 : T.length ≤ 4611686018427387904) (h2 : P.length ≤ 4611686018427387904) (h3 : L.length ≤ 4611686018427387904) (hr : ∀ i, (rd T i 3).list.length ≤ 4611686018427387904) :
    Lqb1 none [.i a, .i b, .i c, .i d, .l T, .l P, .l L, .i a, .i b, .i c, .i d, .l T, .l P, .l L] = some [.b true] := by
  rw [eqb1_i]
  simp (disch := omega) only [push_cast, zmk T h1 hr, zk4 P h2, zl8 L h3]
theorem Light.eq {s : State} (h : Light s) : Lqb1 none [.i s.width, .i s.now, .i s.given, .i s.births, .l (encK s.things), .l (encP s.pins), .l (encL s.leases), .i s.width, .i s.now, .i s.given, .i s.births, .l (encK s.things), .l (encP s.pins), .l (encL s.leases)] = some [.b true] := by
  have h1 := h.nT; have h2 := h.nP; have h3 := h.nL
  exact zhn _ _ _ _ _ _ _ (by rw [zcb]; omega) (by rw [zby]; omega) (by rw [zck]; omega) fun i => by have := zgq h.refs i; omega
def cntS (T P L : Rw) : Int := offK T T.length + 2 * (P.length : Int) + 3 * (L.length : Int)
def zht (k : Int) (T P L T' P' L' : Rw) : Prop := (T'.length = T.length ∧ ∀ j, j < T.length → RowK T T' j (k + offK T j)) ∧ zi3 (k + offK T T.length) P.length P' ∧ zil (k + offK T T.length + 2 * (P.length : Int)) L.length L'
theorem zn7 (a b c d : Int) (T P L : Rw) (k : Int) (hk : 0 ≤ k) (hb : k + cntS T P L ≤ 100000000000000000) (h1 : T.length ≤ 1000000000) : ∃ T' P' L', Lqcl none [.i a, .i b, .i c, .i d, .i k, .l T, .l P, .l L] = some [.i (k + cntS T P L), .l T', .l P', .l L'] ∧ zht k T P L T' P' L' := by
  unfold cntS at hb ⊢
  have o1 := zbt T (i := 0) (j := T.length) (Nat.zero_le _)
  have o0 : offK T 0 = 0 := rfl
  obtain ⟨T', t1, t2⟩ := znq T k hk (by omega) h1
  obtain ⟨P', p1, p2⟩ := zmq P (k + offK T T.length) (by omega) (by omega)
  obtain ⟨L', l1, l2⟩ := zkv L (k + offK T T.length + 2 * (P.length : Int)) (by omega) (by omega)
  have e : k + (offK T T.length + 2 * (P.length : Int) + 3 * (L.length : Int)) = k + offK T T.length + 2 * (P.length : Int) + 3 * (L.length : Int) := by omega
  exact ⟨T', P', L', by rw [eqcl_i, e]; simp (disch := omega) only [push_cast, t1, p1, l1], t2, p2, l2⟩
theorem zl7 (a b c d : Int) {T P L T' P' L' : Rw} {k : Int} (hk : 0 ≤ k) (hb : k + cntS T P L ≤ 100000000000000000) (h1 : T.length ≤ 1000000000) (h : zht k T P L T' P' L') : Lqcp none [.i a, .i b, .i c, .i d, .l T', .l P', .l L', .i k] = some [.i (k + cntS T P L)] := by
  unfold cntS at hb ⊢
  have o1 := zbt T (i := 0) (j := T.length) (Nat.zero_le _)
  have o0 : offK T 0 = 0 := rfl
  obtain ⟨⟨t1, t2⟩, p2, l2⟩ := h
  have e : k + (offK T T.length + 2 * (P.length : Int) + 3 * (L.length : Int)) = k + offK T T.length + 2 * (P.length : Int) + 3 * (L.length : Int) := by omega
  rw [eqcp_i, e]
  simp (disch := omega) only [push_cast, zmd hk (by omega) h1 t1 t2, zob (k := k + offK T T.length) (by omega) (by omega) p2, zkm (k := k + offK T T.length + 2 * (P.length : Int)) (by omega) (by omega) l2]
theorem zpu {l : List Kept} (i : Nat) (hi : i ≤ l.length) : offK (encK l) i ≤ 3 * (i : Int) + (wKs (l.take i) : Int) := by
  induction i with
  | zero => simp [offK, wKs]
  | succ i ih =>
    have := ih (by omega)
    show offK (encK l) i + 3 + ((rd (encK l) i 3).list.length : Int) ≤ _
    rw [zkc, zl, zmr (by omega)]
    unfold wK
    omega
theorem Light.cnt {s : State} (h : Light s) : 0 ≤ cntS (encK s.things) (encP s.pins) (encL s.leases) ∧ cntS (encK s.things) (encP s.pins) (encL s.leases) ≤ 100000000 := by
  have h1 := h.nT; have h2 := h.nP; have h3 := h.nL; have h4 := h.sum
  have := zpu (l := s.things) s.things.length (Nat.le_refl _)
  rw [List.take_length] at this
  have o1 := zbt (encK s.things) (i := 0) (j := s.things.length) (Nat.zero_le _)
  have o0 : offK (encK s.things) 0 = 0 := rfl
  unfold cntS
  rw [zcb, zby, zck]
  omega
end KV
end
section
namespace KV
open Go Go.Eng
open Classical
theorem zj4 {α : Type} {R : α → α → Prop} (d : α) {l : List α} (h : l.Pairwise R) {i j : Nat} (hij : i < j) (hj : j < l.length) : R (nth d l i) (nth d l j) := by
  rw [zo d l i (by omega), zo d l j hj]
  exact List.pairwise_iff_getElem.1 h i j (by omega) hj hij
theorem lb_hi {α : Type} {R : α → α → Prop} {q : α → Bool} (d : α) {l : List α} (h : l.Pairwise R) (mono : ∀ a b, R a b → q b = true → q a = true) : ∀ j, lb q l ≤ j → j < l.length → q (nth d l j) = false := by
  intro j h1 h2
  cases hq : q (nth d l j)
  · rfl
  · rcases Nat.eq_or_lt_of_le h1 with e | h3
    · rw [← e] at hq; rw [lb_at q d l (by omega)] at hq; exact hq.symm
    · have := mono _ _ (zj4 d h h3 h2) hq
      rw [lb_at q d l (by omega)] at this; cases this
theorem zdr {α : Type} {R : α → α → Prop} {q : α → Bool} {p : α → Prop} (d : α) {l : List α} (h : l.Pairwise R) (hp : ∀ a, p a → q a = false) (hR : ∀ a b, R a b → p b → q a = true) {j : Nat} (hj : j < l.length) (hk : p (nth d l j)) : j = lb q l := by
  have h1 : lb q l ≤ j := by
    rcases Nat.lt_or_ge j (lb q l) with h3 | h3
    · have := lb_lt q d l j h3; rw [hp _ hk] at this; cases this
    · exact h3
  rcases Nat.eq_or_lt_of_le h1 with e | h3
  · exact e.symm
  · have := hR _ _ (zj4 d h h3 hj) hk
    rw [lb_at q d l (by omega)] at this; cases this
theorem zct {α : Type} {R : α → α → Prop} {q : α → Bool} {p : α → Prop} (d : α) {l : List α} (h : l.Pairwise R) (hp : ∀ a, p a → q a = false) (hR : ∀ a b, R a b → p b → q a = true) :
    (∃ a ∈ l, p a) ↔ lb q l < l.length ∧ p (nth d l (lb q l)) := by
  constructor
  · rintro ⟨a, ha, hpa⟩
    obtain ⟨j, hj, rfl⟩ := zdt d ha
    have := zdr d h hp hR hj hpa
    rw [← this]; exact ⟨hj, hpa⟩
  · rintro ⟨h1, h2⟩; exact ⟨_, zw h1, h2⟩
theorem zmg {α : Type} {R : α → α → Prop} {q : α → Bool} {p : α → Prop} [DecidablePred p] (d : α) {l : List α} (h : l.Pairwise R) (hp : ∀ a, p a → q a = false) (hR : ∀ a b, R a b → p b → q a = true) :
    l.findIdx? (fun a => decide (p a)) = if ∃ a ∈ l, p a then some (lb q l) else none := by
  split
  · rename_i he
    obtain ⟨h1, h2⟩ := (zct d h hp hR).1 he
    rw [List.findIdx?_eq_some_iff_getElem]
    refine ⟨h1, ?_, fun j hj => ?_⟩
    · rw [← zo d l _ h1]; exact decide_eq_true h2
    · rw [← zo d l j (by omega)]
      simp only [decide_eq_true_eq]
      intro hpj
      have := zdr d h hp hR (show j < l.length by omega) hpj
      omega
  · rename_i he
    rw [List.findIdx?_eq_none_iff]
    intro a ha
    exact decide_eq_false fun hpa => he ⟨a, ha, hpa⟩
theorem zf6 {α : Type} {R : α → α → Prop} {q : α → Bool} {p : α → Prop} [DecidablePred p] (d : α) {l : List α} (h : l.Pairwise R) (hp : ∀ a, p a → q a = false) (hR : ∀ a b, R a b → p b → q a = true) (he : ∃ a ∈ l, p a) :
    l.filter (fun a => !decide (p a)) = l.take (lb q l) ++ l.drop (lb q l + 1) := by
  obtain ⟨h1, h2⟩ := (zct d h hp hR).1 he
  conv => lhs; rw [← List.take_append_drop (lb q l) l, List.filter_append, zcg d h1, List.filter_cons]
  rw [if_neg (by simp [h2])]
  congr 1
  · apply List.filter_eq_self.2
    intro a ha
    obtain ⟨j, hj, rfl⟩ := List.mem_iff_getElem.1 ha
    simp only [List.getElem_take, Bool.not_eq_true', decide_eq_false_iff_not]
    rw [List.length_take] at hj
    rw [← zo d l j (by omega)]
    intro hpj; have := zdr d h hp hR (show j < l.length by omega) hpj; omega
  · apply List.filter_eq_self.2
    intro a ha
    obtain ⟨j, hj, rfl⟩ := List.mem_iff_getElem.1 ha
    simp only [List.getElem_drop, Bool.not_eq_true', decide_eq_false_iff_not]
    rw [List.length_drop] at hj
    rw [← zo d l _ (by omega)]
    intro hpj; have := zdr d h hp hR (show lb q l + 1 + j < l.length by omega) hpj; omega
def SrtK (l : List Kept) : Prop := l.Pairwise fun a b => slt a.sum b.sum = true
def SrtP (l : List Pin) : Prop := l.Pairwise fun a b => slt a.name b.name = true
def SrtL (l : List Lease) : Prop := l.Pairwise fun a b => a.number < b.number
def qK (x : Bs) (k : Kept) : Bool := slt k.sum x
def qP (x : Bs) (k : Pin) : Bool := slt k.name x
def qL (x : Int) (k : Lease) : Bool := decide (k.number < x)
def hasT (l : List Kept) (x : Bs) : Prop := ∃ k ∈ l, k.sum = x
def hasP (l : List Pin) (x : Bs) : Prop := ∃ k ∈ l, k.name = x
def hasL (l : List Lease) (x : Int) : Prop := ∃ k ∈ l, k.number = x
theorem kp (x : Bs) (a : Kept) (h : a.sum = x) : qK x a = false := by unfold qK; rw [h, zdd]
theorem kR (x : Bs) (a b : Kept) (h : slt a.sum b.sum = true) (hb : b.sum = x) : qK x a = true := by unfold qK; rw [← hb]; exact h
theorem pp (x : Bs) (a : Pin) (h : a.name = x) : qP x a = false := by unfold qP; rw [h, zdd]
theorem pR (x : Bs) (a b : Pin) (h : slt a.name b.name = true) (hb : b.name = x) : qP x a = true := by unfold qP; rw [← hb]; exact h
theorem lp (x : Int) (a : Lease) (h : a.number = x) : qL x a = false := by unfold qL; simp; omega
theorem lR (x : Int) (a b : Lease) (h : a.number < b.number) (hb : b.number = x) : qL x a = true := by unfold qL; simp; omega
theorem zea {l : List Kept} (h : SrtK l) (x : Bs) : hasT l x ↔ lb (qK x) l < l.length ∧ (nth K0 l (lb (qK x) l)).sum = x := zct K0 h (kp x) (kR x)
theorem zc7 {l : List Pin} (h : SrtP l) (x : Bs) : hasP l x ↔ lb (qP x) l < l.length ∧ (nth P0 l (lb (qP x) l)).name = x := zct P0 h (pp x) (pR x)
theorem zi9 {l : List Lease} (h : SrtL l) (x : Int) : hasL l x ↔ lb (qL x) l < l.length ∧ (nth L0 l (lb (qL x) l)).number = x := zct L0 h (lp x) (lR x)
structure VS (s : State) : Prop where
  wd : 1 ≤ s.width ∧ s.width ≤ 8
  now : 0 ≤ s.now ∧ s.now ≤ 1000000000
  given : 0 ≤ s.given ∧ s.given ≤ 1000000000
  births : 0 ≤ s.births ∧ s.births ≤ 1000000000
  nT : s.things.length ≤ 600
  nP : s.pins.length ≤ 100
  nL : s.leases.length ≤ 200
  srtT : SrtK s.things
  okT : ∀ k ∈ s.things, ThingOk k.thing s.width ∧ k.sum = sumM (formM k.thing) s.width ∧ 1 ≤ k.born ∧ k.born ≤ s.births
  ndT : (s.things.map (·.born)).Nodup
  refs : ∀ k ∈ s.things, ∀ r ∈ k.thing.refs, ∃ j ∈ s.things, j.sum = r ∧ j.born < k.born
  srtP : SrtP s.pins
  okP : ∀ p ∈ s.pins, NameOk p.name ∧ hasT s.things p.sum
  srtL : SrtL s.leases
  okL : ∀ l ∈ s.leases, 1 ≤ l.number ∧ l.number ≤ s.given ∧ hasT s.things l.sum ∧ s.now < l.till ∧ l.till ≤ s.now + 100000
structure Out where
  code : Int
  st : State
  sum : Bs
  lease : Int
  a : Bs
  b : Bs
def fail (s : State) (c : Int) : Out := ⟨c, s, E0, 0, E0, E0⟩
def done (s : State) : Out := ⟨0, s, E0, 0, E0, E0⟩
def lent (s : State) (x : Bs) (hold : Int) : State := { s with given := s.given + 1, leases := s.leases ++ [⟨s.given + 1, x, s.now + hold⟩] }
def insK (k : Kept) (l : List Kept) : List Kept := l.take (lb (qK k.sum) l) ++ k :: l.drop (lb (qK k.sum) l)
noncomputable def delK (x : Bs) (l : List Kept) : List Kept := l.filter fun k => !decide (k.sum = x)
noncomputable def putP (n x : Bs) (l : List Pin) : List Pin := if hasP l n then l.set (lb (qP n) l) ⟨n, x⟩ else l.take (lb (qP n) l) ++ ⟨n, x⟩ :: l.drop (lb (qP n) l)
noncomputable def delP (n : Bs) (l : List Pin) : List Pin := l.filter fun k => !decide (k.name = n)
noncomputable def delL (n : Int) (l : List Lease) : List Lease := l.filter fun k => !decide (k.number = n)
def held (s : State) (x : Bs) : Prop := (∃ p ∈ s.pins, p.sum = x) ∨ ∃ l ∈ s.leases, l.sum = x
def isRef (l : List Kept) (x : Bs) : Prop := ∃ k ∈ l, x ∈ k.thing.refs
def room (s : State) : Prop := s.leases.length < 200 ∧ s.given < 1000000000
noncomputable def putS (s : State) (e : Entry) : Out :=
  if ∃ r ∈ e.thing.refs, ¬ hasT s.things r then fail s 2
  else if hasT s.things (sumM (formM e.thing) s.width) then
    (if formM (nth K0 s.things (lb (qK (sumM (formM e.thing) s.width)) s.things)).thing = formM e.thing then
      (if room s then { done (lent s (sumM (formM e.thing) s.width) e.number) with sum := sumM (formM e.thing) s.width, lease := s.given + 1 } else fail s 4)
    else { fail s 3 with a := formM (nth K0 s.things (lb (qK (sumM (formM e.thing) s.width)) s.things)).thing, b := formM e.thing })
  else if room s ∧ s.things.length < 600 ∧ s.births < 1000000000 then
    { done (lent { s with births := s.births + 1, things := insK ⟨sumM (formM e.thing) s.width, s.births + 1, e.thing⟩ s.things } (sumM (formM e.thing) s.width) e.number) with sum := sumM (formM e.thing) s.width, lease := s.given + 1 }
  else fail s 4
noncomputable def chg (s : State) (e : Entry) : Out :=
  if e.kind = 1 then putS s e
  else if e.kind = 2 then
    (if hasT s.things e.sum then (if hasP s.pins e.name ∨ s.pins.length < 100 then done { s with pins := putP e.name e.sum s.pins } else fail s 4) else fail s 2)
  else if e.kind = 3 then (if hasP s.pins e.name then done { s with pins := delP e.name s.pins } else fail s 5)
  else if e.kind = 4 then
    (if hasT s.things e.sum then (if room s then { done (lent s e.sum e.number) with lease := s.given + 1 } else fail s 4) else fail s 2)
  else if e.kind = 5 then (if hasL s.leases e.number then done { s with leases := delL e.number s.leases } else fail s 5)
  else if e.kind = 6 then (if s.now + e.number ≤ 1000000000 then done { s with now := s.now + e.number, leases := s.leases.filter fun l => decide (s.now + e.number < l.till) } else fail s 4)
  else (if hasT s.things e.sum then (if held s e.sum ∨ isRef s.things e.sum then fail s 6 else done { s with things := delK e.sum s.things }) else fail s 2)
end KV
end
section
namespace KV
open Go Go.Eng
open Classical
theorem zgj {lo hi : Nat} (h : lo + hi ≤ 4294967296) : IntKind.i64.wrap ((IntKind.u64.wrap (IntKind.i64.wrap ((lo : Int) + (hi : Int)))).fdiv (2 ^ 1)) = (((lo + hi) / 2 : Nat) : Int) := by
  rw [w64 (n := (lo : Int) + (hi : Int)) (by omega), zge, Int.fdiv_eq_ediv_of_nonneg _ (by decide), w64 (by omega)]
  omega
theorem zoa (w now g b : Int) (T : List Kept) (P L : Rw) (x : Bs) (h : SrtK T) (hn : T.length ≤ 1000000) :
    Lq8 none [.i (T.length : Int), .i w, .i now, .i g, .i b, .l (encK T), .l P, .l L, .s x] = some [.i (lb (qK x) T : Int)] := by
  rw [eq8_i]
  refine zfs (f := fun lo hi => Lq8 (some 2) [.i (lo : Int), .i (hi : Int), .s x, .i w, .i now, .i g, .i b, .l (encK T), .l P, .l L]) (q := fun j => qK x (nth K0 T j)) (lb_le _ _) (fun j hj => lb_lt _ K0 _ _ hj) (fun j h1 h2 => lb_hi K0 h (fun a c hac hc => zb2 hac hc) j h1 h2) (fun lo hi hl hh => ?_) (fun lo hl => ?_)
  · show Lq8 _ _ = _
    rw [eq8_2, zgj (by omega), eqcr_i]
    have : (lo + hi) / 2 < hi := by omega
    generalize (lo + hi) / 2 = m at this
    simp (disch := omega) only [push_cast]
    unfold qK
    cases slt (nth K0 T m).sum x <;> rfl
  · show Lq8 _ _ = _
    rw [eq8_2]; simp (disch := omega) only [push_cast]
theorem zpb (w now g b : Int) (T L : Rw) (P : List Pin) (x : Bs) (h : SrtP P) (hn : P.length ≤ 1000000) :
    Lq9 none [.i (P.length : Int), .i w, .i now, .i g, .i b, .l T, .l (encP P), .l L, .s x] = some [.i (lb (qP x) P : Int)] := by
  rw [eq9_i]
  refine zfs (f := fun lo hi => Lq9 (some 2) [.i (lo : Int), .i (hi : Int), .s x, .i w, .i now, .i g, .i b, .l T, .l (encP P), .l L]) (q := fun j => qP x (nth P0 P j)) (lb_le _ _) (fun j hj => lb_lt _ P0 _ _ hj) (fun j h1 h2 => lb_hi P0 h (fun a c hac hc => zb2 hac hc) j h1 h2) (fun lo hi hl hh => ?_) (fun lo hl => ?_)
  · show Lq9 _ _ = _
    rw [eq9_2, zgj (by omega), eqcs_i]
    have : (lo + hi) / 2 < hi := by omega
    generalize (lo + hi) / 2 = m at this
    simp (disch := omega) only [push_cast]
    unfold qP
    cases slt (nth P0 P m).name x <;> rfl
  · show Lq9 _ _ = _
    rw [eq9_2]; simp (disch := omega) only [push_cast]
theorem zo7 (w now g b : Int) (T P : Rw) (L : List Lease) (x : Int) (h : SrtL L) (hn : L.length ≤ 1000000) :
    Lqba none [.i (L.length : Int), .i w, .i now, .i g, .i b, .l T, .l P, .l (encL L), .i x] = some [.i (lb (qL x) L : Int)] := by
  rw [eqba_i]
  refine zfs (f := fun lo hi => Lqba (some 2) [.i (lo : Int), .i (hi : Int), .i x, .i w, .i now, .i g, .i b, .l T, .l P, .l (encL L)]) (q := fun j => qL x (nth L0 L j)) (lb_le _ _) (fun j hj => lb_lt _ L0 _ _ hj) (fun j h1 h2 => lb_hi L0 h (fun a c hac hc => by unfold qL at hc ⊢; simp at hc ⊢; omega) j h1 h2) (fun lo hi hl hh => ?_) (fun lo hl => ?_)
  · show Lqba _ _ = _
    rw [eqba_2, zgj (by omega), eqct_i]
    have : (lo + hi) / 2 < hi := by omega
    generalize (lo + hi) / 2 = m at this
    simp (disch := omega) only [push_cast]
    unfold qL
    by_cases hq : (nth L0 L m).number < x
    · rw [show decide (x ≤ (nth L0 L m).number) = false by simp; omega, show decide ((nth L0 L m).number < x) = true by simp; omega]; rfl
    · rw [show decide (x ≤ (nth L0 L m).number) = true by simp; omega, show decide ((nth L0 L m).number < x) = false by simp; omega]; rfl
  · show Lqba _ _ = _
    rw [eqba_2]; simp (disch := omega) only [push_cast]
theorem zb4 (w now g b : Int) (T : List Kept) (P L : Rw) (x : Bs) (h : SrtK T) (hn : T.length ≤ 1000000) :
    Lqbu none [.s x, .i w, .i now, .i g, .i b, .l (encK T), .l P, .l L] = some [.i (lb (qK x) T : Int), .b (decide (hasT T x))] := by
  have hl := lb_le (qK x) T
  have hi := zea h x
  rw [eqbu_i, zcb, zoa w now g b T P L x h hn]
  by_cases h1 : lb (qK x) T < T.length
  · simp (disch := omega) only [push_cast]
    by_cases h2 : (nth K0 T (lb (qK x) T)).sum = x
    · rw [decide_eq_true h2, decide_eq_true (hi.2 ⟨h1, h2⟩)]
    · rw [decide_eq_false h2, decide_eq_false fun h3 => h2 (hi.1 h3).2]
  · simp (disch := omega) only [push_cast]
    rw [decide_eq_false fun h3 => h1 (hi.1 h3).1]
theorem ziu (w now g b : Int) (T L : Rw) (P : List Pin) (x : Bs) (h : SrtP P) (hn : P.length ≤ 1000000) :
    Lqb5 none [.s x, .i w, .i now, .i g, .i b, .l T, .l (encP P), .l L] = some [.i (lb (qP x) P : Int), .b (decide (hasP P x))] := by
  have hl := lb_le (qP x) P
  have hi := zc7 h x
  rw [eqb5_i, zby, zpb w now g b T L P x h hn]
  by_cases h1 : lb (qP x) P < P.length
  · simp (disch := omega) only [push_cast]
    by_cases h2 : (nth P0 P (lb (qP x) P)).name = x
    · rw [decide_eq_true h2, decide_eq_true (hi.2 ⟨h1, h2⟩)]
    · rw [decide_eq_false h2, decide_eq_false fun h3 => h2 (hi.1 h3).2]
  · simp (disch := omega) only [push_cast]
    rw [decide_eq_false fun h3 => h1 (hi.1 h3).1]
theorem zks (w now g b : Int) (T P : Rw) (L : List Lease) (x : Int) (h : SrtL L) (hn : L.length ≤ 1000000) :
    Lqcd none [.i x, .i w, .i now, .i g, .i b, .l T, .l P, .l (encL L)] = some [.i (lb (qL x) L : Int), .b (decide (hasL L x))] := by
  have hl := lb_le (qL x) L
  have hi := zi9 h x
  rw [eqcd_i, zck, zo7 w now g b T P L x h hn]
  by_cases h1 : lb (qL x) L < L.length
  · simp (disch := omega) only [push_cast]
    by_cases h2 : (nth L0 L (lb (qL x) L)).number = x
    · rw [decide_eq_true h2, decide_eq_true (hi.2 ⟨h1, h2⟩)]
    · rw [decide_eq_false h2, decide_eq_false fun h3 => h2 (hi.1 h3).2]
  · simp (disch := omega) only [push_cast]
    rw [decide_eq_false fun h3 => h1 (hi.1 h3).1]
theorem zbr {α : Type} {f : Nat → Option Lv} {l : List α} (d : α) {p : α → Prop} [DecidablePred p] {T E : Option Lv} (step : ∀ i, i < l.length → f i = cond (decide (p (nth d l i))) T (f (i + 1))) (last : f l.length = E) : f 0 = if (∃ a ∈ l, p a) then T else E := by
  have := zju (f := f) (l := l) (d := d) (p := fun a => decide (p a)) (ret := fun _ => T) (e := E) step last
  rw [this]
  by_cases h : ∃ a ∈ l, p a
  · rw [if_pos h]
    cases hf : l.findIdx? (fun a => decide (p a)) with
    | none =>
      rw [List.findIdx?_eq_none_iff] at hf
      obtain ⟨a, ha, hp⟩ := h
      have := hf a ha; simp [hp] at this
    | some i => rfl
  · rw [if_neg h]
    cases hf : l.findIdx? (fun a => decide (p a)) with
    | none => rfl
    | some i =>
      obtain ⟨h1, h2, _⟩ := List.findIdx?_eq_some_iff_getElem.1 hf
      exact absurd ⟨_, List.getElem_mem h1, of_decide_eq_true h2⟩ h
theorem zlx (s : State) (x : Bs) (h1 : s.pins.length ≤ 1000000) (h2 : s.leases.length ≤ 1000000) : Lqm none (.s x :: encSt s) = some [.b (decide (held s x))] := by
  unfold encSt
  rw [eqm_i]
  have a1 := zbr (f := fun i : Nat => Lqm (some 8) [.s x, .l (encL s.leases), .i (s.leases.length : Int), .i (i : Int)]) L0 (l := s.leases) (p := fun l => l.sum = x) (T := some [.b true]) (E := some [.b false]) (fun i hi => by
    show Lqm _ _ = cond _ _ (Lqm _ _)
    rw [eqm_8]; simp (disch := omega) only [push_cast]) (by show Lqm _ _ = _; rw [eqm_8]; simp (disch := omega) only [push_cast])
  have a2 := zbr (f := fun i : Nat => Lqm (some 2) [.s x, .l (encP s.pins), .i (s.pins.length : Int), .i (i : Int), .i s.width, .i s.now, .i s.given, .i s.births, .l (encK s.things), .l (encP s.pins), .l (encL s.leases)]) P0 (l := s.pins) (p := fun l => l.sum = x) (T := some [.b true]) (E := Lqm (some 8) [.s x, .l (encL s.leases), .i (s.leases.length : Int), .i 0]) (fun i hi => by
    show Lqm _ _ = cond _ _ (Lqm _ _)
    rw [eqm_2]; simp (disch := omega) only [push_cast]) (by show Lqm _ _ = _; rw [eqm_2]; simp (disch := omega) only [push_cast])
  rw [zby]
  refine a2.trans ?_
  by_cases h : ∃ p ∈ s.pins, p.sum = x
  · rw [if_pos h, decide_eq_true (p := held s x) (Or.inl h)]
  · rw [if_neg h]
    refine a1.trans ?_
    by_cases h3 : ∃ l ∈ s.leases, l.sum = x
    · rw [if_pos h3, decide_eq_true (p := held s x) (Or.inr h3)]
    · rw [if_neg h3, decide_eq_false (p := held s x) (by rintro (h4 | h4); exact h h4; exact h3 h4)]
theorem znw (a b c d : Int) (T : List Kept) (P L : Rw) (x : Bs) (h1 : T.length ≤ 1000000) (h2 : ∀ k ∈ T, k.thing.refs.length ≤ 1000000) : Lqn none [.s x, .i a, .i b, .i c, .i d, .l (encK T), .l P, .l L] = some [.b (decide (isRef T x))] := by
  rw [eqn_i]
  have a2 := zbr (f := fun i : Nat => Lqn (some 2) [.s x, .l (encK T), .i (T.length : Int), .i (i : Int)]) K0 (l := T) (p := fun k => x ∈ k.thing.refs) (T := some [.b true]) (E := some [.b false]) (fun i hi => by
    show Lqn _ _ = cond _ _ (Lqn _ _)
    have hr := h2 _ (zw (d := K0) hi)
    rw [eqn_2]; simp (disch := omega) only [push_cast]
    have a1 := zbr (f := fun j : Nat => Lqn (some 5) [.s x, .l (encK T), .i (T.length : Int), .i (i : Int), .l (encS (nth K0 T i).thing.refs), .i ((nth K0 T i).thing.refs.length : Int), .i (j : Int)]) .empty (l := (nth K0 T i).thing.refs) (p := fun r => r = x) (T := some [.b true]) (E := Lqn (some 2) [.s x, .l (encK T), .i (T.length : Int), .i ((i : Int) + 1)]) (fun j hj => by
      show Lqn _ _ = cond _ _ (Lqn _ _)
      rw [eqn_5]; simp (disch := omega) only [push_cast]) (by show Lqn _ _ = _; rw [eqn_5]; simp (disch := omega) only [push_cast])
    refine a1.trans ?_
    by_cases h : ∃ r ∈ (nth K0 T i).thing.refs, r = x
    · rw [if_pos h, decide_eq_true (p := x ∈ (nth K0 T i).thing.refs) (by obtain ⟨r, hr, rfl⟩ := h; exact hr), cond_true]
    · rw [if_neg h, decide_eq_false (p := x ∈ (nth K0 T i).thing.refs) (fun h3 => h ⟨x, h3, rfl⟩), cond_false]) (by show Lqn _ _ = _; rw [eqn_2]; simp (disch := omega) only [push_cast])
  rw [zcb]
  refine a2.trans ?_
  by_cases h : ∃ k ∈ T, x ∈ k.thing.refs
  · rw [if_pos h, decide_eq_true (p := isRef T x) h]
  · rw [if_neg h, decide_eq_false (p := isRef T x) h]
end KV
end
section
namespace KV
open Go Go.Eng
open Classical
def zy (o : Out) : Lv := [.i o.code, .i 0, .i 0, .i 0, .i 0, .s o.sum, .i o.lease, .s o.a, .s o.b, .i o.st.width, .i o.st.now, .i o.st.given, .i o.st.births, .l [], .l [], .l [], .l (encK o.st.things), .l (encP o.st.pins), .l (encL o.st.leases)]
theorem zmz (n : Nat) : Nat.ble n (n + 1) = true := Nat.ble_eq_true_of_le (Nat.le_succ n)
theorem zba (c : Int) : Lq0 none [.i c] = some [.i c, .i 0, .i 0, .i 0, .i 0, .s E0, .i 0, .s E0, .s E0, .l [], .l [], .l []] := by rw [eq0_i]
theorem zdi (a b c d e f g h i : Int) (j : Bs) (k : Int) (l m : Bs) (T P L x y z : Rw) : Lqa (some 78) [.i a, .i b, .i c, .i d, .i e, .i f, .i g, .i h, .i i, .s j, .i k, .s l, .s m, .l T, .l P, .l L, .l x, .l y, .l z] =
    some [.i 0, .i 0, .i 0, .i 0, .i 0, .s E0, .i 0, .s E0, .s E0, .i a, .i b, .i c, .i d, .l [], .l [], .l [], .l T, .l P, .l L] := by
  rw [eqa_78, zba]; simp (disch := omega) only [push_cast]
theorem zkb (a b c d e f g h i : Int) (j : Bs) (k : Int) (l m : Bs) (T P L x y z : Rw) : Lqa (some 76) [.i a, .i b, .i c, .i d, .i e, .i f, .i g, .i h, .i i, .s j, .i k, .s l, .s m, .l T, .l P, .l L, .l x, .l y, .l z] =
    some [.i 6, .i 0, .i 0, .i 0, .i 0, .s E0, .i 0, .s E0, .s E0, .i a, .i b, .i c, .i d, .l [], .l [], .l [], .l T, .l P, .l L] := by
  rw [eqa_76, zba]; simp (disch := omega) only [push_cast]
theorem zeu (a b c d e f g h i : Int) (j : Bs) (k : Int) (l m : Bs) (T P L x y z : Rw) : Lqa (some 21) [.i a, .i b, .i c, .i d, .i e, .i f, .i g, .i h, .i i, .s j, .i k, .s l, .s m, .l T, .l P, .l L, .l x, .l y, .l z] =
    some [.i 4, .i 0, .i 0, .i 0, .i 0, .s E0, .i 0, .s E0, .s E0, .i a, .i b, .i c, .i d, .l [], .l [], .l [], .l T, .l P, .l L] := by
  rw [eqa_21, zba]; simp (disch := omega) only [push_cast]
theorem zi0 (x : Bs) (w now gv b k : Int) (s n : Bs) (m : Int) (t : Bs) (r T P : Rw) (L : List Lease) (hl : L.length ≤ 1000000) (hg : 0 ≤ gv ∧ gv ≤ 1000000000) (hn : 0 ≤ now ∧ now ≤ 1000000000) (hm : 0 ≤ m ∧ m ≤ 1000000000) :
    Lqb4 none [.s x, .i w, .i now, .i gv, .i b, .i k, .s s, .s n, .i m, .s t, .l r, .l T, .l P, .l (encL L)] =
      some [.i 0, .i 0, .i 0, .i 0, .i 0, .s E0, .i (gv + 1), .s E0, .s E0, .i w, .i now, .i (gv + 1), .i b, .i k, .s s, .s n, .i m, .s t, .l r, .l T, .l P, .l (encL (L ++ [⟨gv + 1, x, now + m⟩])), .l [], .l [], .l []] := by
  rw [eqb4_i, ← zcy, mostE]; simp (disch := omega) only [push_cast] <;> rfl
theorem zdn {α : Type} (l : List α) (i : Nat) : (l.drop 0).take (i - 0) = l.take i := by simp
theorem zdy {α : Type} (l : List α) (i : Nat) : (l.drop i).take (l.length - i) = l.drop i := List.take_of_length_le (by simp)
def args4 (s : State) (e : Entry) : Lv := [.i s.width, .i s.now, .i s.given, .i s.births, .i e.kind, .s e.sum, .s e.name, .i e.number, .s e.thing.text, .l (encS e.thing.refs), .i 0, .i 0, .i 0, .i 0, .i 0, .s E0, .i 0, .s E0, .s E0, .l (encK s.things), .l (encP s.pins), .l (encL s.leases), .l [], .l [], .l []]
section
variable {s : State} {e : Entry} (V : VS s)
include V
theorem zkr (hk : e.kind = 2) (r : Bool) : Lqa (some 4) (.b r :: args4 s e) = some (zy (chg s e)) := by
  unfold args4 chg
  have h1 := V.nT; have h2 := V.nP
  rw [eqa_4, if_neg (by omega), if_pos hk, hk]
  by_cases hT : hasT s.things e.sum
  · have hl := lb_le (qP e.name) s.pins
    rw [if_pos hT]
    simp (disch := omega) only [push_cast, zb4 _ _ _ _ s.things _ _ e.sum V.srtT (by omega), decide_eq_true hT, ziu _ _ _ _ _ _ s.pins e.name V.srtP (by omega)]
    by_cases hP : hasP s.pins e.name
    · have hi := (zc7 V.srtP e.name).1 hP
      rw [if_pos (Or.inl hP), decide_eq_true hP]
      simp (disch := omega) only [push_cast, zba]
      rw [wrP _ _ _ hi.1, hi.2]
      unfold zy done putP
      rw [if_pos hP] <;> rfl
    · rw [decide_eq_false hP]
      by_cases hc : s.pins.length = 100
      · rw [if_neg (by rintro (h | h); exact hP h; omega)]
        simp (disch := omega) only [push_cast, zba]; rfl
      · rw [if_pos (Or.inr (by omega))]
        have hs1 : Eng.sub (encP s.pins) 0 (lb (qP e.name) s.pins) = encP (s.pins.take (lb (qP e.name) s.pins)) := by rw [zeo, zdn]
        have hs2 : Eng.sub (encP s.pins) (lb (qP e.name) s.pins) s.pins.length = encP (s.pins.drop (lb (qP e.name) s.pins)) := by rw [zeo, zdy]
        simp (disch := omega) only [push_cast, hs1, hs2, mostE, List.length_append, List.length_take, List.length_drop]
        rw [zdi, zfw, zcj, zcj]
        unfold zy done putP
        rw [if_neg hP, List.append_assoc] <;> rfl
  · rw [if_neg hT]
    simp (disch := omega) only [push_cast, zb4 _ _ _ _ s.things _ _ e.sum V.srtT (by omega), decide_eq_false hT, zba]; rfl
theorem zme (hk : e.kind = 3) (r : Bool) : Lqa (some 4) (.b r :: args4 s e) = some (zy (chg s e)) := by
  unfold args4 chg
  have h1 := V.nT; have h2 := V.nP
  rw [eqa_4, if_neg (by omega), if_neg (by omega), if_pos hk, hk]
  have hl := lb_le (qP e.name) s.pins
  simp (disch := omega) only [push_cast, ziu _ _ _ _ _ _ s.pins e.name V.srtP (by omega)]
  by_cases hP : hasP s.pins e.name
  · have hi := (zc7 V.srtP e.name).1 hP
    rw [if_pos hP, decide_eq_true hP]
    have hs1 : Eng.sub (encP s.pins) 0 (lb (qP e.name) s.pins) = encP (s.pins.take (lb (qP e.name) s.pins)) := by rw [zeo, zdn]
    have hs2 : Eng.sub (encP s.pins) (lb (qP e.name) s.pins + 1) s.pins.length = encP (s.pins.drop (lb (qP e.name) s.pins + 1)) := by rw [zeo, zdy]
    simp (disch := omega) only [push_cast, hs1, hs2, mostE, List.length_append, List.length_take, List.length_drop]
    rw [zdi, zcj]
    unfold zy done delP
    rw [zf6 P0 V.srtP (pp e.name) (pR e.name) hP] <;> rfl
  · rw [if_neg hP, decide_eq_false hP]
    simp (disch := omega) only [push_cast, zba]; rfl
theorem zke (hk : e.kind = 4) (hm : 0 ≤ e.number ∧ e.number ≤ 1000000000) : Lqa (some 4) (.b (decide (room s)) :: args4 s e) = some (zy (chg s e)) := by
  unfold args4 chg
  have h1 := V.nT; have h2 := V.nL
  rw [eqa_4, if_neg (by omega), if_neg (by omega), if_neg (by omega), if_pos hk, hk]
  by_cases hT : hasT s.things e.sum
  · rw [if_pos hT]
    simp (disch := omega) only [push_cast, zb4 _ _ _ _ s.things _ _ e.sum V.srtT (by omega), decide_eq_true hT]
    by_cases hr : room s
    · rw [if_pos hr, decide_eq_true hr]
      simp (disch := omega) only [push_cast, zi0 e.sum s.width s.now s.given s.births 4 e.sum e.name e.number e.thing.text (encS e.thing.refs) (encK s.things) (encP s.pins) s.leases (by omega) V.given V.now hm]; rfl
    · rw [if_neg hr, decide_eq_false hr]
      simp (disch := omega) only [push_cast, zba]; rfl
  · rw [if_neg hT]
    simp (disch := omega) only [push_cast, zb4 _ _ _ _ s.things _ _ e.sum V.srtT (by omega), decide_eq_false hT, zba]; rfl
theorem zo8 (hk : e.kind = 5) (r : Bool) : Lqa (some 4) (.b r :: args4 s e) = some (zy (chg s e)) := by
  unfold args4 chg
  have h1 := V.nT; have h2 := V.nL
  rw [eqa_4, if_neg (by omega), if_neg (by omega), if_neg (by omega), if_neg (by omega), if_pos hk, hk]
  have hl := lb_le (qL e.number) s.leases
  simp (disch := omega) only [push_cast, zks _ _ _ _ _ _ s.leases e.number V.srtL (by omega)]
  by_cases hP : hasL s.leases e.number
  · have hi := (zi9 V.srtL e.number).1 hP
    rw [if_pos hP, decide_eq_true hP]
    have hs1 : Eng.sub (encL s.leases) 0 (lb (qL e.number) s.leases) = encL (s.leases.take (lb (qL e.number) s.leases)) := by rw [zhj, zdn]
    have hs2 : Eng.sub (encL s.leases) (lb (qL e.number) s.leases + 1) s.leases.length = encL (s.leases.drop (lb (qL e.number) s.leases + 1)) := by rw [zhj, zdy]
    simp (disch := omega) only [push_cast, hs1, hs2, mostE, List.length_append, List.length_take, List.length_drop]
    rw [zdi, zcy]
    unfold zy done delL
    rw [zf6 L0 V.srtL (lp e.number) (lR e.number) hP] <;> rfl
  · rw [if_neg hP, decide_eq_false hP]
    simp (disch := omega) only [push_cast, zba]; rfl
theorem zma (hk : e.kind = 6) (hm : 0 ≤ e.number ∧ e.number ≤ 1000000000) (r : Bool) : Lqa (some 4) (.b r :: args4 s e) = some (zy (chg s e)) := by
  unfold args4 chg
  have h2 := V.nL; have h3 := V.now
  rw [eqa_4, if_neg (by omega), if_neg (by omega), if_neg (by omega), if_neg (by omega), if_neg (by omega), if_pos hk, hk]
  by_cases hn : s.now + e.number ≤ 1000000000
  · rw [if_pos hn]
    simp (disch := omega) only [push_cast]
    have := zr (f := fun (i : Nat) (a : List Lease) => Lqa (some 65) [.i (s.leases.length : Int), .i (i : Int), .i s.width, .i (s.now + e.number), .i s.given, .i s.births, .i 0, .i 0, .i 0, .i 0, .i 0, .s E0, .i 0, .s E0, .s E0, .l (encL a), .l (encL s.leases), .l (encK s.things), .l (encP s.pins), .l [], .l [], .l []]) (n := s.leases.length)
      (T := some (zy (done { s with now := s.now + e.number, leases := s.leases.filter fun l => decide (s.now + e.number < l.till) })))
      (I := fun i a => a = (s.leases.take i).filter fun l => decide (s.now + e.number < l.till)) (fun i a hi hI => by
        have hle : a.length ≤ i := by rw [hI]; exact Nat.le_trans (List.length_filter_le _ _) (by simp; omega)
        by_cases ht : s.now + e.number < (nth L0 s.leases i).till
        · refine ⟨a ++ [nth L0 s.leases i], ?_, ?_⟩
          · show Lqa _ _ = Lqa _ _
            rw [eqa_65, mostE, ← zcy]; simp (disch := omega) only [push_cast] <;> rfl
          · show a ++ [nth L0 s.leases i] = _
            rw [zbl L0 hi, List.filter_append, ← hI]; simp [ht]
        · refine ⟨a, ?_, ?_⟩
          · show Lqa _ _ = Lqa _ _
            rw [eqa_65]; simp (disch := omega) only [push_cast]
          · show a = _
            rw [zbl L0 hi, List.filter_append, ← hI]; simp [ht]) (fun a hI => by
        show Lqa _ _ = _
        rw [eqa_65]; simp (disch := omega) only [push_cast, zdi]
        rw [hI, List.take_length]; rfl) 0 [] (Nat.zero_le _) rfl
    exact this
  · rw [if_neg hn]
    simp (disch := omega) only [push_cast, zba]; rfl
theorem zo9 (hk : e.kind = 7) (r : Bool) : Lqa (some 4) (.b r :: args4 s e) = some (zy (chg s e)) := by
  unfold args4 chg
  have h1 := V.nT; have h2 := V.nP; have h3 := V.nL
  rw [eqa_4, if_neg (by omega), if_neg (by omega), if_neg (by omega), if_neg (by omega), if_neg (by omega), if_neg (by omega), hk]
  have hl := lb_le (qK e.sum) s.things
  by_cases hT : hasT s.things e.sum
  · have hi := (zea V.srtT e.sum).1 hT
    have hh := zlx s e.sum (by omega) (by omega)
    have hr := znw s.width s.now s.given s.births s.things (encP s.pins) (encL s.leases) e.sum (by omega) (fun k hk => by have := (V.okT k hk).1.refs; omega)
    rw [if_pos hT]
    unfold encSt at hh
    simp (disch := omega) only [push_cast, zb4 _ _ _ _ s.things _ _ e.sum V.srtT (by omega), decide_eq_true hT, hh]
    by_cases c1 : held s e.sum
    · rw [if_pos (Or.inl c1), decide_eq_true c1]
      simp (disch := omega) only [push_cast, zkb]; rfl
    · rw [decide_eq_false c1]
      by_cases c2 : isRef s.things e.sum
      · rw [if_pos (Or.inr c2)]
        simp (disch := omega) only [push_cast, hr, decide_eq_true c2, zkb]; rfl
      · rw [if_neg (by rintro (h | h); exact c1 h; exact c2 h)]
        have hs1 : Eng.sub (encK s.things) 0 (lb (qK e.sum) s.things) = encK (s.things.take (lb (qK e.sum) s.things)) := by rw [zed, zdn]
        have hs2 : Eng.sub (encK s.things) (lb (qK e.sum) s.things + 1) s.things.length = encK (s.things.drop (lb (qK e.sum) s.things + 1)) := by rw [zed, zdy]
        simp (disch := omega) only [push_cast, hr, decide_eq_false c2, hs1, hs2, mostE, zmz, List.length_append, List.length_take, List.length_drop]
        rw [zdi, zbm]
        unfold zy done delK
        rw [zf6 K0 V.srtT (kp e.sum) (kR e.sum) hT] <;> rfl
  · rw [if_neg hT]
    simp (disch := omega) only [push_cast, zb4 _ _ _ _ s.things _ _ e.sum V.srtT (by omega), decide_eq_false hT, zba]; rfl
end
end KV
end
section
namespace KV
open Go Go.Eng
open Classical
theorem zns (l : Rw) (h : l.length ≤ 1099511627776) : Lqce none [.l l] = some [.l l] := by
  rw [eqce_i, mostE]; simp (disch := omega) only [push_cast]
section
variable {s : State} {e : Entry} (V : VS s)
include V
theorem zjr (x : Bs) (b : Int) (T : Rw) (hm : 0 ≤ e.number ∧ e.number ≤ 1000000000) :
    Lqa (some 27) [.s x, .i s.width, .i s.now, .i s.given, .i b, .i 0, .i 0, .i 0, .i 0, .i 0, .s E0, .i 0, .s E0, .s E0, .i e.kind, .s e.sum, .s e.name, .i e.number, .s e.thing.text, .l (encS e.thing.refs), .l T, .l (encP s.pins), .l (encL s.leases), .l [], .l [], .l []] =
      some [.i 0, .i 0, .i 0, .i 0, .i 0, .s x, .i (s.given + 1), .s E0, .s E0, .i s.width, .i s.now, .i (s.given + 1), .i b, .l [], .l [], .l [], .l T, .l (encP s.pins), .l (encL (s.leases ++ [⟨s.given + 1, x, s.now + e.number⟩]))] := by
  have h2 := V.nL
  rw [eqa_27]
  simp (disch := omega) only [push_cast, zi0 x s.width s.now s.given b e.kind e.sum e.name e.number e.thing.text (encS e.thing.refs) T (encP s.pins) s.leases (by omega) V.given V.now hm]
theorem zm0 (h : ThingOk e.thing s.width) (hm : 0 ≤ e.number ∧ e.number ≤ 1000000000) (hr : ∀ r ∈ e.thing.refs, hasT s.things r) :
    Lqa (some 7) [.b (decide (room s)), .l (encS e.thing.refs), .i (e.thing.refs.length : Int), .i (e.thing.refs.length : Int), .i s.width, .i s.now, .i s.given, .i s.births, .i e.kind, .s e.sum, .s e.name, .i e.number, .s e.thing.text, .l (encS e.thing.refs), .i 0, .i 0, .i 0, .i 0, .i 0, .s E0, .i 0, .s E0, .s E0, .l (encK s.things), .l (encP s.pins), .l (encL s.leases), .l [], .l [], .l []] = some (zy (putS s e)) := by
  have h1 := V.nT; have h2 := V.nL; have h3 := V.births
  have hw : zj s.width = true := zbe.2 V.wd
  have hz := zdv h
  have hfs := zew e.thing
  unfold putS
  rw [eqa_7, if_neg (by rintro ⟨r, h4, h5⟩; exact h5 (hr r h4))]
  have hl := lb_le (qK (sumM (formM e.thing) s.width)) s.things
  generalize hx : sumM (formM e.thing) s.width = x at hl
  simp (disch := omega) only [push_cast, zg7 h, zlq (formM e.thing) s.width (by omega), hx, zb4 _ _ _ _ s.things _ _ x V.srtT (by omega)]
  by_cases hT : hasT s.things x
  · have hi := (zea V.srtT x).1 hT
    have hk := (V.okT _ (zw (d := K0) hi.1)).1
    rw [if_pos hT, decide_eq_true hT]
    simp (disch := omega) only [push_cast, zg7 hk]
    by_cases hf : formM (nth K0 s.things (lb (qK x) s.things)).thing = formM e.thing
    · rw [if_pos hf, decide_eq_true hf]
      by_cases hro : room s
      · rw [if_pos hro, decide_eq_true hro]
        simp (disch := omega) only [push_cast]
        rw [eqa_22]
        simp (disch := omega) only [push_cast, zjr V x s.births (encK s.things) hm]; rfl
      · rw [if_neg hro, decide_eq_false hro]
        simp (disch := omega) only [push_cast, zeu]; rfl
    · rw [if_neg hf, decide_eq_false hf]
      simp (disch := omega) only [push_cast] <;> rfl
  · rw [if_neg hT, decide_eq_false hT]
    by_cases hro : room s
    · rw [decide_eq_true hro]
      by_cases c1 : s.things.length = 600
      · rw [if_neg (by omega)]
        simp (disch := omega) only [push_cast, zeu]; rfl
      · by_cases c2 : s.births = 1000000000
        · rw [if_neg (by omega)]
          simp (disch := omega) only [push_cast, zeu]; rfl
        · rw [if_pos ⟨hro, by omega, by omega⟩]
          simp (disch := omega) only [push_cast]
          have hs1 : Eng.sub (encK s.things) 0 (lb (qK x) s.things) = encK (s.things.take (lb (qK x) s.things)) := by rw [zed, zdn]
          have hs2 : Eng.sub (encK s.things) (lb (qK x) s.things) s.things.length = encK (s.things.drop (lb (qK x) s.things)) := by rw [zed, zdy]
          rw [eqa_22]
          simp (disch := omega) only [push_cast, hs1, hs2, mostE, List.length_append, List.length_take, List.length_drop, Nat.beq_refl, zns (encS e.thing.refs) (by rw [zl]; omega)]
          rw [zc1, zbm, zbm, List.append_assoc]
          rw [zjr V x (s.births + 1) _ hm]; rfl
    · rw [decide_eq_false hro, if_neg (by rintro ⟨h4, _⟩; exact hro h4)]
      simp (disch := omega) only [push_cast, zeu]; rfl
theorem zmx (hk : e.kind = 1) (h : ThingOk e.thing s.width) (hm : 0 ≤ e.number ∧ e.number ≤ 1000000000) : Lqa (some 4) (.b (decide (room s)) :: args4 s e) = some (zy (chg s e)) := by
  have h1 := V.nT; have h4 := h.refs
  unfold args4 chg
  rw [eqa_4, if_pos hk]
  simp (disch := omega) only [push_cast]
  have := zbr (f := fun i : Nat => Lqa (some 7) [.b (decide (room s)), .l (encS e.thing.refs), .i (e.thing.refs.length : Int), .i (i : Int), .i s.width, .i s.now, .i s.given, .i s.births, .i e.kind, .s e.sum, .s e.name, .i e.number, .s e.thing.text, .l (encS e.thing.refs), .i 0, .i 0, .i 0, .i 0, .i 0, .s E0, .i 0, .s E0, .s E0, .l (encK s.things), .l (encP s.pins), .l (encL s.leases), .l [], .l [], .l []])
    .empty (l := e.thing.refs) (p := fun r => ¬ hasT s.things r) (T := some (zy (fail s 2))) (E := Lqa (some 7) [.b (decide (room s)), .l (encS e.thing.refs), .i (e.thing.refs.length : Int), .i (e.thing.refs.length : Int), .i s.width, .i s.now, .i s.given, .i s.births, .i e.kind, .s e.sum, .s e.name, .i e.number, .s e.thing.text, .l (encS e.thing.refs), .i 0, .i 0, .i 0, .i 0, .i 0, .s E0, .i 0, .s E0, .s E0, .l (encK s.things), .l (encP s.pins), .l (encL s.leases), .l [], .l [], .l []]) (fun i hi => by
      show Lqa _ _ = cond _ _ (Lqa _ _)
      rw [eqa_7]
      simp (disch := omega) only [push_cast, zb4 _ _ _ _ s.things _ _ (nth .empty e.thing.refs i) V.srtT (by omega), zba]
      by_cases hT : hasT s.things (nth .empty e.thing.refs i)
      · rw [decide_eq_true hT, decide_eq_false (not_not_intro hT)]; rfl
      · rw [decide_eq_false hT, decide_eq_true hT]; rfl) rfl
  refine this.trans ?_
  by_cases hr : ∃ r ∈ e.thing.refs, ¬ hasT s.things r
  · rw [if_pos hr]; unfold putS; rw [if_pos hr]
  · rw [if_neg hr, zm0 V h hm fun r hr2 => Classical.byContradiction fun h5 => hr ⟨r, hr2, h5⟩]
theorem znh (he : zi e s.width = true) : Lqa none (encE e ++ encSt s) = some (zy (chg s e)) := by
  have h2 := V.nL; have hg := V.given
  have hnum := EntryOk.num he; have hk := EntryOk.kd he
  show Lqa none [.i e.kind, .s e.sum, .s e.name, .i e.number, .s e.thing.text, .l (encS e.thing.refs), .i s.width, .i s.now, .i s.given, .i s.births, .l (encK s.things), .l (encP s.pins), .l (encL s.leases)] = _
  have : Lqa none [.i e.kind, .s e.sum, .s e.name, .i e.number, .s e.thing.text, .l (encS e.thing.refs), .i s.width, .i s.now, .i s.given, .i s.births, .l (encK s.things), .l (encP s.pins), .l (encL s.leases)] = Lqa (some 4) (.b (decide (room s)) :: args4 s e) := by
    rw [eqa_i]
    by_cases hl : s.leases.length < 200
    · have : decide (room s) = decide (s.given < 1000000000) := decide_eq_decide.2 ⟨fun h => h.2, fun h => ⟨hl, h⟩⟩
      simp (disch := omega) only [push_cast, this]; rfl
    · rw [decide_eq_false fun h : room s => hl h.1]; simp (disch := omega) only [push_cast]; rfl
  rw [this]
  have hc : e.kind = 1 ∨ e.kind = 2 ∨ e.kind = 3 ∨ e.kind = 4 ∨ e.kind = 5 ∨ e.kind = 6 ∨ e.kind = 7 := by omega
  rcases hc with h | h | h | h | h | h | h
  · exact zmx V h (EntryOk.thing he h) hnum
  · exact zkr V h _
  · exact zme V h _
  · exact zke V h hnum
  · exact zo8 V h _
  · exact zma V h hnum _
  · exact zo9 V h _
end
end KV
end
section
namespace KV
open Go Go.Eng
open Classical
noncomputable def findT (T : List Kept) (x : Bs) : Int := if hasT T x then (lb (qK x) T : Int) else -1
theorem zng (w now g b : Int) (T : List Kept) (P L : Rw) (x : Bs) (h : SrtK T) (hn : T.length ≤ 1000000) : Lqg none [.i w, .i now, .i g, .i b, .l (encK T), .l P, .l L, .s x] = some [.i (findT T x)] := by
  rw [eqg_i]
  have := zju (f := fun i : Nat => Lqg (some 2) [.s x, .i (i : Int), .i w, .i now, .i g, .i b, .l (encK T), .l P, .l L]) (l := T) (d := K0) (p := fun k => decide (k.sum = x)) (ret := fun i => some [.i (i : Int)]) (e := some [.i (-1)]) (fun i hi => by
    show Lqg _ _ = cond _ _ (Lqg _ _)
    rw [eqg_2]; simp (disch := omega) only [push_cast]) (by show Lqg _ _ = _; rw [eqg_2]; simp (disch := omega) only [push_cast])
  refine this.trans ?_
  rw [zmg K0 h (kp x) (kR x)]
  unfold findT
  by_cases hT : hasT T x
  · rw [if_pos hT, if_pos (show ∃ a ∈ T, a.sum = x from hT)]
  · rw [if_neg hT, if_neg (show ¬ ∃ a ∈ T, a.sum = x from hT)]
theorem zb3 {T : List Kept} {x : Bs} : findT T x < 0 ↔ ¬ hasT T x := by
  unfold findT; split
  · rename_i h; simp [h]
  · rename_i h; simp [h]
def zn (o : Out) : Lv := if o.code = 0 then [.i 0, .i o.st.width, .i o.st.now, .i o.st.given, .i o.st.births, .l (encK o.st.things), .l (encP o.st.pins), .s o.sum, .i o.lease, .s o.a, .s o.b, .l (encL o.st.leases)]
  else [.i o.code, .i 0, .i 0, .i 0, .i 0, .l [], .l [], .s o.sum, .i o.lease, .s o.a, .s o.b, .l []]
theorem zdj (l : List Bs) (x : Bs) (h : l.length ≤ 4611686018427387904) : Lq7 none [.l (encS l), .s x] = some [.b (decide (x ∈ l))] := by
  rw [eq7_i]
  have := zbr (f := fun i : Nat => Lq7 (some 2) [.l (encS l), .s x, .i (i : Int)]) .empty (l := l) (p := fun r => r = x) (T := some [.b true]) (E := some [.b false]) (fun i hi => by
    show Lq7 _ _ = cond _ _ (Lq7 _ _)
    rw [eq7_2]; simp (disch := omega) only [push_cast]) (by show Lq7 _ _ = _; rw [eq7_2]; simp (disch := omega) only [push_cast])
  refine this.trans ?_
  by_cases h : ∃ r ∈ l, r = x
  · rw [if_pos h, decide_eq_true (p := x ∈ l) (by obtain ⟨r, hr, rfl⟩ := h; exact hr)]
  · rw [if_neg h, decide_eq_false (p := x ∈ l) (fun h3 => h ⟨x, h3, rfl⟩)]
theorem zki (s : State) (x : Bs) (h1 : s.pins.length ≤ 1000000) (h2 : s.leases.length ≤ 1000000) : Lqk none (encSt s ++ [.s x]) = some [.b (decide (held s x))] := by
  show Lqk none [.i s.width, .i s.now, .i s.given, .i s.births, .l (encK s.things), .l (encP s.pins), .l (encL s.leases), .s x] = _
  rw [eqk_i]
  have a1 := zbr (f := fun i : Nat => Lqk (some 7) [.s x, .i (i : Int), .i s.width, .i s.now, .i s.given, .i s.births, .l (encK s.things), .l (encP s.pins), .l (encL s.leases)]) L0 (l := s.leases) (p := fun l => l.sum = x) (T := some [.b true]) (E := some [.b false]) (fun i hi => by
    show Lqk _ _ = cond _ _ (Lqk _ _)
    rw [eqk_7]; simp (disch := omega) only [push_cast]) (by show Lqk _ _ = _; rw [eqk_7]; simp (disch := omega) only [push_cast])
  have a2 := zbr (f := fun i : Nat => Lqk (some 2) [.s x, .i (i : Int), .i s.width, .i s.now, .i s.given, .i s.births, .l (encK s.things), .l (encP s.pins), .l (encL s.leases)]) P0 (l := s.pins) (p := fun l => l.sum = x) (T := some [.b true]) (E := Lqk (some 7) [.s x, .i 0, .i s.width, .i s.now, .i s.given, .i s.births, .l (encK s.things), .l (encP s.pins), .l (encL s.leases)]) (fun i hi => by
    show Lqk _ _ = cond _ _ (Lqk _ _)
    rw [eqk_2]; simp (disch := omega) only [push_cast]) (by show Lqk _ _ = _; rw [eqk_2]; simp (disch := omega) only [push_cast])
  refine a2.trans ?_
  by_cases h : ∃ p ∈ s.pins, p.sum = x
  · rw [if_pos h, decide_eq_true (p := held s x) (Or.inl h)]
  · rw [if_neg h]
    refine a1.trans ?_
    by_cases h3 : ∃ l ∈ s.leases, l.sum = x
    · rw [if_pos h3, decide_eq_true (p := held s x) (Or.inr h3)]
    · rw [if_neg h3, decide_eq_false (p := held s x) (by rintro (h4 | h4); exact h h4; exact h3 h4)]
theorem zd8 (w now gv b : Int) (T P : Rw) (x : Bs) (m : Int) (L : List Lease) (hl : L.length ≤ 1000000) (hg : 0 ≤ gv ∧ gv ≤ 1000000000) (hn : 0 ≤ now ∧ now ≤ 1000000000) (hm : 0 ≤ m ∧ m ≤ 1000000000) :
    Lqbp none [.i w, .i now, .i gv, .i b, .l T, .l P, .s x, .i m, .l (encL L)] = some (if L.length < 200 ∧ gv < 1000000000 then [.i 0, .i w, .i now, .i (gv + 1), .i b, .l T, .l P, .s E0, .i (gv + 1), .s E0, .s E0, .l (encL (L ++ [⟨gv + 1, x, now + m⟩]))] else [.i 4, .i 0, .i 0, .i 0, .i 0, .l [], .l [], .s E0, .i 0, .s E0, .s E0, .l []]) := by
  rw [eqbp_i, ← zcy, mostE]
  by_cases h1 : L.length < 200
  · by_cases h2 : gv < 1000000000
    · rw [if_pos ⟨h1, h2⟩]; simp (disch := omega) only [push_cast] <;> rfl
    · rw [if_neg fun h => h2 h.2]; simp (disch := omega) only [push_cast]
  · rw [if_neg fun h => h1 h.1]; simp (disch := omega) only [push_cast]
theorem zin (w now g b : Int) (T : List Kept) (P L : Rw) (hT : T.length ≤ 1000000) (hr : ∀ k ∈ T, k.thing.refs.length ≤ 1000000) (hP : P.length ≤ 1000000) (hL : L.length ≤ 1000000) :
    Lqx none [.i w, .i now, .i g, .i b, .l (encK T), .l P, .l L] = some [.i w, .i now, .i g, .i b, .l (encK T), .l P, .l L] := by
  rw [eqx_i]
  have := zr (f := fun (i : Nat) (a : List Kept) => Lqx (some 4) [.i (i : Int), .i w, .i now, .i g, .i b, .l (encK T), .l P, .l L, .i 0, .i 0, .i 0, .i 0, .i w, .i now, .i g, .i b, .l P, .l L, .l [], .l [], .l [], .l (encK a)]) (n := T.length) (T := some [.i w, .i now, .i g, .i b, .l (encK T), .l P, .l L])
    (I := fun i a => a = T.take i) (fun i a hi hI => ⟨a ++ [nth K0 T i], by
      show Lqx _ _ = Lqx _ _
      have hk := hr _ (zw (d := K0) hi)
      have hl : a.length ≤ i := by rw [hI]; simp; omega
      rw [eqx_4, mostE, ← zbm]
      simp (disch := omega) only [push_cast, zj8 _ (encS (nth K0 T i).thing.refs) (by rw [zl]; omega)] <;> rfl, by show a ++ [nth K0 T i] = _; rw [zbl K0 hi, hI]⟩) (fun a hI => by
      show Lqx _ _ = _
      rw [eqx_4, mostE]
      simp (disch := omega) only [push_cast, List.nil_append]
      rw [hI, List.take_length]) 0 [] (Nat.zero_le _) rfl
  exact this
section
variable {s : State} {e : Entry} (V : VS s)
include V
theorem zd7 : ∀ k ∈ s.things, k.thing.refs.length ≤ 1000000 := fun k hk => by have := (V.okT k hk).1.refs; omega
theorem zmn (x : Bs) (bn : Int) (t : Thing) (hx : ¬ hasT s.things x) (hb : 0 ≤ bn ∧ bn ≤ 1000000000) (hm : 0 ≤ e.number ∧ e.number ≤ 1000000000) :
    Lqd (some 20) [.s x, .b false, .i 0, .i s.width, .i s.now, .i s.given, .i bn, .l (encK s.things), .l (encP s.pins), .i e.kind, .s e.sum, .s e.name, .i e.number, .s e.thing.text, .l (encS e.thing.refs), .i 0, .i 0, .i 0, .i 0, .i 0, .s E0, .i 0, .s E0, .s E0, .l [], .s x, .i bn, .s t.text, .l (encS t.refs), .l (encL s.leases), .l [], .l [], .l []] =
      some (if room s then [.i 0, .i s.width, .i s.now, .i (s.given + 1), .i bn, .l (encK (insK ⟨x, bn, t⟩ s.things)), .l (encP s.pins), .s x, .i (s.given + 1), .s E0, .s E0, .l (encL (s.leases ++ [⟨s.given + 1, x, s.now + e.number⟩]))] else [.i 4, .i 0, .i 0, .i 0, .i 0, .l [], .l [], .s E0, .i 0, .s E0, .s E0, .l []]) := by
  have h1 := V.nT; have h2 := V.nL
  have hl := lb_le (qK x) s.things
  have := zr (f := fun (i : Nat) (a : Bool × List Kept) => Lqd (some 20) [.s x, .b a.1, .i (i : Int), .i s.width, .i s.now, .i s.given, .i bn, .l (encK s.things), .l (encP s.pins), .i e.kind, .s e.sum, .s e.name, .i e.number, .s e.thing.text, .l (encS e.thing.refs), .i 0, .i 0, .i 0, .i 0, .i 0, .s E0, .i 0, .s E0, .s E0, .l (encK a.2), .s x, .i bn, .s t.text, .l (encS t.refs), .l (encL s.leases), .l [], .l [], .l []]) (n := s.things.length)
    (T := some (if room s then [.i 0, .i s.width, .i s.now, .i (s.given + 1), .i bn, .l (encK (insK ⟨x, bn, t⟩ s.things)), .l (encP s.pins), .s x, .i (s.given + 1), .s E0, .s E0, .l (encL (s.leases ++ [⟨s.given + 1, x, s.now + e.number⟩]))] else [.i 4, .i 0, .i 0, .i 0, .i 0, .l [], .l [], .s E0, .i 0, .s E0, .s E0, .l []]))
    (I := fun i a => (i ≤ lb (qK x) s.things ∧ a = (false, s.things.take i)) ∨ (lb (qK x) s.things < i ∧ a = (true, s.things.take (lb (qK x) s.things) ++ ⟨x, bn, t⟩ :: (s.things.drop (lb (qK x) s.things)).take (i - lb (qK x) s.things)))) (fun i a hi hI => by
      rcases hI with ⟨hi2, rfl⟩ | ⟨hi2, rfl⟩
      · rcases Nat.eq_or_lt_of_le hi2 with he | hlt
        · refine ⟨(true, (s.things.take i ++ [⟨x, bn, t⟩]) ++ [nth K0 s.things i]), ?_, .inr ⟨by omega, ?_⟩⟩
          · show Lqd _ _ = Lqd _ _
            have c1 : slt (nth K0 s.things i).sum x = false := by rw [he]; exact lb_at (qK x) K0 s.things (by omega)
            have c2 : ¬ (nth K0 s.things i).sum = x := fun h => hx ⟨_, zw hi, h⟩
            rw [eqd_20, mostE, ← zbm, ← zbm]
            simp (disch := omega) only [push_cast, c1, Bool.false_or, decide_eq_false c2, List.length_append, List.length_take]
            rw [zc1, zc1]
          · rw [← he, Nat.add_sub_cancel_left, zcg K0 hi]; simp
        · refine ⟨(false, s.things.take i ++ [nth K0 s.things i]), ?_, .inl ⟨hlt, by rw [zbl K0 hi]⟩⟩
          show Lqd _ _ = Lqd _ _
          have c1 : slt (nth K0 s.things i).sum x = true := lb_lt (qK x) K0 s.things i hlt
          rw [eqd_20, mostE, ← zbm]
          simp (disch := omega) only [push_cast, c1, Bool.true_or, List.length_append, List.length_take]
          rw [zc1]
      · refine ⟨(true, (s.things.take (lb (qK x) s.things) ++ ⟨x, bn, t⟩ :: (s.things.drop (lb (qK x) s.things)).take (i - lb (qK x) s.things)) ++ [nth K0 s.things i]), ?_, .inr ⟨by omega, ?_⟩⟩
        · show Lqd _ _ = Lqd _ _
          rw [eqd_20, mostE]
          conv => rhs; rw [← zbm]
          simp (disch := omega) only [push_cast, List.length_append, List.length_take, List.length_drop]
          rw [zc1]
        · congr 1
          have hd : nth K0 s.things i = nth K0 (s.things.drop (lb (qK x) s.things)) (i - lb (qK x) s.things) := by
            rw [zo _ _ _ hi, zo _ _ _ (by simp; omega)]; simp; congr 1; omega
          rw [hd, show i + 1 - lb (qK x) s.things = (i - lb (qK x) s.things) + 1 by omega, zbl K0 (by simp; omega)]
          simp) (fun a hI => by
      show Lqd _ _ = _
      rw [eqd_20]
      rcases hI with ⟨hi2, rfl⟩ | ⟨hi2, rfl⟩
      · have hlb : lb (qK x) s.things = s.things.length := by omega
        have hins : insK ⟨x, bn, t⟩ s.things = s.things ++ [⟨x, bn, t⟩] := by
          unfold insK; simp only; rw [hlb, List.take_length, List.drop_length]
        rw [List.take_length, zc1, zbm, hins, mostE]
        simp (disch := omega) only [push_cast, zd8 s.width s.now s.given bn _ (encP s.pins) x e.number s.leases (by omega) V.given V.now hm, List.length_append]
        by_cases hr : room s
        · rw [if_pos hr, if_pos (show s.leases.length < 200 ∧ s.given < 1000000000 from hr)]; simp (disch := omega) only [push_cast] <;> rfl
        · rw [if_neg hr, if_neg (show ¬ (s.leases.length < 200 ∧ s.given < 1000000000) from hr)]; simp (disch := omega) only [push_cast] <;> rfl
      · have hins : s.things.take (lb (qK x) s.things) ++ ⟨x, bn, t⟩ :: (s.things.drop (lb (qK x) s.things)).take (s.things.length - lb (qK x) s.things) = insK ⟨x, bn, t⟩ s.things := by
          unfold insK; simp only; rw [List.take_of_length_le (l := s.things.drop _) (by simp)]
        rw [hins]
        simp (disch := omega) only [push_cast, zd8 s.width s.now s.given bn _ (encP s.pins) x e.number s.leases (by omega) V.given V.now hm]
        by_cases hr : room s
        · rw [if_pos hr, if_pos (show s.leases.length < 200 ∧ s.given < 1000000000 from hr)]; simp (disch := omega) only [push_cast] <;> rfl
        · rw [if_neg hr, if_neg (show ¬ (s.leases.length < 200 ∧ s.given < 1000000000) from hr)]; simp (disch := omega) only [push_cast] <;> rfl) 0 (false, []) (Nat.zero_le _) (.inl ⟨Nat.zero_le _, rfl⟩)
  exact this
theorem zdp (x : Bs) (P L : Rw) : Lqg none [.i s.width, .i s.now, .i s.given, .i s.births, .l (encK s.things), .l P, .l L, .s x] = some [.i (findT s.things x)] := by
  have h1 := V.nT
  exact zng _ _ _ _ _ _ _ _ V.srtT (by omega)
def zbv (s : State) (e : Entry) : Lv := [.i s.width, .i s.now, .i s.given, .i s.births, .l (encK s.things), .l (encP s.pins), .i e.kind, .s e.sum, .s e.name, .i e.number, .s e.thing.text, .l (encS e.thing.refs), .l (encL s.leases)]
theorem zol (h : ThingOk e.thing s.width) (hm : 0 ≤ e.number ∧ e.number ≤ 1000000000) : Lqd none (zbv s e) = some (zn (putS s e)) := by
  have h1 := V.nT; have h2 := V.nL; have h3 := V.births
  have hz := zdv h
  have hfs := zew e.thing
  unfold zbv
  rw [eqd_i]
  simp (disch := omega) only [push_cast, ze9, formT, if_pos (zcc.2 h), zkf (formM e.thing) s.width (by omega)]
  have hput := putS.eq_1 s e
  have hl := lb_le (qK (sumM (formM e.thing) s.width)) s.things
  generalize hx : sumM (formM e.thing) s.width = x at hl hput ⊢
  have := zbr (f := fun i : Nat => Lqd (some 4) [.s (formM e.thing), .s x, .i (i : Int), .i s.width, .i s.now, .i s.given, .i s.births, .l (encK s.things), .l (encP s.pins), .i e.kind, .s e.sum, .s e.name, .i e.number, .s e.thing.text, .l (encS e.thing.refs), .i 0, .i 0, .i 0, .i 0, .i 0, .s E0, .i 0, .s E0, .s E0, .l (encL s.leases), .l [], .l [], .l []])
    .empty (l := e.thing.refs) (p := fun r => ¬ hasT s.things r) (T := some (zn (fail s 2))) (E := Lqd (some 4) [.s (formM e.thing), .s x, .i (e.thing.refs.length : Int), .i s.width, .i s.now, .i s.given, .i s.births, .l (encK s.things), .l (encP s.pins), .i e.kind, .s e.sum, .s e.name, .i e.number, .s e.thing.text, .l (encS e.thing.refs), .i 0, .i 0, .i 0, .i 0, .i 0, .s E0, .i 0, .s E0, .s E0, .l (encL s.leases), .l [], .l [], .l []]) (fun i hi => by
      show Lqd _ _ = cond _ _ (Lqd _ _)
      rw [eqd_4]
      simp (disch := omega) only [push_cast, zdp V]
      by_cases hT : hasT s.things (nth .empty e.thing.refs i)
      · rw [decide_eq_false (show ¬ findT s.things (nth .empty e.thing.refs i) < 0 from fun h => zb3.1 h hT), decide_eq_false (not_not_intro hT)]; rfl
      · rw [decide_eq_true (zb3.2 hT), decide_eq_true hT]; rfl) rfl
  refine this.trans ?_
  by_cases hr : ∃ r ∈ e.thing.refs, ¬ hasT s.things r
  · rw [if_pos hr]; unfold putS; rw [if_pos hr]
  rw [if_neg hr, hput, if_neg hr, eqd_4]
  simp (disch := omega) only [push_cast, zdp V]
  unfold findT
  by_cases hT : hasT s.things x
  · have hi := (zea V.srtT x).1 hT
    have hk := (V.okT _ (zw (d := K0) hi.1)).1
    rw [if_pos hT, if_pos hT]
    simp (disch := omega) only [push_cast, ze9, formT, if_pos (zcc.2 hk)]
    by_cases hf : formM (nth K0 s.things (lb (qK x) s.things)).thing = formM e.thing
    · rw [if_pos hf, decide_eq_true hf]
      simp (disch := omega) only [push_cast, zd8 s.width s.now s.given s.births (encK s.things) (encP s.pins) x e.number s.leases (by omega) V.given V.now hm]
      by_cases hro : room s
      · rw [if_pos hro, if_pos (show s.leases.length < 200 ∧ s.given < 1000000000 from hro)]; simp (disch := omega) only [push_cast] <;> rfl
      · rw [if_neg hro, if_neg (show ¬ (s.leases.length < 200 ∧ s.given < 1000000000) from hro)]; simp (disch := omega) only [push_cast] <;> rfl
    · rw [if_neg hf, decide_eq_false hf]; simp (disch := omega) only [push_cast] <;> rfl
  · rw [if_neg hT, if_neg hT]
    by_cases c1 : s.things.length < 600
    · by_cases c2 : s.births < 1000000000
      · simp (disch := omega) only [push_cast, zj8 _ (encS e.thing.refs) (by rw [zl]; omega)]
        have := zmn (e := e) V x (s.births + 1) e.thing hT (by omega) hm
        rw [this]
        by_cases hro : room s
        · rw [if_pos hro, if_pos ⟨hro, c1, c2⟩]; rfl
        · rw [if_neg hro, if_neg fun h => hro h.1]; rfl
      · simp (disch := omega) only [push_cast]
        rw [if_neg fun h => c2 h.2.2]; rfl
    · simp (disch := omega) only [push_cast]
      rw [if_neg fun h => c1 h.2.1]; rfl
end
end KV
end
section
namespace KV
open Go Go.Eng
open Classical
theorem zn3 {α : Type} {R : α → α → Prop} {q : α → Bool} {p : α → Prop} [DecidablePred p] (d : α) {l : List α} (h : l.Pairwise R) (hp : ∀ a, p a → q a = false) (hR : ∀ a b, R a b → p b → q a = true) :
    (l.drop (lb q l)).filter (fun a => !decide (p a)) = if ∃ a ∈ l, p a then l.drop (lb q l + 1) else l.drop (lb q l) := by
  have tail : ∀ k, lb q l < k → (l.drop k).filter (fun a => !decide (p a)) = l.drop k := fun k hk => by
    apply List.filter_eq_self.2
    intro a ha
    obtain ⟨j, hj, rfl⟩ := List.mem_iff_getElem.1 ha
    simp only [List.getElem_drop, Bool.not_eq_true', decide_eq_false_iff_not]
    rw [List.length_drop] at hj
    rw [← zo d l _ (by omega)]
    intro hpj; have := zdr d h hp hR (show k + j < l.length by omega) hpj; omega
  split
  · rename_i he
    obtain ⟨h1, h2⟩ := (zct d h hp hR).1 he
    rw [zcg d h1, List.filter_cons, if_neg (by simp [h2]), tail _ (by omega)]
  · rename_i he
    apply List.filter_eq_self.2
    intro a ha
    simp only [Bool.not_eq_true', decide_eq_false_iff_not]
    exact fun hpa => he ⟨a, List.mem_of_mem_drop ha, hpa⟩
theorem zhd {l : List Pin} (h : SrtP l) (n x : Bs) : l.take (lb (qP n) l) ++ ⟨n, x⟩ :: (l.drop (lb (qP n) l)).filter (fun k => !decide (k.name = n)) = putP n x l := by
  rw [zn3 P0 h (pp n) (pR n)]
  unfold putP
  by_cases hP : hasP l n
  · rw [if_pos (show ∃ a ∈ l, a.name = n from hP), if_pos hP, List.set_eq_take_append_cons_drop, if_pos ((zc7 h n).1 hP).1]
  · rw [if_neg (show ¬ ∃ a ∈ l, a.name = n from hP), if_neg hP]
theorem zk8 (l : List Pin) (n x : Bs) : (putP n x l).length = if hasP l n then l.length else l.length + 1 := by
  have := lb_le (qP n) l
  unfold putP; split
  · rw [List.length_set]
  · simp; omega
theorem zd2 {α : Type} (d : α) {l : List α} {p : α → Bool} {f : Nat → List α → Option Lv} {T : Option Lv} (step : ∀ i a, i < l.length → a.length ≤ i → f i a = f (i + 1) (if p (nth d l i) = true then a ++ [nth d l i] else a)) (last : f l.length (l.filter p) = T) : f 0 [] = T := by
  refine zr (f := f) (n := l.length) (T := T) (I := fun i a => a = (l.take i).filter p) (fun i a hi hI => ?_) (fun a hI => ?_) 0 [] (Nat.zero_le _) rfl
  · refine ⟨_, step i a hi ?_, ?_⟩
    · rw [hI]; exact Nat.le_trans (List.length_filter_le _ _) (by simp; omega)
    · rw [zbl d hi, List.filter_append, ← hI]
      by_cases h : p (nth d l i) = true
      · rw [if_pos h]; simp [h]
      · rw [if_neg h]; simp [h]
  · rw [hI, List.take_length]; exact last
theorem zg6 {α : Type} {l : List α} {p : α → Prop} [DecidablePred p] : (l.filter fun a => !decide (p a)).length = l.length ↔ ¬ ∃ a ∈ l, p a := by
  rw [List.length_filter_eq_length_iff]
  simp
def zz (o : Out) : Lv := if o.code = 0 then [.i 0, .i o.st.width, .i o.st.now, .i o.st.given, .i o.st.births, .l (encK o.st.things), .s o.sum, .i o.lease, .s o.a, .s o.b, .l (encP o.st.pins), .l (encL o.st.leases)]
  else [.i o.code, .i 0, .i 0, .i 0, .i 0, .l [], .s o.sum, .i o.lease, .s o.a, .s o.b, .l [], .l []]
theorem zms {o : Out} (h : o.code = 0) : zn o = [.i 0, .i o.st.width, .i o.st.now, .i o.st.given, .i o.st.births, .l (encK o.st.things), .l (encP o.st.pins), .s o.sum, .i o.lease, .s o.a, .s o.b, .l (encL o.st.leases)] := by unfold zn; rw [if_pos h]
theorem zmi {o : Out} (h : ¬ o.code = 0) : zn o = [.i o.code, .i 0, .i 0, .i 0, .i 0, .l [], .l [], .s o.sum, .i o.lease, .s o.a, .s o.b, .l []] := by unfold zn; rw [if_neg h]
section
variable {s : State} {e : Entry} (V : VS s)
include V
theorem znm (hk : e.kind = 2) : Lqe none (zbv s e) = some (zz (chg s e)) := by
  have h2 := V.nP
  have hl := lb_le (qP e.name) s.pins
  unfold zbv chg
  rw [eqe_i, if_neg (by omega), if_pos hk]
  simp (disch := omega) only [push_cast, zdp V]
  by_cases hT : hasT s.things e.sum
  · rw [if_pos hT, decide_eq_false (show ¬ findT s.things e.sum < 0 from fun h => zb3.1 h hT)]
    simp (disch := omega) only [push_cast]
    have := zr (f := fun (i : Nat) (a : Bool × List Pin) => Lqe (some 6) [.b a.1, .i (i : Int), .i s.width, .i s.now, .i s.given, .i s.births, .l (encK s.things), .l (encP s.pins), .i e.kind, .s e.sum, .s e.name, .i e.number, .s e.thing.text, .l (encS e.thing.refs), .i 0, .i 0, .i 0, .i 0, .i 0, .s E0, .i 0, .s E0, .s E0, .l (encP a.2), .l (encL s.leases), .l [], .l [], .l []]) (n := s.pins.length)
      (T := some (zz (if hasP s.pins e.name ∨ s.pins.length < 100 then done { s with pins := putP e.name e.sum s.pins } else fail s 4)))
      (I := fun i a => (i ≤ lb (qP e.name) s.pins ∧ a = (false, s.pins.take i)) ∨ (lb (qP e.name) s.pins < i ∧ a = (true, s.pins.take (lb (qP e.name) s.pins) ++ ⟨e.name, e.sum⟩ :: ((s.pins.drop (lb (qP e.name) s.pins)).take (i - lb (qP e.name) s.pins)).filter (fun k => !decide (k.name = e.name))))) (fun i a hi hI => by
        have step11 : ∀ (b : Bool) (l : List Pin), l.length ≤ 1000 → Lqe (some 11) [.b b, .i (i : Int), .i s.width, .i s.now, .i s.given, .i s.births, .l (encK s.things), .l (encP s.pins), .i e.kind, .s e.sum, .s e.name, .i e.number, .s e.thing.text, .l (encS e.thing.refs), .i 0, .i 0, .i 0, .i 0, .i 0, .s E0, .i 0, .s E0, .s E0, .l (encP l), .l (encL s.leases), .l [], .l [], .l []] =
            Lqe (some 6) [.b b, .i ((i + 1 : Nat) : Int), .i s.width, .i s.now, .i s.given, .i s.births, .l (encK s.things), .l (encP s.pins), .i e.kind, .s e.sum, .s e.name, .i e.number, .s e.thing.text, .l (encS e.thing.refs), .i 0, .i 0, .i 0, .i 0, .i 0, .s E0, .i 0, .s E0, .s E0, .l (encP (if (nth P0 s.pins i).name = e.name then l else l ++ [nth P0 s.pins i])), .l (encL s.leases), .l [], .l [], .l []] := fun b l hll => by
          rw [eqe_11, mostE]
          by_cases hc : (nth P0 s.pins i).name = e.name
          · rw [if_pos hc]; simp (disch := omega) only [push_cast]
          · rw [if_neg hc, ← zcj]; simp (disch := omega) only [push_cast]; rfl
        rcases hI with ⟨hi2, rfl⟩ | ⟨hi2, rfl⟩
        · rcases Nat.eq_or_lt_of_le hi2 with he | hlt
          · refine ⟨_, ?_, .inr ⟨by omega, rfl⟩⟩
            show Lqe _ _ = Lqe _ _
            have c1 : slt (nth P0 s.pins i).name e.name = false := by rw [he]; exact lb_at (qP e.name) P0 s.pins (by omega)
            rw [eqe_6, mostE]
            simp (disch := omega) only [push_cast, c1, List.length_append, List.length_take]
            rw [zfw, zcj, step11 true _ (by simp; omega)]
            rw [← he, Nat.add_sub_cancel_left, zcg P0 hi]
            by_cases hc : (nth P0 s.pins i).name = e.name
            · simp [hc]
            · simp [hc]
          · refine ⟨(false, s.pins.take (i + 1)), ?_, .inl ⟨hlt, rfl⟩⟩
            show Lqe _ _ = Lqe _ _
            have c1 : slt (nth P0 s.pins i).name e.name = true := lb_lt (qP e.name) P0 s.pins i hlt
            have c2 : ¬ (nth P0 s.pins i).name = e.name := zm7 c1
            rw [eqe_6, mostE]
            simp (disch := omega) only [push_cast, c1]
            rw [step11 false _ (by simp; omega), if_neg c2, zbl P0 hi]; simp (disch := omega) only [push_cast]
        · have hfl := List.length_filter_le (fun k : Pin => !decide (k.name = e.name)) ((s.pins.drop (lb (qP e.name) s.pins)).take (i - lb (qP e.name) s.pins))
          simp only [List.length_take, List.length_drop] at hfl
          refine ⟨_, ?_, .inr ⟨by omega, rfl⟩⟩
          show Lqe _ _ = Lqe _ _
          rw [eqe_6]
          simp (disch := omega) only [push_cast]
          rw [step11 true _ (by simp; omega)]
          have hd : nth P0 s.pins i = nth P0 (s.pins.drop (lb (qP e.name) s.pins)) (i - lb (qP e.name) s.pins) := by
            rw [zo _ _ _ hi, zo _ _ _ (by simp; omega)]; simp; congr 1; omega
          rw [show i + 1 - lb (qP e.name) s.pins = (i - lb (qP e.name) s.pins) + 1 by omega, zbl P0 (by simp; omega), ← hd]
          by_cases hc : (nth P0 s.pins i).name = e.name
          · simp [hc, List.filter_append]
          · simp [hc, List.filter_append]) (fun a hI => by
        show Lqe _ _ = _
        have hpl := zk8 s.pins e.name e.sum
        rw [eqe_6]
        rcases hI with ⟨hi2, rfl⟩ | ⟨hi2, rfl⟩
        · have hlb : lb (qP e.name) s.pins = s.pins.length := by omega
          have hnP : ¬ hasP s.pins e.name := fun h => by have := ((zc7 V.srtP e.name).1 h).1; omega
          have hF : s.pins ++ [⟨e.name, e.sum⟩] = putP e.name e.sum s.pins := by
            rw [← zhd V.srtP, hlb, List.take_length, List.drop_length]; rfl
          rw [List.take_length, zfw, zcj, hF, mostE]
          rw [if_neg hnP] at hpl
          by_cases hc : s.pins.length < 100
          · rw [if_pos (Or.inr hc)]
            simp (disch := omega) only [push_cast, hpl, List.length_append] <;> rfl
          · rw [if_neg (by rintro (h | h); exact hnP h; exact hc h)]
            simp (disch := omega) only [push_cast, hpl, List.length_append] <;> rfl
        · rw [List.take_of_length_le (l := s.pins.drop _) (by simp), zhd V.srtP]
          by_cases hP : hasP s.pins e.name
          · rw [if_pos hP] at hpl
            rw [if_pos (Or.inl hP)]
            simp (disch := omega) only [push_cast, hpl] <;> rfl
          · rw [if_neg hP] at hpl
            by_cases hc : s.pins.length < 100
            · rw [if_pos (Or.inr hc)]
              simp (disch := omega) only [push_cast, hpl] <;> rfl
            · rw [if_neg (by rintro (h | h); exact hP h; exact hc h)]
              simp (disch := omega) only [push_cast, hpl] <;> rfl) 0 (false, []) (Nat.zero_le _) (.inl ⟨Nat.zero_le _, rfl⟩)
    exact this
  · rw [if_neg hT, decide_eq_true (zb3.2 hT)]; simp (disch := omega) only [push_cast] <;> rfl
theorem zph (hk : e.kind = 3) : Lq1 none [.i s.width, .i s.now, .i s.given, .i s.births, .l (encK s.things), .l (encP s.pins), .s e.name, .l (encL s.leases)] = some (zz (chg s e)) := by
  have h2 := V.nP
  unfold chg
  rw [eq1_i, if_neg (by omega), if_neg (by omega), if_pos hk]
  refine zd2 P0 (l := s.pins) (p := fun k => !decide (k.name = e.name)) (f := fun i a => Lq1 (some 3) [.s e.name, .i (i : Int), .i s.width, .i s.now, .i s.given, .i s.births, .l (encK s.things), .l (encP s.pins), .i 0, .i 0, .i 0, .i 0, .i 0, .s E0, .i 0, .s E0, .s E0, .l (encP a), .l (encL s.leases), .l [], .l [], .l []]) (fun i a hi ha => ?_) ?_
  · show Lq1 _ _ = Lq1 _ _
    rw [eq1_3, mostE]
    by_cases hc : (nth P0 s.pins i).name = e.name
    · rw [if_neg (by simp [hc])]; simp (disch := omega) only [push_cast]
    · rw [if_pos (by simp [hc]), ← zcj]; simp (disch := omega) only [push_cast] <;> rfl
  · show Lq1 _ _ = _
    rw [eq1_3]
    have hfl := zg6 (l := s.pins) (p := fun k => k.name = e.name)
    by_cases hP : hasP s.pins e.name
    · rw [if_pos hP]
      have : ¬ (s.pins.filter fun a => !decide (a.name = e.name)).length = s.pins.length := fun h => hfl.1 h hP
      simp (disch := omega) only [push_cast] <;> rfl
    · rw [if_neg hP]
      have : (s.pins.filter fun a => !decide (a.name = e.name)).length = s.pins.length := hfl.2 hP
      simp (disch := omega) only [push_cast] <;> rfl
theorem zpa (hk : e.kind = 5) : Lq2 none [.i s.width, .i s.now, .i s.given, .i s.births, .l (encK s.things), .l (encP s.pins), .i e.number, .l (encL s.leases)] = some (zn (chg s e)) := by
  have h2 := V.nL
  unfold chg
  rw [eq2_i, if_neg (by omega), if_neg (by omega), if_neg (by omega), if_neg (by omega), if_pos hk]
  refine zd2 L0 (l := s.leases) (p := fun k => !decide (k.number = e.number)) (f := fun i a => Lq2 (some 3) [.i e.number, .i (i : Int), .i s.width, .i s.now, .i s.given, .i s.births, .l (encK s.things), .l (encP s.pins), .i 0, .i 0, .i 0, .i 0, .i 0, .s E0, .i 0, .s E0, .s E0, .l (encL a), .l (encL s.leases), .l [], .l [], .l []]) (fun i a hi ha => ?_) ?_
  · show Lq2 _ _ = Lq2 _ _
    rw [eq2_3, mostE]
    by_cases hc : (nth L0 s.leases i).number = e.number
    · rw [if_neg (by simp [hc])]; simp (disch := omega) only [push_cast]
    · rw [if_pos (by simp [hc]), ← zcy]; simp (disch := omega) only [push_cast] <;> rfl
  · show Lq2 _ _ = _
    rw [eq2_3]
    have hfl := zg6 (l := s.leases) (p := fun k => k.number = e.number)
    by_cases hP : hasL s.leases e.number
    · rw [if_pos hP]
      have : ¬ (s.leases.filter fun a => !decide (a.number = e.number)).length = s.leases.length := fun h => hfl.1 h hP
      simp (disch := omega) only [push_cast] <;> rfl
    · rw [if_neg hP]
      have : (s.leases.filter fun a => !decide (a.number = e.number)).length = s.leases.length := hfl.2 hP
      simp (disch := omega) only [push_cast] <;> rfl
theorem znu (hk : e.kind = 6) (hm : 0 ≤ e.number ∧ e.number ≤ 1000000000) : Lq3 none [.i s.width, .i s.now, .i s.given, .i s.births, .l (encK s.things), .l (encP s.pins), .i e.number, .l (encL s.leases)] = some (zn (chg s e)) := by
  have h2 := V.nL; have h3 := V.now
  unfold chg
  rw [eq3_i, if_neg (by omega), if_neg (by omega), if_neg (by omega), if_neg (by omega), if_neg (by omega), if_pos hk]
  by_cases hn : s.now + e.number ≤ 1000000000
  · rw [if_pos hn]
    simp (disch := omega) only [push_cast]
    refine zd2 L0 (l := s.leases) (p := fun l => decide (s.now + e.number < l.till)) (f := fun i a => Lq3 (some 6) [.i (i : Int), .i s.width, .i (s.now + e.number), .i s.given, .i s.births, .l (encK s.things), .l (encP s.pins), .i 0, .i 0, .i 0, .i 0, .i 0, .s E0, .i 0, .s E0, .s E0, .l (encL a), .l (encL s.leases), .l [], .l [], .l []]) (fun i a hi ha => ?_) ?_
    · show Lq3 _ _ = Lq3 _ _
      rw [eq3_6, mostE]
      by_cases hc : s.now + e.number < (nth L0 s.leases i).till
      · rw [if_pos (by simp [hc]), ← zcy]; simp (disch := omega) only [push_cast] <;> rfl
      · rw [if_neg (by simp [hc])]; simp (disch := omega) only [push_cast]
    · show Lq3 _ _ = _
      rw [eq3_6]; simp (disch := omega) only [push_cast] <;> rfl
  · rw [if_neg hn]; simp (disch := omega) only [push_cast] <;> rfl
theorem zmv (hr : ¬ isRef s.things e.sum) : Lqh (some 7) [.s e.sum, .i 0, .i s.width, .i s.now, .i s.given, .i s.births, .l (encK s.things), .l (encP s.pins), .i 0, .i 0, .i 0, .i 0, .i 0, .s E0, .i 0, .s E0, .s E0, .l (encK []), .l (encL s.leases), .l [], .l [], .l []] =
    some [.i 0, .i s.width, .i s.now, .i s.given, .i s.births, .l (encP s.pins), .s E0, .i 0, .s E0, .s E0, .l (encK (delK e.sum s.things)), .l (encL s.leases)] := by
  have h1 := V.nT
  refine zd2 K0 (l := s.things) (p := fun k => !decide (k.sum = e.sum)) (f := fun i a => Lqh (some 7) [.s e.sum, .i (i : Int), .i s.width, .i s.now, .i s.given, .i s.births, .l (encK s.things), .l (encP s.pins), .i 0, .i 0, .i 0, .i 0, .i 0, .s E0, .i 0, .s E0, .s E0, .l (encK a), .l (encL s.leases), .l [], .l [], .l []]) (fun i a hi ha => ?_) ?_
  · show Lqh _ _ = Lqh _ _
    have hm := zw (d := K0) hi
    have hrl := zd7 V _ hm
    have hn : ¬ e.sum ∈ (nth K0 s.things i).thing.refs := fun h => hr ⟨_, hm, h⟩
    rw [eqh_7, mostE]
    by_cases hc : (nth K0 s.things i).sum = e.sum
    · rw [if_neg (by simp [hc])]; simp (disch := omega) only [push_cast, zdj _ e.sum (show (nth K0 s.things i).thing.refs.length ≤ 4611686018427387904 by omega), decide_eq_false hn]
    · rw [if_pos (by simp [hc]), ← zbm]; simp (disch := omega) only [push_cast, zdj _ e.sum (show (nth K0 s.things i).thing.refs.length ≤ 4611686018427387904 by omega), decide_eq_false hn] <;> rfl
  · show Lqh _ _ = _
    rw [eqh_7]; simp (disch := omega) only [push_cast] <;> rfl
theorem zlo (hr : isRef s.things e.sum) : ∀ (i : Nat) (a : List Kept), i ≤ s.things.length → (a.length ≤ i ∧ ∃ j, i ≤ j ∧ j < s.things.length ∧ e.sum ∈ (nth K0 s.things j).thing.refs) → Lqh (some 7) [.s e.sum, .i (i : Int), .i s.width, .i s.now, .i s.given, .i s.births, .l (encK s.things), .l (encP s.pins), .i 0, .i 0, .i 0, .i 0, .i 0, .s E0, .i 0, .s E0, .s E0, .l (encK a), .l (encL s.leases), .l [], .l [], .l []] =
    some [.i 6, .i 0, .i 0, .i 0, .i 0, .l [], .s E0, .i 0, .s E0, .s E0, .l [], .l []] := by
  have h1 := V.nT
  intro i a hi hI
  refine zcu (f := fun i a => Lqh (some 7) [.s e.sum, .i (i : Int), .i s.width, .i s.now, .i s.given, .i s.births, .l (encK s.things), .l (encP s.pins), .i 0, .i 0, .i 0, .i 0, .i 0, .s E0, .i 0, .s E0, .s E0, .l (encK a), .l (encL s.leases), .l [], .l [], .l []]) (n := s.things.length) (I := fun i a => a.length ≤ i ∧ ∃ j, i ≤ j ∧ j < s.things.length ∧ e.sum ∈ (nth K0 s.things j).thing.refs)
    (T := fun r => r = some [.i 6, .i 0, .i 0, .i 0, .i 0, .l [], .s E0, .i 0, .s E0, .s E0, .l [], .l []]) (fun i a hi hI => ?_) (fun a hI => ?_) i a hi hI
  · obtain ⟨ha, j, hj1, hj2, hj3⟩ := hI
    have hm := zw (d := K0) hi
    have hrl := zd7 V _ hm
    by_cases hn : e.sum ∈ (nth K0 s.things i).thing.refs
    · right
      show Lqh _ _ = _
      rw [eqh_7]
      simp (disch := omega) only [push_cast, zdj _ e.sum (show (nth K0 s.things i).thing.refs.length ≤ 4611686018427387904 by omega), decide_eq_true hn]
    · left
      have hj : i + 1 ≤ j := by
        rcases Nat.eq_or_lt_of_le hj1 with h | h
        · rw [h] at hn; exact absurd hj3 hn
        · exact h
      by_cases hc : (nth K0 s.things i).sum = e.sum
      · refine ⟨a, ?_, by omega, j, hj, hj2, hj3⟩
        show Lqh _ _ = Lqh _ _
        rw [eqh_7]
        simp (disch := omega) only [push_cast, zdj _ e.sum (show (nth K0 s.things i).thing.refs.length ≤ 4611686018427387904 by omega), decide_eq_false hn]
      · refine ⟨a ++ [nth K0 s.things i], ?_, by simp; omega, j, hj, hj2, hj3⟩
        show Lqh _ _ = Lqh _ _
        rw [eqh_7, mostE, ← zbm]
        simp (disch := omega) only [push_cast, zdj _ e.sum (show (nth K0 s.things i).thing.refs.length ≤ 4611686018427387904 by omega), decide_eq_false hn] <;> rfl
  · obtain ⟨_, j, h1, h2, _⟩ := hI; omega
theorem zkd (hk : e.kind = 7) : (Lqh none [.i s.width, .i s.now, .i s.given, .i s.births, .l (encK s.things), .l (encP s.pins), .s e.sum, .l (encL s.leases)]).bind (fun y9 => some [.i ((g y9 0).int), .i ((g y9 1).int), .i ((g y9 2).int), .i ((g y9 3).int), .i ((g y9 4).int), .l ((g y9 10).list), .l ((g y9 5).list), .s ((g y9 6).str), .i ((g y9 7).int), .s ((g y9 8).str), .s ((g y9 9).str), .l ((g y9 11).list)]) = some (zn (chg s e)) := by
  have h2 := V.nP; have h3 := V.nL
  have hh := zki s e.sum (by omega) (by omega)
  unfold encSt at hh
  unfold chg
  rw [eqh_i, if_neg (by omega), if_neg (by omega), if_neg (by omega), if_neg (by omega), if_neg (by omega), if_neg (by omega)]
  simp (disch := omega) only [push_cast, zdp V, show Lqk none [.i s.width, .i s.now, .i s.given, .i s.births, .l (encK s.things), .l (encP s.pins), .l (encL s.leases), .s e.sum] = _ from hh]
  by_cases hT : hasT s.things e.sum
  · rw [if_pos hT, decide_eq_false (show ¬ findT s.things e.sum < 0 from fun h => zb3.1 h hT)]
    by_cases c1 : held s e.sum
    · rw [if_pos (Or.inl c1), decide_eq_true c1]; simp (disch := omega) only [push_cast] <;> rfl
    · rw [decide_eq_false c1]
      by_cases c2 : isRef s.things e.sum
      · rw [if_pos (Or.inr c2)]
        have := zlo V c2 0 [] (Nat.zero_le _) ⟨Nat.le_refl _, by
          obtain ⟨k, hk1, hk2⟩ := c2
          obtain ⟨j, hj, rfl⟩ := zdt K0 hk1
          exact ⟨j, Nat.zero_le _, hj, hk2⟩⟩
        simp (disch := omega) only [push_cast]
        rw [show Lqh (some 7) [.s e.sum, .i 0, .i s.width, .i s.now, .i s.given, .i s.births, .l (encK s.things), .l (encP s.pins), .i 0, .i 0, .i 0, .i 0, .i 0, .s E0, .i 0, .s E0, .s E0, .l [], .l (encL s.leases), .l [], .l [], .l []] = _ from this]
        rfl
      · rw [if_neg (by rintro (h | h); exact c1 h; exact c2 h)]
        have := zmv V c2
        simp (disch := omega) only [push_cast]
        rw [show Lqh (some 7) [.s e.sum, .i 0, .i s.width, .i s.now, .i s.given, .i s.births, .l (encK s.things), .l (encP s.pins), .i 0, .i 0, .i 0, .i 0, .i 0, .s E0, .i 0, .s E0, .s E0, .l [], .l (encL s.leases), .l [], .l [], .l []] = _ from this]
        rfl
  · rw [if_neg hT, decide_eq_true (zb3.2 hT)]; simp (disch := omega) only [push_cast] <;> rfl
theorem zfd (o : Out) : [Lf.i ((g (zn o) 0).int), .i ((g (zn o) 1).int), .i ((g (zn o) 2).int), .i ((g (zn o) 3).int), .i ((g (zn o) 4).int), .l ((g (zn o) 5).list), .l ((g (zn o) 6).list), .s ((g (zn o) 7).str), .i ((g (zn o) 8).int), .s ((g (zn o) 9).str), .s ((g (zn o) 10).str), .l ((g (zn o) 11).list)] = zn o := by
  unfold zn; split <;> rfl
theorem zjp (o : Out) : [Lf.i ((g (zz o) 0).int), .i ((g (zz o) 1).int), .i ((g (zz o) 2).int), .i ((g (zz o) 3).int), .i ((g (zz o) 4).int), .l ((g (zz o) 5).list), .l ((g (zz o) 10).list), .s ((g (zz o) 6).str), .i ((g (zz o) 7).int), .s ((g (zz o) 8).str), .s ((g (zz o) 9).str), .l ((g (zz o) 11).list)] = zn o := by
  unfold zn zz; split <;> rfl
theorem zla (he : zi e s.width = true) : Lqca none (zbv s e) = some (zn (chg s e)) := by
  have h1 := V.nT; have h2 := V.nL; have h4 := V.nP
  have hnum := EntryOk.num he; have hk := EntryOk.kd he
  have hc : e.kind = 1 ∨ e.kind = 2 ∨ e.kind = 3 ∨ e.kind = 4 ∨ e.kind = 5 ∨ e.kind = 6 ∨ e.kind = 7 := by omega
  unfold zbv
  rw [eqca_i]
  rcases hc with h | h | h | h | h | h | h
  · have := zol V (EntryOk.thing he h) hnum
    unfold zbv at this
    have hp : chg s e = putS s e := by unfold chg; rw [if_pos h]
    simp (disch := omega) only [push_cast]
    rw [this, Option.bind_some, zfd V, hp]
  · have := znm V h
    unfold zbv at this
    simp (disch := omega) only [push_cast]
    rw [this, Option.bind_some, zjp V]
  · have := zph V h
    simp (disch := omega) only [push_cast]
    rw [this, Option.bind_some, zjp V]
  · simp (disch := omega) only [push_cast, zdp V]
    unfold chg
    rw [if_neg (by omega), if_neg (by omega), if_neg (by omega), if_pos h]
    by_cases hT : hasT s.things e.sum
    · rw [if_pos hT, decide_eq_false (show ¬ findT s.things e.sum < 0 from fun h => zb3.1 h hT)]
      simp (disch := omega) only [push_cast, zin s.width s.now s.given s.births s.things (encP s.pins) (encL s.leases) (by omega) (zd7 V) (by rw [zby]; omega) (by rw [zck]; omega), zd8 s.width s.now s.given s.births (encK s.things) (encP s.pins) e.sum e.number s.leases (by omega) V.given V.now hnum]
      by_cases hro : room s
      · rw [if_pos hro, if_pos (show s.leases.length < 200 ∧ s.given < 1000000000 from hro)]; simp (disch := omega) only [push_cast] <;> rfl
      · rw [if_neg hro, if_neg (show ¬ (s.leases.length < 200 ∧ s.given < 1000000000) from hro)]; simp (disch := omega) only [push_cast] <;> rfl
    · rw [if_neg hT, decide_eq_true (zb3.2 hT)]; simp (disch := omega) only [push_cast] <;> rfl
  · have := zpa V h
    simp (disch := omega) only [push_cast]
    rw [this, Option.bind_some, zfd V]
  · have := znu V h hnum
    simp (disch := omega) only [push_cast]
    rw [this, Option.bind_some, zfd V]
  · have := zkd V h
    simp (disch := omega) only [push_cast]
    exact this
end
end KV
end
section
namespace KV
open Go Go.Eng
open Classical
theorem EntryOk.hold {e : Entry} {w : Int} (h : zi e w = true) (hk : e.kind = 1 ∨ e.kind = 4 ∨ e.kind = 6) : 1 ≤ e.number ∧ e.number ≤ 100000 := by
  unfold zi numB at h; simp only [Bool.and_eq_true, decide_eq_true_eq] at h
  have := h.2.2.2.2.1
  rw [if_pos hk] at this
  exact of_decide_eq_true this
theorem EntryOk.name {e : Entry} {w : Int} (h : zi e w = true) (hk : e.kind = 2) : NameOk e.name := by
  unfold zi namB at h; simp only [Bool.and_eq_true, decide_eq_true_eq] at h
  have := h.2.2.2.1
  rw [if_pos (by unfold uN; simp [hk])] at this
  exact zhg.1 this
theorem zc5 {k a : Kept} {l : List Kept} : a ∈ insK k l ↔ a = k ∨ a ∈ l := by
  unfold insK
  rw [List.mem_append, List.mem_cons]
  conv => rhs; rw [← List.take_append_drop (lb (qK k.sum) l) l, List.mem_append]
  constructor
  · rintro (h | h | h)
    · exact .inr (.inl h)
    · exact .inl h
    · exact .inr (.inr h)
  · rintro (h | h | h)
    · exact .inr (.inl h)
    · exact .inl h
    · exact .inr (.inr h)
theorem zmc {α : Type} {l : List α} {i : Nat} {a : α} (d : α) (h : a ∈ l.take i) : ∃ j, j < i ∧ j < l.length ∧ nth d l j = a := by
  obtain ⟨j, hj, rfl⟩ := List.mem_iff_getElem.1 h
  rw [List.length_take] at hj
  exact ⟨j, by omega, by omega, by rw [zo d l j (by omega), List.getElem_take]⟩
theorem zku {α : Type} {l : List α} {i : Nat} {a : α} (d : α) (h : a ∈ l.drop i) : ∃ j, i ≤ j ∧ j < l.length ∧ nth d l j = a := by
  obtain ⟨j, hj, rfl⟩ := List.mem_iff_getElem.1 h
  rw [List.length_drop] at hj
  exact ⟨i + j, by omega, by omega, by rw [zo d l _ (by omega), List.getElem_drop]⟩
theorem zjy {α : Type} {R : α → α → Prop} {q : α → Bool} (d k : α) {l : List α} (h : l.Pairwise R) (mono : ∀ a b, R a b → q b = true → q a = true) (h1 : ∀ a, a ∈ l → q a = true → R a k) (h2 : ∀ a, a ∈ l → q a = false → R k a) (tr : ∀ a b c, R a b → R b c → R a c) : (l.take (lb q l) ++ k :: l.drop (lb q l)).Pairwise R := by
  have hd : ∀ a ∈ l.drop (lb q l), R k a := fun a ha => by
    obtain ⟨j, hj1, hj2, rfl⟩ := zku d ha
    exact h2 _ (zw hj2) (lb_hi d h mono j hj1 hj2)
  have ht : ∀ a ∈ l.take (lb q l), R a k := fun a ha => by
    obtain ⟨j, hj1, hj2, rfl⟩ := zmc d ha
    exact h1 _ (zw hj2) (lb_lt q d l j hj1)
  rw [List.pairwise_append, List.pairwise_cons]
  refine ⟨h.sublist (List.take_sublist _ _), ⟨hd, h.sublist (List.drop_sublist _ _)⟩, fun a ha b hb => ?_⟩
  rcases List.mem_cons.1 hb with rfl | hb
  · exact ht a ha
  · exact tr _ _ _ (ht a ha) (hd b hb)
theorem znl {k : Kept} {l : List Kept} (h : SrtK l) (hk : ¬ hasT l k.sum) : SrtK (insK k l) :=
  zjy (R := fun (a b : Kept) => slt a.sum b.sum = true) (q := qK k.sum) K0 k h (fun a b hab hb => zb2 hab hb) (fun a _ ha => ha) (fun a hm ha => by
    rcases zi4.1 (show slt a.sum k.sum = false from ha) with h1 | h1
    · exact absurd ⟨a, hm, h1⟩ hk
    · exact h1) (fun a b c h1 h2 => zb2 h1 h2)
theorem znc (k : Kept) (l : List Kept) : (insK k l).length = l.length + 1 := by
  have := lb_le (qK k.sum) l
  unfold insK; simp; omega
theorem ziz {k : Kept} {l : List Kept} {x : Bs} (h : hasT l x) : hasT (insK k l) x := by
  obtain ⟨j, h1, h2⟩ := h; exact ⟨j, zc5.2 (.inr h1), h2⟩
theorem zpe {l : List Pin} (h : SrtP l) (n x : Bs) : SrtP (putP n x l) := by
  unfold putP
  split
  · rename_i hP
    have hi := (zc7 h n).1 hP
    unfold SrtP at h ⊢
    rw [List.pairwise_iff_getElem] at h ⊢
    intro i j hi' hj' hij
    rw [List.length_set] at hi' hj'
    have key : ∀ i (hi' : i < l.length), ((l.set (lb (qP n) l) ⟨n, x⟩)[i]'(by rw [List.length_set]; exact hi')).name = l[i].name := fun i hi' => by
      rw [List.getElem_set]
      split
      · rename_i he
        subst he
        rw [← zo P0 l _ hi']; exact hi.2.symm
      · rfl
    rw [key i hi', key j hj']
    exact h i j hi' hj' hij
  · rename_i hP
    exact zjy (R := fun (a b : Pin) => slt a.name b.name = true) (q := qP n) P0 ⟨n, x⟩ h (fun a b hab hb => zb2 hab hb) (fun a _ ha => ha) (fun a hm ha => by
      rcases zi4.1 (show slt a.name n = false from ha) with h1 | h1
      · exact absurd ⟨a, hm, h1⟩ hP
      · exact h1) (fun a b c h1 h2 => zb2 h1 h2)
theorem zon {l : List Pin} {n x : Bs} {a : Pin} (h : a ∈ putP n x l) : a = ⟨n, x⟩ ∨ a ∈ l := by
  unfold putP at h
  split at h
  · rcases List.mem_or_eq_of_mem_set h with h | h
    · exact .inr h
    · exact .inl h
  · rw [List.mem_append, List.mem_cons] at h
    rcases h with h | h | h
    · exact .inr (List.mem_of_mem_take h)
    · exact .inl h
    · exact .inr (List.mem_of_mem_drop h)
theorem zn5 (l : List Pin) (n x : Bs) : (putP n x l).length ≤ l.length + 1 ∧ (hasP l n → (putP n x l).length = l.length) := by
  have := lb_le (qP n) l
  unfold putP; split
  · simp
  · rename_i h; exact ⟨by simp; omega, fun h1 => absurd h1 h⟩
theorem zft {s : State} (V : VS s) {x : Bs} {m : Int} (hr : room s) (hx : hasT s.things x) (hm : 1 ≤ m ∧ m ≤ 100000) : VS (lent s x m) := by
  have hg := V.given
  obtain ⟨r1, r2⟩ := hr
  refine ⟨V.wd, V.now, ?_, V.births, V.nT, V.nP, ?_, V.srtT, V.okT, V.ndT, V.refs, V.srtP, V.okP, ?_, ?_⟩
  · show 0 ≤ s.given + 1 ∧ s.given + 1 ≤ 1000000000; omega
  · show (s.leases ++ [_]).length ≤ 200; simp; omega
  · show (s.leases ++ [_]).Pairwise _
    rw [List.pairwise_append]
    refine ⟨V.srtL, List.pairwise_singleton _ _, fun a ha b hb => ?_⟩
    rw [List.mem_singleton] at hb
    subst hb
    have := (V.okL a ha).2.1
    show a.number < s.given + 1; omega
  · intro l hl
    show 1 ≤ l.number ∧ l.number ≤ s.given + 1 ∧ hasT s.things l.sum ∧ s.now < l.till ∧ l.till ≤ s.now + 100000
    rcases List.mem_append.1 hl with h | h
    · obtain ⟨a, b, c, d⟩ := V.okL l h; exact ⟨a, by omega, c, d⟩
    · rw [List.mem_singleton] at h
      subst h
      refine ⟨?_, ?_, hx, ?_, ?_⟩ <;> simp only <;> omega
theorem zm9 {s : State} (V : VS s) {t : Thing} (ht : ThingOk t s.width) (hx : ¬ hasT s.things (sumM (formM t) s.width)) (hr : ∀ r ∈ t.refs, hasT s.things r) (h1 : s.things.length < 600) (h2 : s.births < 1000000000) :
    VS { s with births := s.births + 1, things := insK ⟨sumM (formM t) s.width, s.births + 1, t⟩ s.things } := by
  have hb := V.births
  refine ⟨V.wd, V.now, V.given, ?_, ?_, V.nP, V.nL, znl V.srtT hx, ?_, ?_, ?_, V.srtP, ?_, V.srtL, ?_⟩
  · show 0 ≤ s.births + 1 ∧ s.births + 1 ≤ 1000000000; omega
  · show (insK _ _).length ≤ 600; rw [znc]; omega
  · intro k hk
    show ThingOk k.thing s.width ∧ k.sum = sumM (formM k.thing) s.width ∧ 1 ≤ k.born ∧ k.born ≤ s.births + 1
    rcases zc5.1 hk with rfl | hk
    · exact ⟨ht, rfl, by simp only; omega, by simp only; omega⟩
    · obtain ⟨a, b, c, d⟩ := V.okT k hk; exact ⟨a, b, c, by omega⟩
  · show ((insK _ _).map (·.born)).Nodup
    unfold insK
    rw [List.map_append, List.map_cons]
    have hp : (List.map (·.born) (s.things.take (lb (qK (sumM (formM t) s.width)) s.things)) ++ (s.births + 1) :: List.map (·.born) (s.things.drop (lb (qK (sumM (formM t) s.width)) s.things))).Perm ((s.births + 1) :: s.things.map (·.born)) := by
      refine List.perm_middle.trans ?_
      rw [← List.map_append, List.take_append_drop]
    rw [hp.nodup_iff, List.nodup_cons]
    refine ⟨fun hm => ?_, V.ndT⟩
    obtain ⟨k, hk, he⟩ := List.mem_map.1 hm
    have := (V.okT k hk).2.2.2; omega
  · intro k hk r hkr
    rcases zc5.1 hk with rfl | hk
    · obtain ⟨j, h3, h4⟩ := hr r hkr
      refine ⟨j, zc5.2 (.inr h3), h4, ?_⟩
      have := (V.okT j h3).2.2.2
      simp only; omega
    · obtain ⟨j, h3, h4, h5⟩ := V.refs k hk r hkr
      exact ⟨j, zc5.2 (.inr h3), h4, h5⟩
  · intro p hp; exact ⟨(V.okP p hp).1, ziz (V.okP p hp).2⟩
  · intro l hl; obtain ⟨a, b, c, d⟩ := V.okL l hl; exact ⟨a, b, ziz c, d⟩
theorem zdo {x : Bs} {l : List Kept} {a : Kept} : a ∈ delK x l ↔ a ∈ l ∧ a.sum ≠ x := by unfold delK; simp
theorem zpc {s : State} (V : VS s) {x : Bs} (hh : ¬ held s x) (hr : ¬ isRef s.things x) : VS { s with things := delK x s.things } := by
  have hs : (delK x s.things).Sublist s.things := List.filter_sublist
  have keep : ∀ y, y ≠ x → hasT s.things y → hasT (delK x s.things) y := fun y hy ⟨j, h1, h2⟩ => ⟨j, zdo.2 ⟨h1, by rw [h2]; exact hy⟩, h2⟩
  refine ⟨V.wd, V.now, V.given, V.births, Nat.le_trans hs.length_le V.nT, V.nP, V.nL, V.srtT.sublist hs, fun k hk => V.okT k (zdo.1 hk).1, (V.ndT.sublist (hs.map _)), ?_, V.srtP, ?_, V.srtL, ?_⟩
  · intro k hk r hkr
    obtain ⟨j, h3, h4, h5⟩ := V.refs k (zdo.1 hk).1 r hkr
    refine ⟨j, zdo.2 ⟨h3, ?_⟩, h4, h5⟩
    rw [h4]; rintro rfl; exact hr ⟨k, (zdo.1 hk).1, hkr⟩
  · intro p hp; exact ⟨(V.okP p hp).1, keep _ (fun h => hh (.inl ⟨p, hp, h⟩)) (V.okP p hp).2⟩
  · intro l hl; obtain ⟨a, b, c, d⟩ := V.okL l hl; exact ⟨a, b, keep _ (fun h => hh (.inr ⟨l, hl, h⟩)) c, d⟩
theorem zf1 {s : State} (V : VS s) {e : Entry} (he : zi e s.width = true) (hc : (chg s e).code = 0) : VS (chg s e).st := by
  have hk := EntryOk.kd he
  unfold chg at hc ⊢
  split at hc
  · rename_i h1
    rw [if_pos h1]
    have hh := EntryOk.hold he (.inl h1)
    have ht := EntryOk.thing he h1
    unfold putS at hc ⊢
    split at hc
    · cases hc
    · rename_i hr
      rw [if_neg hr]
      have hr' : ∀ r ∈ e.thing.refs, hasT s.things r := fun r hr2 => Classical.byContradiction fun h5 => hr ⟨r, hr2, h5⟩
      split at hc
      · rename_i hT
        rw [if_pos hT]
        split at hc
        · rename_i hf
          rw [if_pos hf]
          split at hc
          · rename_i hro; rw [if_pos hro]; exact zft V hro hT hh
          · cases hc
        · cases hc
      · rename_i hT
        rw [if_neg hT]
        split at hc
        · rename_i hro
          rw [if_pos hro]
          exact zft (zm9 V ht hT hr' hro.2.1 hro.2.2) hro.1 ⟨_, zc5.2 (.inl rfl), rfl⟩ hh
        · cases hc
  · rename_i h1
    rw [if_neg h1]
    split at hc
    · rename_i h2
      rw [if_pos h2]
      split at hc
      · rename_i hT
        rw [if_pos hT]
        split at hc
        · rename_i hP
          rw [if_pos hP]
          have hpl := zn5 s.pins e.name e.sum
          have hn := V.nP
          refine ⟨V.wd, V.now, V.given, V.births, V.nT, ?_, V.nL, V.srtT, V.okT, V.ndT, V.refs, zpe V.srtP _ _, ?_, V.srtL, V.okL⟩
          · show (putP e.name e.sum s.pins).length ≤ 100
            rcases hP with hP | hP
            · rw [hpl.2 hP]; exact hn
            · omega
          · intro p hp
            rcases zon hp with rfl | hp
            · exact ⟨EntryOk.name he h2, hT⟩
            · exact V.okP p hp
        · cases hc
      · cases hc
    · rename_i h2
      rw [if_neg h2]
      split at hc
      · rename_i h3
        rw [if_pos h3]
        split at hc
        · rename_i hP
          rw [if_pos hP]
          have hs : (delP e.name s.pins).Sublist s.pins := List.filter_sublist
          exact ⟨V.wd, V.now, V.given, V.births, V.nT, Nat.le_trans hs.length_le V.nP, V.nL, V.srtT, V.okT, V.ndT, V.refs, V.srtP.sublist hs, fun p hp => V.okP p (hs.subset hp), V.srtL, V.okL⟩
        · cases hc
      · rename_i h3
        rw [if_neg h3]
        split at hc
        · rename_i h4
          rw [if_pos h4]
          split at hc
          · rename_i hT
            rw [if_pos hT]
            split at hc
            · rename_i hro; rw [if_pos hro]; exact zft V hro hT (EntryOk.hold he (.inr (.inl h4)))
            · cases hc
          · cases hc
        · rename_i h4
          rw [if_neg h4]
          split at hc
          · rename_i h5
            rw [if_pos h5]
            split at hc
            · rename_i hP
              rw [if_pos hP]
              have hs : (delL e.number s.leases).Sublist s.leases := List.filter_sublist
              exact ⟨V.wd, V.now, V.given, V.births, V.nT, V.nP, Nat.le_trans hs.length_le V.nL, V.srtT, V.okT, V.ndT, V.refs, V.srtP, V.okP, V.srtL.sublist hs, fun l hl => V.okL l (hs.subset hl)⟩
            · cases hc
          · rename_i h5
            rw [if_neg h5]
            split at hc
            · rename_i h6
              rw [if_pos h6]
              split at hc
              · rename_i hn
                rw [if_pos hn]
                have hh := EntryOk.hold he (.inr (.inr h6))
                have hnow := V.now
                have hs : (s.leases.filter fun l => decide (s.now + e.number < l.till)).Sublist s.leases := List.filter_sublist
                refine ⟨V.wd, ?_, V.given, V.births, V.nT, V.nP, Nat.le_trans hs.length_le V.nL, V.srtT, V.okT, V.ndT, V.refs, V.srtP, V.okP, V.srtL.sublist hs, fun l hl => ?_⟩
                · show 0 ≤ s.now + e.number ∧ s.now + e.number ≤ 1000000000; omega
                · obtain ⟨a, b, c, d, f⟩ := V.okL l (hs.subset hl)
                  have hl2 := (List.mem_filter.1 hl).2
                  simp only [decide_eq_true_eq] at hl2
                  exact ⟨a, b, c, hl2, by show l.till ≤ s.now + e.number + 100000; omega⟩
              · cases hc
            · rename_i h6
              rw [if_neg h6]
              split at hc
              · rename_i hT
                rw [if_pos hT]
                split at hc
                · cases hc
                · rename_i hn
                  rw [if_neg hn]
                  exact zpc V (fun h => hn (.inl h)) (fun h => hn (.inr h))
              · cases hc
theorem zfc (s : State) (e : Entry) : (chg s e).st.width = s.width := by
  unfold chg putS fail done lent
  repeat' split
  all_goals rfl
theorem zeq {w : Int} (hw : 1 ≤ w ∧ w ≤ 8) : VS ⟨w, 0, 0, 0, [], [], []⟩ := by
  refine ⟨hw, by simp, by simp, by simp, by simp, by simp, by simp, List.Pairwise.nil, (fun k hk => by cases hk), List.nodup_nil, (fun k hk => by cases hk), List.Pairwise.nil, (fun k hk => by cases hk), List.Pairwise.nil, (fun k hk => by cases hk)⟩
end KV
end
section
namespace KV
open Go Go.Eng
open Classical
def empty (w : Int) : State := ⟨w, 0, 0, 0, [], [], []⟩
noncomputable def runL (w : Int) : State → List Bs → Nat → State ⊕ Nat
  | s, [], _ => .inl s
  | s, x :: l, i => match readE x w with
    | none => .inr (i + 1)
    | some e => if (chg s e).code = 0 then runL w (chg s e).st l (i + 1) else .inr (i + 1)
theorem zf2 {w : Int} : ∀ (l : List Bs) (s : State) (i : Nat) (s' : State), VS s → s.width = w → runL w s l i = .inl s' → VS s' ∧ s'.width = w
  | [], s, i, s', V, hw, h => by simp only [runL] at h; cases h; exact ⟨V, hw⟩
  | x :: l, s, i, s', V, hw, h => by
    simp only [runL] at h
    split at h
    · cases h
    · rename_i e he
      split at h
      · rename_i hc
        have hE := (zf8 he).2
        rw [← hw] at hE
        exact zf2 l _ _ _ (zf1 V hE hc) ((zfc s e).trans hw) h
      · cases h
theorem zib {w : Int} : ∀ (l : List Bs) (s : State) (i n : Nat), runL w s l i = .inr n → i < n ∧ n ≤ i + l.length
  | [], s, i, n, h => by simp [runL] at h
  | x :: l, s, i, n, h => by
    simp only [runL] at h
    rw [List.length_cons]
    split at h
    · cases h; omega
    · split at h
      · have := zib l _ _ _ h; omega
      · cases h; omega
def zex : State ⊕ Nat → Lv
  | .inl s => [.i s.width, .i s.now, .i s.given, .i s.births, .i 0, .l (encK s.things), .l (encP s.pins), .l (encL s.leases)]
  | .inr n => [.i 0, .i 0, .i 0, .i 0, .i (n : Int), .l [], .l [], .l []]
def Small (l : List Bs) : Prop := l.length ≤ 1099511627776 ∧ ∀ x ∈ l, x.size ≤ 1099511627776
theorem zk0 (w : Int) (l : List Bs) (hl : Small l) : ∀ (m i : Nat) (s : State), l.length - i = m → i ≤ l.length → VS s → s.width = w →
    Lqbo (some 3) [.i w, .l (encS l), .i (l.length : Int), .i (i : Int), .i 0, .i 0, .i 0, .i 0, .i s.width, .i s.now, .i s.given, .i s.births, .l [], .l [], .l [], .l (encK s.things), .l (encP s.pins), .l (encL s.leases)] = some (zex (runL w s (l.drop i) i)) := by
  intro m
  induction m with
  | zero =>
    intro i s hm hi V hw
    have : i = l.length := by omega
    subst this
    rw [eqbo_3, List.drop_length]; simp (disch := omega) only [push_cast] <;> rfl
  | succ m ih =>
    intro i s hm hi V hw
    have hlt : i < l.length := by omega
    have hlen := hl.1
    rw [eqbo_3, zcg .empty hlt]
    simp only [runL]
    simp (disch := omega) only [push_cast, zo5 (nth .empty l i) w (hl.2 _ (zw hlt))]
    cases he : readE (nth .empty l i) w with
    | none => simp (disch := omega) only [push_cast, encOE] <;> rfl
    | some e =>
      have hE := (zf8 he).2
      rw [← hw] at hE
      have := znh V hE
      have h2 : Lqa none [.i e.kind, .s e.sum, .s e.name, .i e.number, .s e.thing.text, .l (encS e.thing.refs), .i s.width, .i s.now, .i s.given, .i s.births, .l (encK s.things), .l (encP s.pins), .l (encL s.leases)] = _ := this
      simp (disch := omega) only [push_cast, encOE, h2]
      simp only [zy, encSt, List.cons_append, List.nil_append]
      by_cases hc : (chg s e).code = 0
      · rw [if_pos hc]
        have := ih (i + 1) (chg s e).st (by omega) (by omega) (zf1 V hE hc) ((zfc s e).trans hw)
        simp (disch := omega) only [push_cast]
        exact this
      · rw [if_neg hc]
        simp (disch := omega) only [push_cast, decide_eq_false hc] <;> rfl
theorem zli (w : Int) (l : List Bs) (hl : Small l) (hw : 1 ≤ w ∧ w ≤ 8) : Lqbo none [.i w, .l (encS l)] = some (zex (runL w (empty w) l 0)) := by
  rw [eqbo_i, zl]
  exact zk0 w l hl l.length 0 (empty w) (by omega) (Nat.zero_le _) (zeq hw) rfl
def zee : State ⊕ Nat → Lv
  | .inl s => [.i 0, .i s.width, .i s.now, .i s.given, .i s.births, .s E0, .i 0, .s E0, .s E0, .l (encK s.things), .l (encP s.pins), .l (encL s.leases)]
  | .inr n => [.i 7, .i 0, .i 0, .i 0, .i 0, .s E0, .i (n : Int), .s E0, .s E0, .l [], .l [], .l []]
def rep1 : Lv := [.i 1, .i 0, .i 0, .i 0, .i 0, .s E0, .i 0, .s E0, .s E0, .l [], .l [], .l []]
theorem zmy (w : Int) (l : List Bs) (hl : Small l) : ∀ (m i : Nat) (s : State), l.length - i = m → i ≤ l.length → VS s → s.width = w →
    Lqbn (some 5) [.i w, .l (encS l), .i (i : Int), .i 0, .i 0, .i 0, .i 0, .i 0, .s E0, .i 0, .s E0, .s E0, .i s.width, .i s.now, .i s.given, .i s.births, .l (encK s.things), .l (encP s.pins), .l [], .l [], .l [], .l (encL s.leases)] = some (zee (runL w s (l.drop i) i)) := by
  intro m
  induction m with
  | zero =>
    intro i s hm hi V hw
    have h1 := V.nT; have h2 := V.nP; have h3 := V.nL
    have : i = l.length := by omega
    subst this
    rw [eqbn_5, List.drop_length]
    simp (disch := omega) only [push_cast, zin s.width s.now s.given s.births s.things (encP s.pins) (encL s.leases) (by omega) (zd7 V) (by rw [zby]; omega) (by rw [zck]; omega)]
    rfl
  | succ m ih =>
    intro i s hm hi V hw
    have hlt : i < l.length := by omega
    have hlen := hl.1
    rw [eqbn_5, zcg .empty hlt]
    simp only [runL]
    simp (disch := omega) only [push_cast, zk1 (nth .empty l i) w (hl.2 _ (zw hlt))]
    cases he : readE (nth .empty l i) w with
    | none => simp (disch := omega) only [push_cast, encOE] <;> rfl
    | some e =>
      have hE := (zf8 he).2
      rw [← hw] at hE
      have := zla V hE
      unfold zbv at this
      by_cases hc : (chg s e).code = 0
      · rw [zms hc] at this
        simp (disch := omega) only [push_cast, encOE, this]
        rw [if_pos hc]
        exact ih (i + 1) (chg s e).st (by omega) (by omega) (zf1 V hE hc) ((zfc s e).trans hw)
      · rw [zmi hc] at this
        simp (disch := omega) only [push_cast, encOE, this]
        rw [if_neg hc]; rfl
theorem zna (w : Int) (l : List Bs) (hl : Small l) : Lqbn none [.i w, .l (encS l)] = some (if zj w = true ∧ l.length ≤ 4000 then zee (runL w (empty w) l 0) else rep1) := by
  rw [eqbn_i, zbq]
  cases hw : zj w
  · simp (disch := omega) only [push_cast, false_and] <;> rfl
  · by_cases hn : l.length ≤ 4000
    · simp (disch := omega) only [push_cast]
      rw [if_pos ⟨trivial, hn⟩]
      exact zmy w l hl l.length 0 (empty w) (by omega) (Nat.zero_le _) (zeq (zbe.1 hw)) rfl
    · simp (disch := omega) only [push_cast]
      rw [if_neg fun h => hn h.2]; rfl
structure LogOk (a b : List Bs) : Prop where
  sa : ∀ x ∈ a, x.size ≤ 5000
  sb : ∀ x ∈ b, x.size ≤ 5000
  n : a.length + b.length ≤ 4000
theorem zji (l : List Bs) : (∀ j, 0 ≤ j → j < l.length → (nth .empty l j).size ≤ 5000) ↔ ∀ x ∈ l, x.size ≤ 5000 := by
  constructor
  · intro h x hx
    obtain ⟨i, hi, rfl⟩ := zdt .empty hx
    exact h i (Nat.zero_le _) hi
  · intro h j _ hj; exact h _ (zw hj)
theorem zhc (a b : List Bs) : (if (∀ j, 0 ≤ j → j < a.length → (nth .empty a j).size ≤ 5000) then (if (∀ j, 0 ≤ j → j < b.length → (nth .empty b j).size ≤ 5000) then some [Lf.b (decide ((a.length : Int) + (b.length : Int) ≤ 4000))] else some [.b false]) else some [.b false]) = some [.b (decide (LogOk a b))] := by
  rw [zji, zji]
  by_cases h1 : ∀ x ∈ a, x.size ≤ 5000
  · rw [if_pos h1]
    by_cases h2 : ∀ x ∈ b, x.size ≤ 5000
    · rw [if_pos h2]
      by_cases h3 : a.length + b.length ≤ 4000
      · rw [decide_eq_true (p := LogOk a b) ⟨h1, h2, h3⟩, decide_eq_true (by omega)]
      · rw [decide_eq_false (p := LogOk a b) fun h => h3 h.n, decide_eq_false (by omega)]
    · rw [if_neg h2, decide_eq_false (p := LogOk a b) fun h => h2 h.sb]
  · rw [if_neg h1, decide_eq_false (p := LogOk a b) fun h => h1 h.sa]
theorem zho (a b : List Bs) (ha : Small a) (hb : Small b) : Lql none [.l (encS a), .l (encS b)] = some [.b (decide (LogOk a b))] := by
  have h1 := ha.1; have h2 := hb.1
  rw [eql_i, ← zhc]
  have l2 := zb8 (f := fun i : Nat => Lql (some 7) [.i (i : Int), .l (encS a), .l (encS b)]) (P := fun j => (nth .empty b j).size ≤ 5000) (n := b.length) (T := some [Lf.b (decide ((a.length : Int) + (b.length : Int) ≤ 4000))]) (F := some [.b false]) (fun i hi => by
    show (_ → Lql _ _ = _) ∧ (_ → Lql _ _ = _)
    rw [eql_7]
    by_cases hc : (nth .empty b i).size ≤ 5000 <;> simp (disch := omega) only [push_cast] <;> simp [hc]) (by show Lql _ _ = _; rw [eql_7]; simp (disch := omega) only [push_cast]) 0 (Nat.zero_le _)
  have l1 := zb8 (f := fun i : Nat => Lql (some 2) [.i (i : Int), .l (encS a), .l (encS b)]) (P := fun j => (nth .empty a j).size ≤ 5000) (n := a.length) (T := Lql (some 7) [.i 0, .l (encS a), .l (encS b)]) (F := some [.b false]) (fun i hi => by
    show (_ → Lql _ _ = _) ∧ (_ → Lql _ _ = _)
    rw [eql_2]
    by_cases hc : (nth .empty a i).size ≤ 5000 <;> simp (disch := omega) only [push_cast] <;> simp [hc]) (by show Lql _ _ = _; rw [eql_2]; simp (disch := omega) only [push_cast]) 0 (Nat.zero_le _)
  refine l1.trans ?_
  rw [show Lql (some 7) [.i 0, .l (encS a), .l (encS b)] = _ from l2]
theorem zn1 (a b : List Bs) (ha : Small a) (hb : Small b) : Lqi none [.l (encS a), .l (encS b)] = some [.b (decide (LogOk a b))] := by
  have h1 := ha.1; have h2 := hb.1
  rw [eqi_i, ← zhc]
  have r0 : (rd [[C.l (encS a)], [.l (encS b)]] 0 0).list = encS a := rfl
  have r1 : (rd [[C.l (encS a)], [.l (encS b)]] 1 0).list = encS b := rfl
  have t1 : (1 : Int).toNat = 1 := rfl
  have inner : ∀ (k : Int) (c : List Bs), c.length ≤ 1099511627776 → 0 ≤ k → k ≤ 2 → Lqi (some 5) [.i 2, .i k, .l (encS c), .i (c.length : Int), .i 0, .l (encS a), .l (encS b), .l [[.l (encS a)], [.l (encS b)]]] =
      if (∀ j, 0 ≤ j → j < c.length → (nth .empty c j).size ≤ 5000) then Lqi (some 2) [.i 2, .i (k + 1), .l (encS a), .l (encS b), .l [[.l (encS a)], [.l (encS b)]]] else some [.b false] := fun k c hcl hk0 hk2 =>
    zb8 (f := fun i : Nat => Lqi (some 5) [.i 2, .i k, .l (encS c), .i (c.length : Int), .i (i : Int), .l (encS a), .l (encS b), .l [[.l (encS a)], [.l (encS b)]]]) (P := fun j => (nth .empty c j).size ≤ 5000) (n := c.length) (fun i hi => by
      show (_ → Lqi _ _ = _) ∧ (_ → Lqi _ _ = _)
      rw [eqi_5]
      have hf : ∀ s : Bs, Lqch none [.s s] = some [.b (decide ((s.size : Int) ≤ 5000))] := fun s => by rw [eqch_i]
      by_cases hc : (nth .empty c i).size ≤ 5000 <;> simp (disch := omega) only [push_cast, hf] <;> simp [hc]) (by show Lqi _ _ = _; rw [eqi_5]; simp (disch := omega) only [push_cast]) 0 (Nat.zero_le _)
  show Lqi (some 2) [.i 2, .i 0, .l (encS a), .l (encS b), .l [[C.l (encS a)], [.l (encS b)]]] = _
  rw [eqi_2]
  show Lqi (some 5) [.i 2, .i 0, .l (encS a), .i ((encS a).length : Int), .i 0, .l (encS a), .l (encS b), .l [[C.l (encS a)], [.l (encS b)]]] = _
  rw [zl, inner 0 a h1 (by omega) (by omega)]
  split
  · show Lqi (some 2) [.i 2, .i 1, .l (encS a), .l (encS b), .l [[C.l (encS a)], [.l (encS b)]]] = _
    rw [eqi_2]
    show Lqi (some 5) [.i 2, .i 1, .l (encS b), .i ((encS b).length : Int), .i 0, .l (encS a), .l (encS b), .l [[C.l (encS a)], [.l (encS b)]]] = _
    rw [zl, inner 1 b h2 (by omega) (by omega)]
    split
    · show Lqi (some 2) [.i 2, .i 2, .l (encS a), .l (encS b), .l [[C.l (encS a)], [.l (encS b)]]] = _
      rw [eqi_2]; simp (disch := omega) only [push_cast]
    · rfl
  · rfl
theorem zlj (a b : List Bs) (ha : Small a) (hb : Small b) (hn : a.length + b.length ≤ 1099511627776) : Lqci none [.l (encS a), .l (encS b)] = some [.l (encS (a ++ b))] := by
  rw [eqci_i, mostE, ze6 _ (by rw [zl]; exact ha.1), ← zep]; simp (disch := omega) only [push_cast]
theorem zoz (a b : List Bs) (hn : a.length + b.length ≤ 1099511627776) : Lqcb none [.l (encS a), .l (encS b)] = some [.l (encS (a ++ b))] := by
  rw [eqcb_i, mostE, ← zep]; simp (disch := omega) only [push_cast, List.nil_append]
theorem zmh (a b : List Bs) (ha : Small a) (hb : Small b) : Lqcj none [.l (encS a), .l (encS b)] = some [.l (encS a), .l (encS b)] := by
  rw [eqcj_i, ze6 _ (by rw [zl]; exact ha.1), ze6 _ (by rw [zl]; exact hb.1)]; simp (disch := omega) only [push_cast]
end KV
end
section
namespace KV
open Go Go.Eng
open Classical
structure Round where
  phase : Int
  queue : List Bs
  marked : List Bs
  top : Int
  at_ : Int
  rounds : Int
def R0 : Round := ⟨0, [], [], 0, 0, 0⟩
structure RoundOk (w births : Int) (r : Round) : Prop where
  ph : 0 ≤ r.phase ∧ r.phase ≤ 2
  rds : 0 ≤ r.rounds ∧ r.rounds ≤ 1000000000
  nQ : r.queue.length ≤ 23200
  nM : r.marked.length ≤ 600
  szM : ∀ x ∈ r.marked, (x.size : Int) = w
  ndM : r.marked.Nodup
  szQ : ∀ x ∈ r.queue, (x.size : Int) = w
  rest : r.phase = 0 → r.queue = [] ∧ r.marked = [] ∧ r.top = 0 ∧ r.at_ = 0
  go : r.phase ≠ 0 → 0 ≤ r.top ∧ r.top ≤ births ∧ 1 ≤ r.at_ ∧ r.at_ ≤ r.top + 1 ∧ (r.phase = 1 → r.at_ = r.top + 1)
theorem zf5 (n a b : Int) : Lqb8 none [.i n, .i a, .i b] = some [.b (decide (a ≤ n ∧ n ≤ b))] := by
  rw [eqb8_i]
  by_cases h : a ≤ n
  · simp (disch := omega) only [push_cast]; congr 3; exact decide_eq_decide.2 ⟨fun h1 => ⟨h, h1⟩, fun h1 => h1.2⟩
  · simp (disch := omega) only [push_cast]; rw [decide_eq_false (p := a ≤ n ∧ n ≤ b) fun h1 => h h1.1]
end KV
end
section
namespace KV
open Go Go.Eng
open Classical
structure Vault where
  width : Int
  limit : Int
  safe : List Bs
  loose : List Bs
  st : State
  rd : Round
def V0 : Vault := ⟨0, 0, [], [], ⟨0, 0, 0, 0, [], [], []⟩, R0⟩
structure VV (v : Vault) : Prop where
  wd : zj v.width = true
  lim : 0 ≤ v.limit ∧ v.limit ≤ 1000000
  log : LogOk v.safe v.loose
  run : runL v.width (empty v.width) (v.safe ++ v.loose) 0 = .inl v.st
  rd : RoundOk v.st.width v.st.births v.rd
theorem VV.vs {v : Vault} (h : VV v) : VS v.st ∧ v.st.width = v.width := zf2 _ _ _ _ (zeq (zbe.1 h.wd)) rfl h.run
def encO : Vault ⊕ Int → Lv
  | .inl v => [.i v.width, .i v.limit, .i v.st.width, .i v.st.now, .i v.st.given, .i v.st.births, .i 0, .l [], .l [], .i 0, .i 0, .i 0, .i 0, .l (encS v.safe), .l (encS v.loose), .l (encK v.st.things), .l (encP v.st.pins), .l (encL v.st.leases)]
  | .inr c => [.i 0, .i 0, .i 0, .i 0, .i 0, .i 0, .i 0, .l [], .l [], .i 0, .i 0, .i 0, .i c, .l [], .l [], .l [], .l [], .l []]
def encOI : Vault ⊕ Int → Lv
  | .inl v => [.i v.width, .i v.limit, .i v.st.width, .i v.st.now, .i v.st.given, .i v.st.births, .i 0, .i 0, .i 0, .i 0, .i 0, .l (encS v.safe), .l (encS v.loose), .l (encK v.st.things), .l (encP v.st.pins), .l (encL v.st.leases), .l [], .l []]
  | .inr c => [.i 0, .i 0, .i 0, .i 0, .i 0, .i 0, .i 0, .i 0, .i 0, .i 0, .i c, .l [], .l [], .l [], .l [], .l [], .l [], .l []]
noncomputable def openM (w lim : Int) (a b : List Bs) : Vault ⊕ Int :=
  if zj w = true ∧ (0 ≤ lim ∧ lim ≤ 1000000) ∧ LogOk a b then (match runL w (empty w) (a ++ b) 0 with
    | .inl s => .inl ⟨w, lim, a, b, s, R0⟩
    | .inr _ => .inr 2)
  else .inr 1
theorem Small.app {a b : List Bs} (ha : Small a) (hb : Small b) (hn : a.length + b.length ≤ 1099511627776) : Small (a ++ b) :=
  ⟨by rw [List.length_append]; exact hn, fun x hx => by rcases List.mem_append.1 hx with h | h; exact ha.2 x h; exact hb.2 x h⟩
theorem zod (w lim : Int) (a b : List Bs) (ha : Small a) (hb : Small b) (hn : a.length + b.length ≤ 1099511627776) : Lqb0 none [.i w, .i lim, .l (encS a), .l (encS b)] = some (encOI (openM w lim a b)) := by
  rw [eqb0_i, zc9, zn1 _ _ ha hb, zlj _ _ ha hb hn]
  unfold openM
  cases hw : zj w
  · simp (disch := omega) only [push_cast]
    rw [if_neg fun h => by cases h.1]; rfl
  by_cases h1 : 0 ≤ lim
  rotate_left; · simp (disch := omega) only [push_cast]; rw [if_neg fun h => h1 h.2.1.1]; rfl
  by_cases h2 : lim ≤ 1000000
  rotate_left; · simp (disch := omega) only [push_cast]; rw [if_neg fun h => h2 h.2.1.2]; rfl
  by_cases h3 : LogOk a b
  rotate_left; · simp (disch := omega) only [push_cast, decide_eq_false h3]; rw [if_neg fun h => h3 h.2.2]; rfl
  simp (disch := omega) only [push_cast, decide_eq_true h3, zli w _ (ha.app hb hn) (zbe.1 hw), zmh _ _ ha hb]
  rw [if_pos ⟨trivial, ⟨h1, h2⟩, h3⟩]
  cases hr : runL w (empty w) (a ++ b) 0 with
  | inl s => simp only [zex]; simp (disch := omega) only [push_cast]; rfl
  | inr n =>
    have := (zib _ _ _ _ hr).1
    simp only [zex]; simp (disch := omega) only [push_cast]; rfl
end KV
end
section
namespace KV
open Go Go.Eng
open Classical
def BigTs (l : List Bs) : Prop := l.length ≤ 140737488351232 ∧ ∀ x ∈ l, x.size ≤ 140737488351232
theorem zn2 (a b c d : Int) (Q M : Rw) (h1 : Q.length ≤ 4611686018427387904) (h2 : M.length ≤ 4611686018427387904) : Lqck none [.i a, .l Q, .l M, .i b, .i c, .i d, .i a, .l Q, .l M, .i b, .i c, .i d] = some [.b true] := by
  rw [eqck_i]; simp (disch := omega) only [push_cast, zdz Q h1, zdz M h2]
def zd1 (k : Int) (Q M Q' M' : Rw) : Prop := (Q'.length = Q.length ∧ MarkS k Q') ∧ M'.length = M.length ∧ MarkS (k + (Q.length : Int)) M'
theorem zm2 (a b c d : Int) (Q M : Rw) (k : Int) (hk : 0 ≤ k) (hb : k + ((Q.length : Int) + (M.length : Int)) ≤ 100000000000000000) : ∃ Q' M', Lqcm none [.i a, .i b, .i c, .i d, .i k, .l Q, .l M] = some [.i (k + ((Q.length : Int) + (M.length : Int))), .l Q', .l M'] ∧ zd1 k Q M Q' M' := by
  obtain ⟨Q', q1, q2, q3⟩ := zdg Q k hk (by omega)
  obtain ⟨M', m1, m2, m3⟩ := zdg M (k + (Q.length : Int)) (by omega) (by omega)
  refine ⟨Q', M', ?_, ⟨q2, q3⟩, m2, m3⟩
  rw [eqcm_i, show k + ((Q.length : Int) + (M.length : Int)) = k + (Q.length : Int) + (M.length : Int) by omega]; simp (disch := omega) only [push_cast, q1, m1]
theorem znv (a b c d : Int) {Q M Q' M' : Rw} {k : Int} (hk : 0 ≤ k) (hb : k + ((Q.length : Int) + (M.length : Int)) ≤ 100000000000000000) (h : zd1 k Q M Q' M') : Lqco none [.i a, .l Q', .l M', .i b, .i c, .i d, .i k] = some [.i (k + ((Q.length : Int) + (M.length : Int)))] := by
  obtain ⟨⟨q2, q3⟩, m2, m3⟩ := h
  have h1 := zdu hk (by rw [q2]; omega) q3
  rw [q2] at h1
  have h2 := zdu (k := k + (Q.length : Int)) (by omega) (by rw [m2]; omega) m3
  rw [m2] at h2
  rw [eqco_i, show k + ((Q.length : Int) + (M.length : Int)) = k + (Q.length : Int) + (M.length : Int) by omega]; simp (disch := omega) only [push_cast, h1, h2]
theorem znb (a b : List Bs) (Ba : BigTs a) (Bb : BigTs b) (left : Int) (h0 : 0 ≤ left) (h1 : left ≤ 1048576) : ∃ y, Lqb7 none [.l (encS a), .l (encS b), .i left] = some [.i y] ∧ y ≤ left ∧ (0 ≤ y → ((a.length : Int) + (szs a : Int)) + ((b.length : Int) + (szs b : Int)) ≤ 1048576) := by
  rw [eqb7_i]
  obtain ⟨y1, a1, a2, a3⟩ := zhh a left h0 h1 Ba.1 Ba.2
  by_cases c1 : y1 < 0
  · exact ⟨-1, by simp (disch := omega) only [push_cast, a1], by omega, fun h => by omega⟩
  obtain ⟨y2, b1, b2, b3⟩ := zhh b y1 (by omega) (by omega) Bb.1 Bb.2
  by_cases c2 : y2 < 0
  · exact ⟨-1, by simp (disch := omega) only [push_cast, a1, b1], by omega, fun h => by omega⟩
  refine ⟨y2, by simp (disch := omega) only [push_cast, a1, b1], by omega, fun _ => ?_⟩
  have e1 := a3 (by omega); have e2 := b3 (by omega)
  omega
theorem zjw {l : List Bs} {x : Bs} (h : x ∈ l) : x.size ≤ szs l := by
  unfold szs
  induction l with
  | nil => simp at h
  | cons a l ih =>
    rw [List.map_cons, List.sum_cons]
    rcases List.mem_cons.1 h with rfl | h
    · omega
    · have := ih h; omega
theorem zm6 (a b : List Bs) (ha : a.length ≤ 1048576) (hb : b.length ≤ 1048576) : Lqbw none [.l (encS a), .l (encS b)] = some [.l (encS a), .l (encS b)] := by
  rw [eqbw_i]; simp (disch := omega) only [push_cast, zg4 a (by omega), zg4 b (by omega)]
theorem zj6 (A B : Rw) (h1 : A.length ≤ 4611686018427387904) (h2 : B.length ≤ 4611686018427387904) : Lqbq none [.l A, .l B, .l A, .l B] = some [.b true] := by
  rw [eqbq_i]; simp (disch := omega) only [push_cast, zdz A h1, zdz B h2]
theorem zka (Q M : Rw) (k : Int) (hk : 0 ≤ k) (hb : k + ((Q.length : Int) + (M.length : Int)) ≤ 100000000000000000) : ∃ Q' M', Lqbv none [.i k, .l Q, .l M] = some [.i (k + ((Q.length : Int) + (M.length : Int))), .l Q', .l M'] ∧ zd1 k Q M Q' M' := by
  obtain ⟨Q', q1, q2, q3⟩ := zdg Q k hk (by omega)
  obtain ⟨M', m1, m2, m3⟩ := zdg M (k + (Q.length : Int)) (by omega) (by omega)
  refine ⟨Q', M', ?_, ⟨q2, q3⟩, m2, m3⟩
  rw [eqbv_i, show k + ((Q.length : Int) + (M.length : Int)) = k + (Q.length : Int) + (M.length : Int) by omega]; simp (disch := omega) only [push_cast, q1, m1]
theorem zm5 {Q M Q' M' : Rw} {k : Int} (hk : 0 ≤ k) (hb : k + ((Q.length : Int) + (M.length : Int)) ≤ 100000000000000000) (h : zd1 k Q M Q' M') : Lqcq none [.l Q', .l M', .i k] = some [.i (k + ((Q.length : Int) + (M.length : Int)))] := by
  obtain ⟨⟨q2, q3⟩, m2, m3⟩ := h
  have h1 := zdu hk (by rw [q2]; omega) q3
  rw [q2] at h1
  have h2 := zdu (k := k + (Q.length : Int)) (by omega) (by rw [m2]; omega) m3
  rw [m2] at h2
  rw [eqcq_i, show k + ((Q.length : Int) + (M.length : Int)) = k + (Q.length : Int) + (M.length : Int) by omega]; simp (disch := omega) only [push_cast, h1, h2]
end KV
end
section
namespace KV
open Go Go.Eng
open Classical
structure Few (s : State) : Prop where
  nT : s.things.length ≤ 2000
  nP : s.pins.length ≤ 2000
  nL : s.leases.length ≤ 2000
  refs : ∀ k ∈ s.things, k.thing.refs.length ≤ 2000
theorem Few.nil : Few ⟨0, 0, 0, 0, [], [], []⟩ := ⟨by simp, by simp, by simp, fun k h => by simp at h⟩
theorem VS.few {s : State} (V : VS s) : Few s := by
  have n1 := V.nT; have n2 := V.nP; have n3 := V.nL
  exact ⟨by omega, by omega, by omega, fun k hk => by have := (V.okT k hk).1.refs; omega⟩
theorem Few.eq {s : State} (h : Few s) : Lqb1 none [.i s.width, .i s.now, .i s.given, .i s.births, .l (encK s.things), .l (encP s.pins), .l (encL s.leases), .i s.width, .i s.now, .i s.given, .i s.births, .l (encK s.things), .l (encP s.pins), .l (encL s.leases)] = some [.b true] := by
  have h1 := h.nT; have h2 := h.nP; have h3 := h.nL
  exact zhn _ _ _ _ _ _ _ (by rw [zcb]; omega) (by rw [zby]; omega) (by rw [zck]; omega) fun i => by have := zgq h.refs i; omega
theorem zom {l : List Kept} (h : ∀ k ∈ l, k.thing.refs.length ≤ 2000) (i : Nat) : offK (encK l) i ≤ 2003 * (i : Int) := by
  induction i with
  | zero => simp [offK]
  | succ i ih =>
    have := zgq h i
    show offK (encK l) i + 3 + ((rd (encK l) i 3).list.length : Int) ≤ _
    omega
theorem Few.cnt {s : State} (h : Few s) : 0 ≤ cntS (encK s.things) (encP s.pins) (encL s.leases) ∧ cntS (encK s.things) (encP s.pins) (encL s.leases) ≤ 100000000 := by
  have h1 := h.nT; have h2 := h.nP; have h3 := h.nL
  have := zom h.refs s.things.length
  have o1 := zbt (encK s.things) (i := 0) (j := s.things.length) (Nat.zero_le _)
  have o0 : offK (encK s.things) 0 = 0 := rfl
  unfold cntS
  rw [zcb, zby, zck]
  omega
theorem Few.len {s : State} (h : Few s) : (encK s.things).length ≤ 1000000000 := by have := h.nT; rw [zcb]; omega
end KV
end
section
namespace KV
open Go Go.Eng
open Classical
theorem zhu {α : Type} {f : α → List C} {Q : α → Prop} : ∀ {xs : Rw}, (∀ r ∈ xs, ∃ a, r = f a ∧ Q a) → ∃ l : List α, xs = l.map f ∧ ∀ a ∈ l, Q a
  | [], _ => ⟨[], rfl, fun a h => by simp at h⟩
  | r :: xs, h => by
    obtain ⟨a, rfl, ha⟩ := h r (by simp)
    obtain ⟨l, rfl, hl⟩ := zhu (xs := xs) fun r hr => h r (by simp [hr])
    exact ⟨a :: l, rfl, fun b hb => by rcases List.mem_cons.1 hb with rfl | hb; exact ha; exact hl b hb⟩
section
variable {P : Program}
abbrev B47 : Nat := 140737488351232
theorem dec_l {e : TypeId} {c : C} (h : Ty P B47 (.sl e) c) : ∃ xs, c = .l xs ∧ xs.length ≤ B47 ∧ (∀ r ∈ xs, r.length = (kinds P 8 e).length) ∧ ∀ r ∈ xs, ∀ (o : Nat) (k : CK) (c : C), (kinds P 8 e)[o]? = some k → r[o]? = some c → Ty P B47 k c := by
  cases h with
  | l e xs hl hn h => exact ⟨xs, rfl, hl, hn, h⟩
theorem dec_s {c : C} (h : Ty P B47 .s c) : ∃ x : Bs, c = .s x ∧ x.size ≤ B47 := by cases h with | s x h => exact ⟨x, rfl, h⟩
theorem dec_i {k : IntKind} {c : C} (h : Ty P B47 (.i k) c) : ∃ x : Int, c = .i x := by cases h with | i k x h => exact ⟨x, rfl⟩
theorem decS {e : TypeId} (hk : kinds P 8 e = [.s]) {c : C} (h : Ty P B47 (.sl e) c) : ∃ l : List Bs, c = .l (encS l) ∧ l.length ≤ B47 ∧ ∀ x ∈ l, x.size ≤ B47 := by
  obtain ⟨xs, rfl, h1, h2, h3⟩ := dec_l h
  rw [hk] at h2 h3
  obtain ⟨l, rfl, hl⟩ := zhu (f := fun x : Bs => [.s x]) (Q := fun x => x.size ≤ B47) fun r hr => by
    have := h2 r hr
    match r, this with
    | [c], _ =>
      obtain ⟨x, rfl, hx⟩ := dec_s (h3 _ hr 0 .s c rfl rfl)
      exact ⟨x, rfl, hx⟩
  exact ⟨l, rfl, by simpa using h1, hl⟩
def BigL (l : List Bs) : Prop := l.length ≤ 140737488351232 ∧ ∀ x ∈ l, x.size ≤ 140737488351232
theorem decHd {k : CK} {ks : List CK} {xs : List C} (h : F2 (Ty P B47) (k :: ks) xs) : ∃ c ys, xs = c :: ys ∧ Ty P B47 k c ∧ F2 (Ty P B47) ks ys := by
  cases h with | cons a h => exact ⟨_, _, rfl, a, h⟩
theorem znd {xs : List C} (h : F2 (Ty P B47) [] xs) : xs = [] := by cases h; rfl
end
end KV
end
section
namespace KV
open Go Go.Eng
open Classical
theorem zn0 (a b : List Bs) (ha : Small a) (hb : Small b) : Lqcc none [.l (encS a), .l (encS b)] = some [.l (encS a), .l (encS b)] := by
  have h1 := ha.1; have h2 := hb.1
  rw [eqcc_i, mostE]; simp (disch := omega) only [push_cast, List.nil_append]
end KV
end
section
namespace KV
open Go Go.Eng
open Classical
theorem zpg (w lim : Int) (a b : List Bs) (ha : Small a) (hb : Small b) (hn : a.length + b.length ≤ 1099511627776) : Lqb3 none [.i w, .i lim, .l (encS a), .l (encS b)] = some (encO (openM w lim a b)) := by
  rw [eqb3_i]
  unfold openM
  by_cases h1 : zj w = true
  rotate_left; · have : zj w = false := by simpa using h1
                 rw [if_neg fun h => h1 h.1]; simp (disch := omega) only [push_cast, zbq, this]; rfl
  by_cases h2 : 0 ≤ lim ∧ lim ≤ 1000000
  rotate_left; · rw [if_neg fun h => h2 h.2.1]; simp (disch := omega) only [push_cast, zbq, h1, zf5]; rfl
  by_cases h3 : LogOk a b
  rotate_left; · rw [if_neg fun h => h3 h.2.2]; simp (disch := omega) only [push_cast, zbq, h1, zf5, zho _ _ ha hb]; rfl
  have hl := h3.n
  rw [if_pos ⟨h1, h2, h3⟩]
  simp (disch := omega) only [push_cast, zbq, h1, zf5, zho _ _ ha hb, zoz _ _ hn, zna _ _ (ha.app hb hn), zn0 _ _ ha hb]
  rw [if_pos ⟨trivial, by rw [List.length_append]; omega⟩]
  cases runL w (empty w) (a ++ b) 0 with
  | inl s => simp only [zee]; simp (disch := omega) only [push_cast]; rfl
  | inr n => simp only [zee]; simp (disch := omega) only [push_cast]; rfl
end KV
end
section
namespace KV
open Go Go.Eng
open Classical
def opI (w l : Int) (a b : List Bs) (s : State) (c : Int) : Lv := [.i w, .i l, .i s.width, .i s.now, .i s.given, .i s.births, .i 0, .i 0, .i 0, .i 0, .i c, .l (encS a), .l (encS b), .l (encK s.things), .l (encP s.pins), .l (encL s.leases), .l [], .l []]
def opS (w l : Int) (a b : List Bs) (s : State) (c : Int) : Lv := [.i w, .i l, .i s.width, .i s.now, .i s.given, .i s.births, .i 0, .l [], .l [], .i 0, .i 0, .i 0, .i c, .l (encS a), .l (encS b), .l (encK s.things), .l (encP s.pins), .l (encL s.leases)]
theorem zll (w lim : Int) (a b : List Bs) (ha : Small a) (hb : Small b) (hn : a.length + b.length ≤ 1099511627776) : ∃ (w' l' : Int) (a' b' : List Bs) (s : State) (c : Int), Few s ∧ a'.length + b'.length ≤ 4000 ∧
    Lqb3 none [.i w, .i lim, .l (encS a), .l (encS b)] = some (opS w' l' a' b' s c) ∧ Lqb0 none [.i w, .i lim, .l (encS a), .l (encS b)] = some (opI w' l' a' b' s c) := by
  have h1 := zpg w lim a b ha hb hn
  have h2 := zod w lim a b ha hb hn
  unfold openM at h1 h2
  by_cases c : zj w = true ∧ (0 ≤ lim ∧ lim ≤ 1000000) ∧ LogOk a b
  · rw [if_pos c] at h1 h2
    cases hr : runL w (empty w) (a ++ b) 0 with
    | inl s =>
      rw [hr] at h1 h2
      exact ⟨w, lim, a, b, s, 0, (zf2 _ _ _ _ (zeq (zbe.1 c.1)) rfl hr).1.few, c.2.2.n, h1, h2⟩
    | inr n =>
      rw [hr] at h1 h2
      exact ⟨0, 0, [], [], ⟨0, 0, 0, 0, [], [], []⟩, 2, Few.nil, by simp, h1, h2⟩
  · rw [if_neg c] at h1 h2
    exact ⟨0, 0, [], [], ⟨0, 0, 0, 0, [], [], []⟩, 1, Few.nil, by simp, h1, h2⟩
theorem zlt (w lim : Int) (a b : List Bs) (B : BigL a ∧ BigL b) : Lqcy none [.i w, .i lim, .l (encS a), .l (encS b)] = some [.b true] := by
  rw [eqcy_i]
  obtain ⟨y, y1, y2, y3⟩ := znb a b B.1 B.2 1048576 (by omega) (by omega)
  by_cases hy : y < 0
  · simp (disch := omega) only [push_cast, y1]
  have hz := y3 (by omega)
  have hA : Small a := ⟨by omega, fun x hx => by have := zjw hx; omega⟩
  have hB : Small b := ⟨by omega, fun x hx => by have := zjw hx; omega⟩
  obtain ⟨w', l', a', b', s, c, F, hl, o1, o2⟩ := zll w lim a b hA hB (by omega)
  unfold opS at o1
  unfold opI at o2
  obtain ⟨Q1, M1, r1, _⟩ := zka (encS a) (encS b) 1 (by omega) (by rw [zl, zl]; omega)
  have cn := F.cnt
  obtain ⟨A2, B2, a1, a2⟩ := zka (encS a') (encS b') 1 (by omega) (by rw [zl, zl]; omega)
  have a3 := zm5 (k := 1) (by omega) (by rw [zl, zl]; omega) a2
  rw [zl, zl] at r1 a1 a3
  generalize hk : (1 : Int) + ((a'.length : Int) + (b'.length : Int)) = k at a1 a3
  obtain ⟨T2, P2, L2, k1, k2⟩ := zn7 s.width s.now s.given s.births (encK s.things) (encP s.pins) (encL s.leases) k (by omega) (by omega) F.len
  have k3 := zl7 s.width s.now s.given s.births (k := k) (by omega) (by omega) F.len k2
  generalize hc : cntS (encK s.things) (encP s.pins) (encL s.leases) = cs at cn k1 k3
  obtain ⟨Q2, M2, q1, q2⟩ := zm2 0 0 0 0 [] [] (k + cs) (by omega) (by simp; omega)
  have q3 := znv 0 0 0 0 (k := k + cs) (by omega) (by simp; omega) q2
  rw [show k + cs + ((([] : Rw).length : Int) + (([] : Rw).length : Int)) = k + cs by simp] at q1 q3
  have e0 : Lqbq none [.l (encS a'), .l (encS b'), .l (encS a'), .l (encS b')] = some [.b true] := zj6 _ _ (by rw [zl]; omega) (by rw [zl]; omega)
  have e00 : Lqbq none [.l (encS a), .l (encS b), .l (encS a), .l (encS b)] = some [.b true] := zj6 _ _ (by rw [zl]; omega) (by rw [zl]; omega)
  have e1 : Lqb2 none [.i w', .i l', .l (encS a'), .l (encS b'), .i s.width, .i s.now, .i s.given, .i s.births, .l (encK s.things), .l (encP s.pins), .l (encL s.leases), .i 0, .l [], .l [], .i 0, .i 0, .i 0, .i w', .i l', .l (encS a'), .l (encS b'), .i s.width, .i s.now, .i s.given, .i s.births, .l (encK s.things), .l (encP s.pins), .l (encL s.leases), .i 0, .l [], .l [], .i 0, .i 0, .i 0] = some [.b true] := by
    rw [eqb2_i]
    simp (disch := omega) only [push_cast, e0, F.eq, zn2 0 0 0 0 [] [] (by simp) (by simp)]
  have e2 : Lqcn none [.i w', .i l', .i s.width, .i s.now, .i s.given, .i s.births, .i 0, .i 0, .i 0, .i 0, .i 1, .l (encS a'), .l (encS b'), .l (encK s.things), .l (encP s.pins), .l (encL s.leases), .l [], .l []] = some [.i (k + cs), .l A2, .l B2, .l T2, .l P2, .l L2, .l Q2, .l M2] := by
    rw [eqcn_i]; simp (disch := omega) only [push_cast, a1, k1, q1]
  have e3 : Lqb6 none [.i w', .i l', .l A2, .l B2, .i s.width, .i s.now, .i s.given, .i s.births, .l T2, .l P2, .l L2, .i 0, .l Q2, .l M2, .i 0, .i 0, .i 0, .i 1] = some [.i (k + cs)] := by
    rw [eqb6_i]; simp (disch := omega) only [push_cast, a3, k3, q3]
  simp (disch := omega) only [push_cast, y1, zm6 a b (by omega) (by omega), o1, o2, e1, e00, r1, e2, e3]
end KV
end
