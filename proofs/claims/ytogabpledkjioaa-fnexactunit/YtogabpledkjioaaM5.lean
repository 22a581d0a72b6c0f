/- Plain laws over the walks' closed forms. -/
import Derived.IntWalk
import Derived.WideShapes
import Derived.Laws.Strings
import Derived.Test.YtogabpledkjioaaM1
import Derived.Test.YtogabpledkjioaaM2
import Derived.Test.YtogabpledkjioaaM3
import Derived.Test.YtogabpledkjioaaM4
set_option linter.unusedSimpArgs false
set_option linter.unusedVariables false
set_option linter.unusedSectionVars false
section
namespace KV
open Go Go.Eng
abbrev Bs := ByteArray
theorem w64 {n : Int} (h : -9223372036854775808 ≤ n ∧ n ≤ 9223372036854775807) : IntKind.i64.wrap n = n := IntWalk.i64_in n h
theorem w8 {n : Int} (h : 0 ≤ n ∧ n ≤ 255) : IntKind.u8.wrap n = n := IntWalk.u8_in n h
theorem inb_f {i : Int} {n : Nat} (h : i < 0 ∨ (n : Int) ≤ i) : inb i n = false := by
  simp only [inb, Bool.and_eq_false_iff, decide_eq_false_iff_not]; omega
theorem dlt_f {i n : Nat} (h : n ≤ i) : decide ((i : Int) < (n : Int)) = false := by simp; omega
theorem zlq (n : Nat) : (n : Int).toNat = n := Int.toNat_natCast n
theorem zm4 (x y : Bs) : Eng.seq x y = decide (x = y) := by
  unfold Eng.seq
  rw [ByteArray.toList_eq, ByteArray.toList_eq]
  by_cases h : x = y
  · subst h; simp
  · simp only [h, decide_false, beq_eq_false_iff_ne]
    exact fun e => h (Go.WideShapes.bytes_inj e)
theorem zha : ∀ x : List UInt8, Op.bytesLess x x = false
  | [] => rfl
  | a :: x => by simp [Op.bytesLess, zha x]
theorem zhr : ∀ {x y z : List UInt8}, Op.bytesLess x y = true → Op.bytesLess y z = true → Op.bytesLess x z = true
  | [], [], _, h, _ => by simp [Op.bytesLess] at h
  | [], _ :: _, [], _, h => by simp [Op.bytesLess] at h
  | [], _ :: _, _ :: _, _, _ => rfl
  | _ :: _, [], _, h, _ => by simp [Op.bytesLess] at h
  | _ :: _, _ :: _, [], _, h => by simp [Op.bytesLess] at h
  | a :: x, b :: y, c :: z, h, k => by
    simp only [Op.bytesLess, Bool.or_eq_true, decide_eq_true_eq, Bool.and_eq_true, beq_iff_eq] at h k ⊢
    rcases h with h | ⟨rfl, h⟩ <;> rcases k with k | ⟨rfl, k⟩
    · exact .inl (UInt8.lt_trans h k)
    · exact .inl h
    · exact .inl k
    · exact .inr ⟨rfl, zhr h k⟩
theorem zif : ∀ (x y : List UInt8), Op.bytesLess x y = true ∨ x = y ∨ Op.bytesLess y x = true
  | [], [] => .inr (.inl rfl)
  | [], _ :: _ => .inl rfl
  | _ :: _, [] => .inr (.inr rfl)
  | a :: x, b :: y => by
    simp only [Op.bytesLess, Bool.or_eq_true, decide_eq_true_eq, Bool.and_eq_true, beq_iff_eq, List.cons.injEq]
    rcases zif x y with h | h | h
    · rcases Nat.lt_trichotomy a.toNat b.toNat with k | k | k
      · exact .inl (.inl (UInt8.lt_iff_toNat_lt.2 k))
      · exact .inl (.inr ⟨UInt8.toNat_inj.1 k, h⟩)
      · exact .inr (.inr (.inl (UInt8.lt_iff_toNat_lt.2 k)))
    · rcases Nat.lt_trichotomy a.toNat b.toNat with k | k | k
      · exact .inl (.inl (UInt8.lt_iff_toNat_lt.2 k))
      · exact .inr (.inl ⟨UInt8.toNat_inj.1 k, h⟩)
      · exact .inr (.inr (.inl (UInt8.lt_iff_toNat_lt.2 k)))
    · rcases Nat.lt_trichotomy a.toNat b.toNat with k | k | k
      · exact .inl (.inl (UInt8.lt_iff_toNat_lt.2 k))
      · exact .inr (.inr (.inr ⟨(UInt8.toNat_inj.1 k).symm, h⟩))
      · exact .inr (.inr (.inl (UInt8.lt_iff_toNat_lt.2 k)))
theorem zes (x : Bs) : slt x x = false := zha _
theorem zb0 {x y z : Bs} (h : slt x y = true) (k : slt y z = true) : slt x z = true := zhr h k
theorem zm7 (x y : Bs) : slt x y = true ∨ x = y ∨ slt y x = true := by
  rcases zif x.toList y.toList with h | h | h
  · exact .inl h
  · rw [ByteArray.toList_eq, ByteArray.toList_eq] at h; exact .inr (.inl (Go.WideShapes.bytes_inj h))
  · exact .inr (.inr h)
theorem znt {x y : Bs} (h : slt x y = true) : slt y x = false := by
  cases k : slt y x
  · rfl
  · have := zb0 h k; rw [zes] at this; cases this
theorem ziz {x y : Bs} : slt x y = false ↔ x = y ∨ slt y x = true := by
  constructor
  · intro h; rcases zm7 x y with k | k | k
    · rw [h] at k; cases k
    · exact .inl k
    · exact .inr k
  · rintro (rfl | h)
    · exact zes _
    · exact znt h
theorem zfr {α : Type} (f : α → List C) (l : List α) (i o : Nat) (h : i < l.length) : rd (l.map f) i o = (f l[i]).getD o (.i 0) := by
  simp [rd, List.getD_eq_getElem?_getD, h]
theorem zdz {α : Type} (f : α → List C) (l : List α) (a b : Nat) : Eng.sub (l.map f) a b = ((l.drop a).take (b - a)).map f := by
  simp [Eng.sub, List.map_take, List.map_drop]
def encS (l : List Bs) : Rw := l.map fun s => [.s s]
theorem zk (l : List Bs) : (encS l).length = l.length := by simp [encS]
theorem zce (l m : List Bs) : encS l ++ encS m = encS (l ++ m) := by simp [encS]
theorem ze3 (l : List Bs) (a b : Nat) : Eng.sub (encS l) a b = encS ((l.drop a).take (b - a)) := zdz _ _ _ _
theorem zjq (s : Bs) : ([[C.s s]] : Rw) = encS [s] := rfl
@[push_cast] theorem cpos {p : Prop} [Decidable p] {α : Type} {a b : α} (h : p) : cond (decide p) a b = a := by simp [h]
@[push_cast] theorem cneg {p : Prop} [Decidable p] {α : Type} {a b : α} (h : ¬ p) : cond (decide p) a b = b := by simp [h]
@[push_cast] theorem cnot {α : Type} (c : Bool) (a b : α) : cond (!c) a b = cond c b a := by cases c <;> rfl
attribute [push_cast] cond_true cond_false Option.bind_some Option.bind_none Int.toNat_natCast
@[push_cast] theorem notT : (!true) = false := Eq.trans rfl rfl
@[push_cast] theorem notF : (!false) = true := Eq.trans rfl rfl
@[push_cast] theorem g0 (a : Lf) (l : List Lf) : g (a :: l) 0 = a := Eq.trans rfl rfl
@[push_cast] theorem g1 (a b : Lf) (l : List Lf) : g (a :: b :: l) 1 = b := Eq.trans rfl rfl
@[push_cast] theorem g2 (a b c : Lf) (l : List Lf) : g (a :: b :: c :: l) 2 = c := Eq.trans rfl rfl
@[push_cast] theorem g3 (a b c d : Lf) (l : List Lf) : g (a :: b :: c :: d :: l) 3 = d := Eq.trans rfl rfl
@[push_cast] theorem g4 (a b c d e : Lf) (l : List Lf) : g (a :: b :: c :: d :: e :: l) 4 = e := Eq.trans rfl rfl
@[push_cast] theorem g5 (a b c d e f : Lf) (l : List Lf) : g (a :: b :: c :: d :: e :: f :: l) 5 = f := Eq.trans rfl rfl
@[push_cast] theorem g6 (a b c d e f h : Lf) (l : List Lf) : g (a :: b :: c :: d :: e :: f :: h :: l) 6 = h := Eq.trans rfl rfl
@[push_cast] theorem gS (a b c d e f h : Lf) (l : List Lf) (n : Nat) : g (a :: b :: c :: d :: e :: f :: h :: l) (n + 7) = g l n := Eq.trans rfl rfl
@[push_cast] theorem lfI (n : Int) : (Lf.i n).int = n := Eq.trans rfl rfl
@[push_cast] theorem lfB (n : Bool) : (Lf.b n).bool = n := Eq.trans rfl rfl
@[push_cast] theorem lfS (n : ByteArray) : (Lf.s n).str = n := Eq.trans rfl rfl
@[push_cast] theorem lfL (n : Rw) : (Lf.l n).list = n := Eq.trans rfl rfl
@[push_cast] theorem lfM (n : List (C × C)) : (Lf.m n).map = n := Eq.trans rfl rfl
attribute [push_cast] w64 w8
@[push_cast] theorem inbp {i : Int} {n : Nat} (h : 0 ≤ i ∧ i < (n : Int)) : inb i n = true := by simp [inb, h]
@[push_cast] theorem inbn {i : Int} {n : Nat} (h : ¬ (0 ≤ i ∧ i < (n : Int))) : inb i n = false := inb_f (by omega)
@[push_cast] theorem tnA (i : Nat) : ((i : Int) + 1).toNat = i + 1 := by omega
@[push_cast] theorem tnM (i : Nat) : ((i : Int) - 1).toNat = i - 1 := by omega
@[push_cast] theorem bneI (a b : Int) : (a != b) = !decide (a = b) := by
  by_cases h : a = b
  · subst h; simp
  · simp [h]
@[push_cast] theorem beqI (a b : Int) : (a == b) = decide (a = b) := by
  by_cases h : a = b
  · subst h; simp
  · simp [h]
attribute [push_cast] zm4 zk
@[push_cast] theorem lenC {α : Type} (a : α) (l : List α) : (a :: l).length = l.length + 1 := Eq.trans rfl rfl
@[push_cast] theorem lenN {α : Type} : ([] : List α).length = 0 := Eq.trans rfl rfl
@[push_cast] theorem ifT {α : Type} (a b : α) : (if True then a else b) = a := if_pos trivial
@[push_cast] theorem ifF {α : Type} (a b : α) : (if False then a else b) = b := if_neg id
@[push_cast] theorem ftE : (false = true) = False := by simp
attribute [push_cast] eq_self
@[push_cast] theorem decT [Decidable True] : decide True = true := by simp
@[push_cast] theorem decF [Decidable False] : decide False = false := by simp
def nth {α : Type} (d : α) (l : List α) (i : Nat) : α := l.getD i d
theorem zgi {α : Type} (d x : α) (l : List α) : nth d (x :: l) 0 = x := rfl
theorem zc0 {α : Type} (d x : α) (l : List α) (i : Nat) : nth d (x :: l) (i + 1) = nth d l i := rfl
theorem zn {α : Type} (d : α) (l : List α) (i : Nat) (h : i < l.length) : nth d l i = l[i] := by
  unfold nth; rw [List.getD_eq_getElem?_getD, List.getElem?_eq_getElem h]; rfl
theorem znp {α : Type} {d : α} {l : List α} {i : Nat} (h : i < l.length) : l[i]? = some (nth d l i) := by
  rw [zn d l i h, List.getElem?_eq_getElem h]
theorem zj {α : Type} {l : List α} {i : Nat} {d : α} (h : i < l.length) : nth d l i ∈ l := by
  rw [zn d l i h]; exact List.getElem_mem h
theorem zbr {α : Type} {l : List α} {x : α} (d : α) (h : x ∈ l) : ∃ i, i < l.length ∧ nth d l i = x := by
  obtain ⟨i, h1, h2⟩ := List.mem_iff_getElem.1 h
  exact ⟨i, h1, by rw [zn d l i h1]; exact h2⟩
theorem zjd {α : Type} (d : α) {l : List α} {i : Nat} (h : i < l.length) : l.drop i = nth d l i :: l.drop (i + 1) := by
  rw [List.drop_eq_getElem_cons h, zn d l i h]
theorem zbf {α : Type} (d : α) {l : List α} {i : Nat} (h : i < l.length) : l.take (i + 1) = l.take i ++ [nth d l i] := by
  rw [List.take_add_one, znp (d := d) h]; rfl
theorem ziq {α : Type} (f : α → List C) (d : α) (l : List α) (i o : Nat) (h : i < l.length) : rd (l.map f) i o = (f (nth d l i)).getD o (.i 0) := by
  rw [zfr f l i o h, zn d l i h]
theorem zfy {α : Type} (f : α → List C) (l : List α) (i o : Nat) (h : l.length ≤ i) : rd (l.map f) i o = .i 0 := by
  have : (l.map f).getD i [] = [] := by
    rw [List.getD_eq_getElem?_getD, List.getElem?_eq_none (by simpa using h)]; rfl
  unfold rd
  rw [this]; rfl
@[push_cast] theorem zpy (l : List Bs) (i : Nat) : (rd (encS l) i 0).str = nth .empty l i := by
  rcases Nat.lt_or_ge i l.length with h | h
  · rw [encS, ziq _ .empty _ _ _ h]; rfl
  · rw [encS, zfy _ _ _ _ h, nth, List.getD_eq_getElem?_getD, List.getElem?_eq_none h]; rfl
end KV
end
section

end
section
namespace KV
open Go Go.Eng
open Classical in
theorem zt {β : Type} {f : Nat → β} {P : Nat → Prop} {n : Nat} {T F : β} (step : ∀ i, i < n → (P i → f i = f (i + 1)) ∧ (¬ P i → f i = F)) (last : f n = T) :
    ∀ i, i ≤ n → f i = if (∀ j, i ≤ j → j < n → P j) then T else F := by
  intro i hi
  generalize hk : n - i = k
  induction k generalizing i with
  | zero =>
    have : i = n := by omega
    subst this
    rw [if_pos (fun j h1 h2 => absurd h2 (by omega)), last]
  | succ k ih =>
    have hlt : i < n := by omega
    by_cases h : P i
    · rw [(step i hlt).1 h, ih (i + 1) (by omega) (by omega)]
      by_cases h2 : ∀ j, i + 1 ≤ j → j < n → P j
      · rw [if_pos h2, if_pos fun j h3 h4 => by
          rcases Nat.eq_or_lt_of_le h3 with rfl | h5
          · exact h
          · exact h2 j h5 h4]
      · rw [if_neg h2, if_neg fun h3 => h2 fun j h4 h5 => h3 j (by omega) h5]
    · rw [(step i hlt).2 h, if_neg fun h3 => h (h3 i (Nat.le_refl _) hlt)]
theorem zg4 {β σ : Type} {f : Nat → σ → β} {g : Nat → σ → σ} {n : Nat} (step : ∀ i s, i < n → f i s = f (i + 1) (g i s)) :
    ∀ i, i ≤ n → ∀ s, f i s = f n ((List.range' i (n - i)).foldl (fun s i => g i s) s) := by
  intro i hi
  generalize hk : n - i = k
  induction k generalizing i with
  | zero =>
    intro s
    have : i = n := by omega
    subst this; rfl
  | succ k ih =>
    intro s
    rw [step i s (by omega), ih (i + 1) (by omega) (by omega)]
    rfl
theorem zp {β σ : Type} {f : Nat → σ → β} {I : Nat → σ → Prop} {n : Nat} {T : β} (step : ∀ i s, i < n → I i s → ∃ s', f i s = f (i + 1) s' ∧ I (i + 1) s') (last : ∀ s, I n s → f n s = T) :
    ∀ i s, i ≤ n → I i s → f i s = T := by
  intro i s hi
  generalize hk : n - i = k
  induction k generalizing i s with
  | zero =>
    intro h
    have : i = n := by omega
    subst this; exact last s h
  | succ k ih =>
    intro h
    obtain ⟨s', h1, h2⟩ := step i s (by omega) h
    rw [h1]; exact ih (i + 1) s' (by omega) (by omega) h2
theorem zb3 {β σ : Type} {f : Nat → σ → β} {I : Nat → σ → Prop} {n : Nat} {T : β → Prop} (step : ∀ i s, i < n → I i s → (∃ s', f i s = f (i + 1) s' ∧ I (i + 1) s') ∨ T (f i s)) (last : ∀ s, I n s → T (f n s)) :
    ∀ i s, i ≤ n → I i s → T (f i s) := by
  intro i s hi
  generalize hk : n - i = k
  induction k generalizing i s with
  | zero =>
    intro h
    have : i = n := by omega
    subst this; exact last s h
  | succ k ih =>
    intro h
    rcases step i s (by omega) h with ⟨s', h1, h2⟩ | h1
    · rw [h1]; exact ih (i + 1) s' (by omega) (by omega) h2
    · exact h1
theorem zch (xs ys : Rw) : bytesOf (xs ++ ys) = bytesOf xs ++ bytesOf ys := by
  apply Go.WideShapes.bytes_inj
  simp [bytesOf, ByteArray.data_append]
theorem zgp (s : Bs) : bytesOf (rowsOf s) = s := by
  apply Go.WideShapes.bytes_inj
  simp only [bytesOf, rowsOf, List.map_map]
  rw [show ((fun r : List C => UInt8.ofNat (r.getD 0 (.i 0)).int.toNat) ∘ fun b : UInt8 => [C.i (b.toNat : Int)]) = id from funext fun b => by simp only [Function.comp, List.getD_cons_zero, C.int, Int.toNat_natCast, UInt8.ofNat_toNat, id]]
  simp only [List.map_id, Array.toArray_toList]
theorem zdw (xs : Rw) : (bytesOf xs).size = xs.length := by
  show (xs.map _).toArray.size = _
  simp only [List.size_toArray, List.length_map]
theorem zgv (s : Bs) : (rowsOf s).length = s.size := by
  show (s.data.toList.map _).length = s.data.size
  simp only [List.length_map, Array.length_toList]
theorem zco (s : Bs) (n : Nat) : 0 ≤ byteAt s n ∧ byteAt s n < 256 := by
  unfold byteAt
  generalize s.data.getD n 0 = b
  have := b.toNat_lt
  omega
theorem size_extract (s : Bs) (a b : Nat) : (s.extract a b).size = min b s.size - a := ByteArray.size_extract
theorem zdj (s t : Bs) : (s ++ t).size = s.size + t.size := ByteArray.size_append
end KV
end
section
namespace KV
open Go Go.Eng
open Classical
def zm (w : Int) : Bool := decide (1 ≤ w) && decide (w ≤ 8)
theorem z8 {w : Int} : zm w = true ↔ 1 ≤ w ∧ w ≤ 8 := by simp [zm]
theorem zb1 (w : Int) : Lqbu none [.i w] = some [.b (zm w)] := by
  rw [eqbu_i]; unfold zm
  cases decide (1 ≤ w) <;> rfl
theorem zbl (w : Int) : Lqbt none [.i w] = some [.b (zm w)] := by
  rw [eqbt_i]; unfold zm
  cases decide (1 ≤ w) <;> rfl
structure Thing where
  text : Bs
  refs : List Bs
def Asc (l : List Bs) : Prop := l.Pairwise fun a b => slt a b = true
theorem zmu (l : List Bs) : Asc l ↔ ∀ j, 0 < j → j < l.length → slt (nth .empty l (j - 1)) (nth .empty l j) = true := by
  induction l with
  | nil => exact ⟨fun _ j _ h => absurd h (by simp), fun _ => List.Pairwise.nil⟩
  | cons a l ih =>
    unfold Asc at ih ⊢
    rw [List.pairwise_cons, ih]
    constructor
    · rintro ⟨h1, h2⟩ j hj hl
      cases j with
      | zero => omega
      | succ j =>
        simp only [Nat.add_sub_cancel, zc0]
        cases j with
        | zero =>
          simp only [List.length_cons] at hl
          exact h1 _ (zj (by omega))
        | succ j =>
          simp only [zc0]
          simp only [List.length_cons] at hl
          exact h2 (j + 1) (by omega) (by omega)
    · intro h
      have h2 : ∀ j, 0 < j → j < l.length → slt (nth .empty l (j - 1)) (nth .empty l j) = true := fun j hj hl => by
        have := h (j + 1) (by omega) (by simp; omega)
        cases j with
        | zero => omega
        | succ j => simpa [zc0, zgi] using this
      refine ⟨fun b hb => ?_, h2⟩
      obtain ⟨i, hi, rfl⟩ := zbr .empty hb
      clear hb
      induction i with
      | zero => have := h 1 (by omega) (by simp; omega); simpa [zc0, zgi] using this
      | succ i ihi => exact zb0 (ihi (by omega)) (h2 (i + 1) (by omega) hi)
structure ThingOk (t : Thing) (w : Int) : Prop where
  wd : 1 ≤ w ∧ w ≤ 8
  text : t.text.size ≤ 2000
  refs : t.refs.length ≤ 30
  size : ∀ r ∈ t.refs, (r.size : Int) = w
  asc : Asc t.refs
noncomputable def z0 (t : Thing) (w : Int) : Bool := decide (ThingOk t w)
theorem zfz {t : Thing} {w : Int} : z0 t w = true ↔ ThingOk t w := by simp [z0]
def refP (l : List Bs) (w : Int) (j : Nat) : Prop := ((nth .empty l j).size : Int) = w ∧ (0 < j → slt (nth .empty l (j - 1)) (nth .empty l j) = true)
theorem zn4 (l : List Bs) (w : Int) : (∀ j, 0 ≤ j → j < l.length → refP l w j) ↔ (∀ r ∈ l, (r.size : Int) = w) ∧ Asc l := by
  rw [zmu]
  constructor
  · intro h
    refine ⟨fun r hr => ?_, fun j h1 h2 => (h j (by omega) h2).2 h1⟩
    obtain ⟨i, hi, rfl⟩ := zbr .empty hr
    exact (h i (by omega) hi).1
  · rintro ⟨h1, h2⟩ j _ hj
    exact ⟨h1 _ (zj hj), fun h => h2 j h hj⟩
theorem zk3 (l : List Bs) (x : Bs) (w : Int) (hl : l.length ≤ 30) : ∀ i : Nat, i ≤ l.length →
    Lq2 (some 4) [.i w, .l (encS l), .i (l.length : Int), .i (i : Int), .s x, .l (encS l)] = if (∀ j, i ≤ j → j < l.length → refP l w j) then some [.b (zm w)] else some [.b false] := by
  refine zt (f := fun i : Nat => Lq2 (some 4) [.i w, .l (encS l), .i (l.length : Int), .i (i : Int), .s x, .l (encS l)]) (fun i hi => ?_) ?_
  · show (_ → Lq2 _ _ = _) ∧ (_ → Lq2 _ _ = _)
    rw [eq2_4]
    unfold refP
    by_cases h0 : 0 < i <;> by_cases h1 : ((nth .empty l i).size : Int) = w <;> simp (disch := omega) only [push_cast]
    · cases slt (nth .empty l (i - 1)) (nth .empty l i) <;> simp [h0, h1]
    · simp [h1]
    · simp [h0, h1]
    · simp [h1]
  · show Lq2 _ _ = _
    rw [eq2_4]; simp (disch := omega) only [push_cast, zb1]
theorem zcz (t : Thing) (w : Int) : ThingOk t w ↔ zm w = true ∧ t.text.size ≤ 2000 ∧ t.refs.length ≤ 30 ∧ ∀ j, 0 ≤ j → j < t.refs.length → refP t.refs w j := by
  rw [zn4, z8]
  exact ⟨fun h => ⟨h.wd, h.text, h.refs, h.size, h.asc⟩, fun h => ⟨h.1, h.2.1, h.2.2.1, h.2.2.2.1, h.2.2.2.2⟩⟩
theorem zbn (t : Thing) (w : Int) : Lq2 none [.s t.text, .l (encS t.refs), .i w] = some [.b (z0 t w)] := by
  rw [eq2_i, zk]
  by_cases h1 : t.text.size ≤ 2000
  · by_cases h2 : t.refs.length ≤ 30
    · rw [show decide ((2000 : Int) < (t.text.size : Int)) = false by simp; omega, show decide ((30 : Int) < (t.refs.length : Int)) = false by simp; omega]
      simp only [cond_false]
      have := zk3 t.refs t.text w h2 0 (Nat.zero_le _)
      rw [show ((0 : Nat) : Int) = 0 from rfl] at this
      rw [this]
      unfold z0
      by_cases h3 : ∀ j, 0 ≤ j → j < t.refs.length → refP t.refs w j
      · rw [if_pos h3]; congr 3
        cases hw : zm w
        · exact (decide_eq_false fun h => by rw [zcz, hw] at h; cases h.1).symm
        · exact (decide_eq_true ((zcz t w).2 ⟨hw, h1, h2, h3⟩)).symm
      · rw [if_neg h3, decide_eq_false fun h => h3 ((zcz t w).1 h).2.2.2]
    · rw [show decide ((2000 : Int) < (t.text.size : Int)) = false by simp; omega, show decide ((30 : Int) < (t.refs.length : Int)) = true by simp; omega]
      simp only [cond_false, cond_true]
      unfold z0
      rw [decide_eq_false fun h => h2 h.refs]
  · rw [show decide ((2000 : Int) < (t.text.size : Int)) = true by simp; omega]
    simp only [cond_true]
    unfold z0
    rw [decide_eq_false fun h => h1 h.text]
theorem zmq (l : List Bs) (x : Bs) (w : Int) (hl : l.length ≤ 30) : ∀ i : Nat, i ≤ l.length →
    Lqv (some 4) [.i w, .i (i : Int), .s x, .l (encS l)] = if (∀ j, i ≤ j → j < l.length → refP l w j) then some [.b true] else some [.b false] := by
  refine zt (f := fun i : Nat => Lqv (some 4) [.i w, .i (i : Int), .s x, .l (encS l)]) (fun i hi => ?_) ?_
  · show (_ → Lqv _ _ = _) ∧ (_ → Lqv _ _ = _)
    rw [eqv_4]
    unfold refP
    by_cases h0 : 0 < i <;> by_cases h1 : ((nth .empty l i).size : Int) = w <;> simp (disch := omega) only [push_cast]
    · cases slt (nth .empty l (i - 1)) (nth .empty l i) <;> simp [h0, h1]
    · simp [h1]
    · simp [h0, h1]
    · simp [h1]
  · show Lqv _ _ = _
    rw [eqv_4]; simp (disch := omega) only [push_cast]
theorem zc7 (t : Thing) (w : Int) : Lqv none [.s t.text, .l (encS t.refs), .i w] = some [.b (z0 t w)] := by
  rw [eqv_i, zbl, zk]
  simp only [Option.bind_some, g, List.getD_cons_zero, Lf.bool]
  unfold z0
  cases hw : zm w
  · simp (disch := omega) only [push_cast]; rw [decide_eq_false (p := ThingOk t w) fun h => by rw [zcz, hw] at h; cases h.1]
  by_cases h1 : t.text.size ≤ 2000
  · by_cases h2 : t.refs.length ≤ 30
    · rw [show decide ((2000 : Int) < (t.text.size : Int)) = false by simp; omega, show decide ((30 : Int) < (t.refs.length : Int)) = false by simp; omega]
      simp only [cond_false, Bool.not_true]
      have := zmq t.refs t.text w h2 0 (Nat.zero_le _)
      rw [show ((0 : Nat) : Int) = 0 from rfl] at this
      rw [this]
      by_cases h3 : ∀ j, 0 ≤ j → j < t.refs.length → refP t.refs w j
      · rw [if_pos h3, decide_eq_true ((zcz t w).2 ⟨hw, h1, h2, h3⟩)]
      · rw [if_neg h3, decide_eq_false fun h => h3 ((zcz t w).1 h).2.2.2]
    · rw [show decide ((2000 : Int) < (t.text.size : Int)) = false by simp; omega, show decide ((30 : Int) < (t.refs.length : Int)) = true by simp; omega]
      simp only [cond_false, cond_true, Bool.not_true]
      rw [decide_eq_false fun h => h2 h.refs]
  · rw [show decide ((2000 : Int) < (t.text.size : Int)) = true by simp; omega]
    simp only [cond_true, cond_false, Bool.not_true]
    rw [decide_eq_false fun h => h1 h.text]
theorem zfo (n : Int) : IntKind.u64.wrap n = n % 18446744073709551616 := by simp [IntKind.wrap, IntKind.bits, IntKind.signed]
def step1 (h b : Int) : Int := IntKind.u64.wrap ((IntKind.u64.wrap (BitVec.ofInt (IntKind.u64).bits h ^^^ BitVec.ofInt (IntKind.u64).bits (IntKind.u64.wrap b)).toNat) * 1099511628211)
def hash (s : Bs) : Int := (List.range' 0 s.size).foldl (fun h i => step1 h (byteAt s i)) 14695981039346656037
def digs : Nat → Int → List Int
  | 0, _ => []
  | n + 1, h => digs n (h / 256) ++ [h % 256]
theorem zi5 : ∀ n h, (digs n h).length = n
  | 0, _ => rfl
  | n + 1, h => by simp [digs, zi5 n]
def rowI (l : List Int) : Rw := l.map fun d => [.i d]
noncomputable def sumM (s : Bs) (w : Int) : Bs := if zm w = true then bytesOf (rowI (digs w.toNat (hash s))) else ⟨#[]⟩
theorem zjm {s : Bs} {w : Int} (h : zm w = true) : ((sumM s w).size : Int) = w := by
  rw [sumM, if_pos h, zdw, rowI, List.length_map, zi5]
  have := z8.1 h; omega
theorem zmi (n : Int) : 0 ≤ IntKind.u64.wrap n ∧ IntKind.u64.wrap n < 18446744073709551616 := by rw [zfo]; omega
theorem zjn (s : Bs) : 0 ≤ hash s ∧ hash s < 18446744073709551616 := by
  unfold hash
  generalize List.range' 0 s.size = l
  have : ∀ (l : List Nat) (h : Int), (0 ≤ h ∧ h < 18446744073709551616) → 0 ≤ l.foldl (fun h i => step1 h (byteAt s i)) h ∧ l.foldl (fun h i => step1 h (byteAt s i)) h < 18446744073709551616 := by
    intro l
    induction l with
    | nil => exact fun h hh => hh
    | cons a l ih => exact fun h _ => ih _ (zmi _)
  exact this l _ (by omega)
theorem wrI (l : List Int) (i : Nat) (d : Int) (h : i < l.length) : wrs (rowI l) i 0 [.i d] = rowI (l.set i d) := by
  unfold wrs wrs wr rowI
  rw [List.map_set]
  congr 1
  have : (l.map fun d => [C.i d]).getD i [] = [.i l[i]] := by simp [List.getD_eq_getElem?_getD, h]
  rw [this]; rfl
theorem zlg (n : Nat) : ∀ (h : Int) (l r : List Int), 0 ≤ h → h < 18446744073709551616 → l.length = n → n + r.length ≤ 8 →
    Lqp (some 12) [.i h, .i ((n : Int) - 1), .l (rowI (l ++ r))] = some [.s (bytesOf (rowI (digs n h ++ r)))] := by
  induction n with
  | zero =>
    intro h l r h0 h1 hl hr
    rw [eqp_12]
    have : l = [] := List.eq_nil_of_length_eq_zero hl
    subst this
    simp (disch := omega) only [push_cast] <;> rfl
  | succ n ih =>
    intro h l r h0 h1 hl hr
    rw [eqp_12]
    have hlen : (rowI (l ++ r)).length = n + 1 + r.length := by simp [rowI, hl]
    have e : ((n + 1 : Nat) : Int) - 1 = (n : Int) := by omega
    rw [e, hlen]
    have hu : IntKind.u8.wrap h = h % 256 := by rw [IntKind.wrap_u8]
    simp (disch := omega) only [push_cast, wrI]
    rw [hu, wrI _ _ _ (by simp [hl]; omega)]
    have hset : (l ++ r).set n (h % 256) = l.take n ++ (h % 256 :: r) := by
      rw [List.set_append_left _ _ (by omega)]
      have : l = l.take n ++ [l[n]] := by
        conv => lhs; rw [← List.take_append_drop n l, List.drop_eq_getElem_cons (by omega), List.drop_of_length_le (by omega)]
      conv => lhs; rw [this]
      rw [List.set_append_right _ _ (by simp; omega)]
      simp [hl]
    rw [hset]
    have hf : h.fdiv (2 ^ 8) = h / 256 := by rw [Int.fdiv_eq_ediv_of_nonneg _ (by omega)]; rfl
    rw [hf, ih (h / 256) (l.take n) (h % 256 :: r) (by omega) (by omega) (by simp [hl]) (by simp; omega)]
    simp [digs]
theorem zbv (s : Bs) (w : Int) (hs : s.size ≤ 1099511627776) : Lqp none [.s s, .i w] = some [.s (sumM s w)] := by
  rw [eqp_i, zb1]
  unfold sumM
  cases hw : zm w
  · simp (disch := omega) only [push_cast] <;> rfl
  · simp (disch := omega) only [push_cast]
    have := zg4 (f := fun (i : Nat) (h : Int) => Lqp (some 5) [.s s, .i w, .i h, .i (s.size : Int), .i (i : Int)]) (g := fun i h => step1 h (byteAt s i)) (n := s.size) (fun i h hi => by
      show Lqp _ _ = Lqp _ _
      rw [eqp_5]; simp (disch := omega) only [push_cast] <;> rfl) 0 (Nat.zero_le _) 14695981039346656037
    rw [show ((0 : Nat) : Int) = 0 from rfl] at this
    rw [this, Nat.sub_zero, show (List.range' 0 s.size).foldl (fun h i => step1 h (byteAt s i)) 14695981039346656037 = hash s from rfl, eqp_5]
    have h8 := z8.1 hw
    have hr := zjn s
    have hm : (most : Int) = 1099511627776 := rfl
    obtain ⟨n, rfl⟩ : ∃ n : Nat, w = (n : Int) := ⟨w.toNat, by omega⟩
    simp (disch := omega) only [push_cast, hm]
    have h12 := zlg n (hash s) (List.replicate n 0) [] hr.1 hr.2 (by simp) (by simp; omega)
    rw [List.append_nil, List.append_nil, show rowI (List.replicate n 0) = List.replicate n [C.i 0] by simp [rowI]] at h12
    exact h12
theorem zm6 (n : Nat) : ∀ (h : Int) (r : List Int) (w : Nat), 0 ≤ h → h < 18446744073709551616 → r.length + n = w → w ≤ 8 →
    Lqw (some 10) [.i (w : Int), .i h, .i (r.length : Int), .l (rowI r)] = some [.s (bytesOf (rowI (digs n h ++ r)))] := by
  induction n with
  | zero =>
    intro h r w h0 h1 hr hw
    rw [eqw_10]
    simp (disch := omega) only [push_cast] <;> rfl
  | succ n ih =>
    intro h r w h0 h1 hr hw
    rw [eqw_10]
    have hm : most = 1099511627776 := rfl
    have hlen : (rowI r).length = r.length := by simp [rowI]
    have hu : IntKind.u8.wrap (h.tmod 256) = h % 256 := by rw [Int.tmod_eq_emod_of_nonneg h0, w8 (by omega)]
    have hq : IntKind.u64.wrap (h.tdiv 256) = h / 256 := by rw [Int.tdiv_eq_ediv_of_nonneg h0, zfo]; omega
    rw [hu, hq]
    simp (disch := omega) only [push_cast, List.length_cons, List.length_nil, hm, hlen]
    have := ih (h / 256) (h % 256 :: r) w (by omega) (by omega) (by simp; omega) hw
    simp only [List.length_cons] at this
    rw [show ([[C.i (h % 256)]] : Rw) ++ rowI r = rowI (h % 256 :: r) from rfl, show ((r.length : Int) + 1) = ((r.length + 1 : Nat) : Int) by omega, this]
    simp [digs]
theorem zez (s : Bs) (w : Int) (hs : s.size ≤ 1099511627776) : Lqw none [.s s, .i w] = some [.s (sumM s w)] := by
  rw [eqw_i, zbl]
  unfold sumM
  cases hw : zm w
  · simp (disch := omega) only [push_cast] <;> rfl
  · simp (disch := omega) only [push_cast]
    have := zg4 (f := fun (i : Nat) (h : Int) => Lqw (some 5) [.s s, .i w, .i h, .i (i : Int)]) (g := fun i h => step1 h (byteAt s i)) (n := s.size) (fun i h hi => by
      show Lqw _ _ = Lqw _ _
      rw [eqw_5]; simp (disch := omega) only [push_cast] <;> rfl) 0 (Nat.zero_le _) 14695981039346656037
    rw [show ((0 : Nat) : Int) = 0 from rfl] at this
    rw [this, Nat.sub_zero, show (List.range' 0 s.size).foldl (fun h i => step1 h (byteAt s i)) 14695981039346656037 = hash s from rfl, eqw_5]
    have h8 := z8.1 hw
    have hr := zjn s
    obtain ⟨n, rfl⟩ : ∃ n : Nat, w = (n : Int) := ⟨w.toNat, by omega⟩
    simp (disch := omega) only [push_cast]
    have := zm6 n (hash s) [] n hr.1 hr.2 (by simp) (by omega)
    rw [List.append_nil] at this
    exact this
end KV
end
section
namespace KV
open Go Go.Eng
open Classical
theorem mostE : most = 1099511627776 := rfl
theorem zie (l : Rw) (h : l.length ≤ 1099511627776) : Lqcb none [.l l] = some [.l l] := by
  rw [eqcb_i, mostE]; simp (disch := omega) only [push_cast]
theorem zmy (x : Bs) (l : Rw) (h : l.length ≤ 1099511627776) : Lqck none [.s x, .l l] = some [.s x, .l l] := by
  rw [eqck_i, mostE]; simp (disch := omega) only [push_cast, List.length_nil, List.nil_append]
def szs (l : List Bs) : Nat := (l.map (·.size)).sum
theorem zg2 (a : Bs) (l : List Bs) : szs (a :: l) = a.size + szs l := rfl
theorem zi0 (l m : List Bs) : szs (l ++ m) = szs l + szs m := by simp [szs]
theorem zjv (l : List Bs) (i : Nat) : szs (l.take i) ≤ szs l := by
  conv => rhs; rw [← List.take_append_drop i l, zi0]
  omega
def hd (n : Nat) : Bs := bytesOf [[.i (IntKind.u8.wrap (n : Int))]]
theorem zdk (n : Nat) : (hd n).size = 1 := by rw [hd, zdw]; rfl
def cat (a : Bs) (l : List Bs) : Bs := l.foldl (· ++ ·) a
theorem zdm (l : List Bs) : ∀ a, (cat a l).size = a.size + szs l := by
  induction l with
  | nil => intro a; rfl
  | cons x l ih => intro a; show (cat (a ++ x) l).size = _; rw [ih, zdj, zg2]; omega
theorem zek (a : Bs) (l : List Bs) (i : Nat) (h : i < l.length) : cat a (l.take (i + 1)) = cat a (l.take i) ++ nth .empty l i := by
  unfold cat; rw [zbf .empty h, List.foldl_append]; rfl
def formM (t : Thing) : Bs := cat (hd t.refs.length) t.refs ++ t.text
theorem ze1 (t : Thing) : (formM t).size = 1 + szs t.refs + t.text.size := by rw [formM, zdj, zdm, zdk]
theorem znj (t : Thing) (h : 1 + szs t.refs + t.text.size ≤ 1099511627776) (hl : t.refs.length ≤ 4611686018427387904) : Lqu none [.s t.text, .l (encS t.refs)] = some [.s (formM t)] := by
  rw [equ_i]
  have := zp (f := fun (i : Nat) (a : Bs) => Lqu (some 3) [.s a, .l (encS t.refs), .i (t.refs.length : Int), .i (i : Int), .s t.text, .l (encS t.refs)]) (n := t.refs.length) (T := some [.s (formM t)])
    (I := fun i a => a = cat (hd t.refs.length) (t.refs.take i)) (fun i a hi hI => ⟨_, by
      show Lqu _ _ = Lqu _ _
      rw [equ_3, mostE]
      have : a.size + (nth .empty t.refs i).size ≤ 1 + szs t.refs := by
        rw [hI, ← zdj, ← zek _ _ _ hi, zdm, zdk]
        have := zjv t.refs (i + 1); omega
      simp (disch := omega) only [push_cast] <;> rfl, by show _ = _; rw [hI, zek _ _ _ hi]⟩) (fun a hI => by
      show Lqu _ _ = _
      have : a.size + t.text.size ≤ 1099511627776 := by rw [hI, List.take_length, zdm, zdk]; omega
      rw [equ_3, mostE]; simp (disch := omega) only [push_cast]
      rw [hI, List.take_length]; rfl) 0 (hd t.refs.length) (Nat.zero_le _) rfl
  rw [zk]; exact this
theorem zc9 {t : Thing} {w : Int} (h : ThingOk t w) : 1 + szs t.refs + t.text.size ≤ 2241 ∧ t.refs.length ≤ 30 := by
  have h1 := h.refs; have h2 := h.text; have h3 := h.wd
  have : ∀ l : List Bs, (∀ r ∈ l, (r.size : Int) = w) → szs l ≤ 8 * l.length := by
    intro l
    induction l with
    | nil => intro _; simp [szs]
    | cons a l ih => intro hl; rw [zg2, List.length_cons]; have := hl a (by simp); have := ih fun r hr => hl r (by simp [hr]); omega
  have := this _ h.size
  omega
theorem zbi {t : Thing} {w : Int} (h : ThingOk t w) : Lqu none [.s t.text, .l (encS t.refs)] = some [.s (formM t)] := by
  have := zc9 h
  exact znj t (by omega) (by omega)
noncomputable def formT (t : Thing) (w : Int) : Bs := if z0 t w = true then formM t else ⟨#[]⟩
theorem zej (t : Thing) (w : Int) : Lqbj none [.s t.text, .l (encS t.refs), .i w] = some [.s (formT t w)] := by
  rw [eqbj_i, zc7]
  unfold formT
  cases ht : z0 t w
  · simp (disch := omega) only [push_cast] <;> rfl
  · simp (disch := omega) only [push_cast]
    have hk := zc9 (zfz.1 ht)
    have := zp (f := fun (i : Nat) (a : Rw) => Lqbj (some 5) [.i (i : Int), .s t.text, .l (encS t.refs), .l a]) (n := t.refs.length) (T := some [.s (formM t)])
      (I := fun i a => bytesOf a = cat (hd t.refs.length) (t.refs.take i)) (fun i a hi hI => ⟨_, by
        show Lqbj _ _ = Lqbj _ _
        rw [eqbj_5, mostE]
        have : a.length + (nth .empty t.refs i).size ≤ 1 + szs t.refs := by
          rw [← zdw, hI, ← zdj, ← zek _ _ _ hi, zdm, zdk]
          have := zjv t.refs (i + 1); omega
        simp (disch := omega) only [push_cast, zgv] <;> rfl, by show _ = _; rw [zch, zgp, hI, zek _ _ _ hi]⟩) (fun a hI => by
        show Lqbj _ _ = _
        have : a.length + t.text.size ≤ 1099511627776 := by rw [← zdw, hI, List.take_length, zdm, zdk]; omega
        rw [eqbj_5, mostE]; simp (disch := omega) only [push_cast, zgv]
        rw [zch, zgp, hI, List.take_length]; rfl) 0 [[.i (IntKind.u8.wrap (t.refs.length : Int))]] (Nat.zero_le _) rfl
    exact this
def chunk (s : Bs) (w i : Nat) : Bs := s.extract (1 + i * w) (1 + i * w + w)
def parts (s : Bs) (w : Nat) : Thing := ⟨s.extract (1 + (byteAt s 0).toNat * w) s.size, (List.range (byteAt s 0).toNat).map (chunk s w)⟩
noncomputable def readT (s : Bs) (w : Int) : Option Thing :=
  if zm w = true ∧ 1 ≤ s.size ∧ 1 + (byteAt s 0).toNat * w.toNat ≤ s.size then (if z0 (parts s w.toNat) w = true then some (parts s w.toNat) else none) else none
theorem zll {α : Type} (f : Nat → α) (i : Nat) : (List.range (i + 1)).map f = (List.range i).map f ++ [f i] := by rw [List.range_succ, List.map_append]; rfl
end KV
end
section
namespace KV
open Go Go.Eng
open Classical
structure Entry where
  kind : Int
  sum : Bs
  name : Bs
  number : Int
  thing : Thing
abbrev E0 : Bs := ⟨#[]⟩
def encE (e : Entry) : Lv := [.i e.kind, .s e.sum, .s e.name, .i e.number, .s e.thing.text, .l (encS e.thing.refs)]
structure NameOk (s : Bs) : Prop where
  lo : 1 ≤ s.size
  hi : s.size ≤ 40
  by_ : ∀ j, 0 ≤ j → j < s.size → 33 ≤ byteAt s j ∧ byteAt s j ≤ 126
noncomputable def nameB (s : Bs) : Bool := decide (NameOk s)
theorem zh6 {s : Bs} : nameB s = true ↔ NameOk s := by simp [nameB]
theorem zio (s : Bs) : (if (∀ j, 0 ≤ j → j < s.size → 33 ≤ byteAt s j ∧ byteAt s j ≤ 126) then cond (decide (1 ≤ (s.size : Int))) (some [Lf.b (decide ((s.size : Int) ≤ 40))]) (some [.b false]) else some [.b false]) = some [.b (nameB s)] := by
  unfold nameB
  by_cases h : ∀ j, 0 ≤ j → j < s.size → 33 ≤ byteAt s j ∧ byteAt s j ≤ 126
  · rw [if_pos h]
    by_cases h1 : 1 ≤ s.size
    · rw [show decide (1 ≤ (s.size : Int)) = true by simp; omega]
      by_cases h2 : s.size ≤ 40
      · rw [decide_eq_true (p := NameOk s) ⟨h1, h2, h⟩, show decide ((s.size : Int) ≤ 40) = true by simp; omega]; rfl
      · rw [decide_eq_false (p := NameOk s) fun h => h2 h.hi, show decide ((s.size : Int) ≤ 40) = false by simp; omega]; rfl
    · rw [decide_eq_false (p := NameOk s) fun h => h1 h.lo, show decide (1 ≤ (s.size : Int)) = false by simp; omega]; rfl
  · rw [if_neg h, decide_eq_false (p := NameOk s) fun h1 => h h1.by_]
theorem zkv (s : Bs) (hs : s.size ≤ 4611686018427387904) : Lqbm none [.s s] = some [.b (nameB s)] := by
  rw [eqbm_i]
  have := zt (f := fun i : Nat => Lqbm (some 2) [.s s, .i (s.size : Int), .i (i : Int)]) (n := s.size) (P := fun j => 33 ≤ byteAt s j ∧ byteAt s j ≤ 126) (F := some [.b false])
    (T := cond (decide (1 ≤ (s.size : Int))) (some [Lf.b (decide ((s.size : Int) ≤ 40))]) (some [.b false])) (fun i hi => by
      show (_ → Lqbm _ _ = _) ∧ (_ → Lqbm _ _ = _)
      rw [eqbm_2]
      by_cases h1 : 33 ≤ byteAt s i <;> by_cases h2 : byteAt s i ≤ 126 <;> simp (disch := omega) only [push_cast] <;> simp [h1, h2]) (by
      show Lqbm _ _ = _
      rw [eqbm_2, dlt_f (Nat.le_refl _)]; rfl) 0 (Nat.zero_le _)
  rw [zio] at this
  exact this
theorem znz (s : Bs) (hs : s.size ≤ 4611686018427387904) : Lqbk none [.s s] = some [.b (nameB s)] := by
  rw [eqbk_i]
  have := zt (f := fun i : Nat => Lqbk (some 2) [.s s, .i (i : Int)]) (n := s.size) (P := fun j => 33 ≤ byteAt s j ∧ byteAt s j ≤ 126) (F := some [.b false])
    (T := cond (decide (1 ≤ (s.size : Int))) (some [Lf.b (decide ((s.size : Int) ≤ 40))]) (some [.b false])) (fun i hi => by
      show (_ → Lqbk _ _ = _) ∧ (_ → Lqbk _ _ = _)
      rw [eqbk_2]
      by_cases h1 : 33 ≤ byteAt s i <;> by_cases h2 : byteAt s i ≤ 126 <;> simp (disch := omega) only [push_cast] <;> simp [h1, h2]) (by
      show Lqbk _ _ = _
      rw [eqbk_2, dlt_f (Nat.le_refl _)]; rfl) 0 (Nat.zero_le _)
  rw [zio] at this
  exact this
def uS (k : Int) : Bool := decide (k = 2 ∨ k = 4 ∨ k = 7)
def uN (k : Int) : Bool := decide (k = 2 ∨ k = 3)
noncomputable def sumB (k : Int) (s : Bs) (w : Int) : Bool := if uS k = true then decide ((s.size : Int) = w) else decide (s = E0)
noncomputable def namB (k : Int) (n : Bs) : Bool := if uN k = true then nameB n else decide (n = E0)
def numB (k m : Int) : Bool := if k = 1 ∨ k = 4 ∨ k = 6 then decide (1 ≤ m ∧ m ≤ 100000) else if k = 5 then decide (1 ≤ m ∧ m ≤ 1000000000) else decide (m = 0)
noncomputable def thgB (k : Int) (t : Thing) (w : Int) : Bool := if k = 1 then z0 t w else decide (t.text = E0) && decide (t.refs.length = 0)
noncomputable def zo (e : Entry) (w : Int) : Bool := decide (1 ≤ e.kind ∧ e.kind ≤ 7) && (zm w && (sumB e.kind e.sum w && (namB e.kind e.name && (numB e.kind e.number && thgB e.kind e.thing w))))
end KV
end
section
namespace KV
open Go Go.Eng
open Classical
theorem EntryOk.kd {e : Entry} {w : Int} (h : zo e w = true) : 1 ≤ e.kind ∧ e.kind ≤ 7 := by
  unfold zo at h; simp only [Bool.and_eq_true, decide_eq_true_eq] at h; exact h.1
theorem EntryOk.wd {e : Entry} {w : Int} (h : zo e w = true) : zm w = true := by
  unfold zo at h; simp only [Bool.and_eq_true, decide_eq_true_eq] at h; exact h.2.1
theorem EntryOk.nm {e : Entry} {w : Int} (h : zo e w = true) : e.name.size ≤ 40 := by
  unfold zo namB at h; simp only [Bool.and_eq_true, decide_eq_true_eq] at h
  have := h.2.2.2.1
  split at this
  · exact (zh6.1 this).hi
  · have := of_decide_eq_true this; rw [this]; decide
theorem EntryOk.num {e : Entry} {w : Int} (h : zo e w = true) : 0 ≤ e.number ∧ e.number ≤ 1000000000 := by
  unfold zo numB at h; simp only [Bool.and_eq_true, decide_eq_true_eq] at h
  have := h.2.2.2.2.1
  split at this
  · have := of_decide_eq_true this; omega
  · split at this
    · have := of_decide_eq_true this; omega
    · have := of_decide_eq_true this; omega
theorem EntryOk.sum {e : Entry} {w : Int} (h : zo e w = true) : e.sum.size ≤ 8 := by
  have hw := z8.1 (EntryOk.wd h)
  unfold zo sumB at h; simp only [Bool.and_eq_true, decide_eq_true_eq] at h
  have := h.2.2.1
  split at this
  · have := of_decide_eq_true this; omega
  · have := of_decide_eq_true this; rw [this]; decide
theorem EntryOk.thing {e : Entry} {w : Int} (h : zo e w = true) (hk : e.kind = 1) : ThingOk e.thing w := by
  unfold zo thgB at h; simp only [Bool.and_eq_true, decide_eq_true_eq, if_pos hk] at h
  exact zfz.1 h.2.2.2.2.2
def hd6 (k m : Int) (n : Nat) : Bs := bytesOf [[.i k], [.i (m / 16777216)], [.i (m / 65536 % 256)], [.i (m / 256 % 256)], [.i (m % 256)], [.i (n : Int)]]
def formE (e : Entry) : Bs := hd6 e.kind e.number e.name.size ++ e.name ++ e.sum ++ (if e.kind = 1 then formM e.thing else E0)
theorem zh4 (s : Bs) : s ++ E0 = s := by
  apply Go.WideShapes.bytes_inj; simp [ByteArray.data_append]
theorem zbz (s : Bs) {a b c : Nat} (h1 : a ≤ b) (h2 : b ≤ c) : s.extract a b ++ s.extract b c = s.extract a c := by
  apply Go.WideShapes.bytes_inj
  simp only [ByteArray.data_append, ByteArray.data_extract, Array.toList_append, Array.toList_extract, List.extract_eq_take_drop]
  apply List.ext_getElem?
  intro i
  rw [List.getElem?_append]
  simp only [List.length_take, List.length_drop, Array.length_toList, List.getElem?_take, List.getElem?_drop]
  have hs : ∀ j, s.data.size ≤ j → s.data.toList[j]? = none := fun j hj => List.getElem?_eq_none (by simpa using hj)
  by_cases h : i < min (b - a) (s.data.size - a)
  · rw [if_pos h, if_pos (by omega), if_pos (by omega)]
  · rw [if_neg h]
    by_cases h3 : i < c - a
    · by_cases h4 : b - a ≤ s.data.size - a
      · rw [if_pos h3, if_pos (by omega)]; congr 1; omega
      · rw [if_pos h3, hs (a + i) (by omega)]
        split
        · exact hs _ (by omega)
        · rfl
    · by_cases h4 : b - a ≤ s.data.size - a
      · rw [if_neg h3, if_neg (by omega)]
      · rw [if_neg h3]
        split
        · exact hs _ (by omega)
        · rfl
theorem zgh (s : Bs) : s.extract 0 s.size = s := by
  apply Go.WideShapes.bytes_inj
  simp only [ByteArray.data_extract, Array.toList_extract, List.extract_eq_take_drop]
  rw [List.drop_zero, Nat.sub_zero, List.take_of_length_le]
  show s.data.toList.length ≤ s.data.size
  rw [Array.length_toList]; exact Nat.le_refl _
theorem zcr (s : Bs) (i : Nat) (h : i < s.size) : s.extract i (i + 1) = bytesOf [[.i (byteAt s i)]] := by
  apply Go.WideShapes.bytes_inj
  have h' : i < s.data.toList.length := by simpa using h
  simp only [ByteArray.data_extract, Array.toList_extract, List.extract_eq_take_drop]
  rw [List.drop_eq_getElem_cons h', show i + 1 - i = 1 by omega]
  simp only [List.take_succ_cons, List.take_zero]
  show _ = [UInt8.ofNat (byteAt s i).toNat]
  have : s.data.getD i 0 = s.data.toList[i] := by simp [Array.getD]; rw [dif_pos h]
  rw [byteAt, this, Int.toNat_natCast, UInt8.ofNat_toNat]
theorem zkl {s : Bs} {w : Int} {t : Thing} (h : readT s w = some t) : formM t = s ∧ ThingOk t w := by
  unfold readT at h
  split at h
  · rename_i hc
    split at h
    · rename_i ht
      cases h
      refine ⟨?_, zfz.1 ht⟩
      have hb := zco s 0
      obtain ⟨k, hk⟩ : ∃ k : Nat, byteAt s 0 = (k : Int) := ⟨(byteAt s 0).toNat, by omega⟩
      have hkn : (byteAt s 0).toNat = k := by rw [hk]; rfl
      obtain ⟨hw, h0, h1⟩ := hc
      rw [hkn] at h1
      unfold formM parts
      simp only [List.length_map, List.length_range, hkn]
      have hcat : ∀ i, i ≤ k → cat (hd k) ((List.range i).map (chunk s w.toNat)) = s.extract 0 (1 + i * w.toNat) := by
        intro i
        induction i with
        | zero =>
          intro _
          rw [Nat.zero_mul, zcr s 0 (by omega)]
          show hd k = _
          unfold hd
          rw [hk, w8 (by omega)]
        | succ i ih =>
          intro hi
          have hm : (i + 1) * w.toNat = i * w.toNat + w.toNat := Nat.succ_mul _ _
          have hm2 : (i + 1) * w.toNat ≤ k * w.toNat := Nat.mul_le_mul_right _ hi
          unfold cat at ih ⊢
          rw [zll, List.foldl_append, ih (by omega)]
          show _ ++ chunk s w.toNat i = _
          unfold chunk
          rw [zbz s (by omega) (by omega), hm]; congr 1; omega
      rw [hcat k (Nat.le_refl _), zbz s (by omega) h1, zgh]
    · cases h
  · cases h
def num4 (s : Bs) : Int := byteAt s 1 * 16777216 + byteAt s 2 * 65536 + byteAt s 3 * 256 + byteAt s 4
def nmEnd (s : Bs) : Nat := 6 + (byteAt s 5).toNat
noncomputable def readE (s : Bs) (w : Int) : Option Entry :=
  if zm w = true ∧ 6 ≤ s.size ∧ nmEnd s ≤ s.size then
    (if byteAt s 0 = 1 then (match readT (s.extract (nmEnd s) s.size) w with
      | none => none
      | some t => if zo ⟨1, E0, s.extract 6 (nmEnd s), num4 s, t⟩ w = true then some ⟨1, E0, s.extract 6 (nmEnd s), num4 s, t⟩ else none)
    else if zo ⟨byteAt s 0, s.extract (nmEnd s) s.size, s.extract 6 (nmEnd s), num4 s, ⟨E0, []⟩⟩ w = true then some ⟨byteAt s 0, s.extract (nmEnd s) s.size, s.extract 6 (nmEnd s), num4 s, ⟨E0, []⟩⟩ else none)
  else none
theorem znr (s : Bs) (h : 6 ≤ s.size) : hd6 (byteAt s 0) (num4 s) (byteAt s 5).toNat = s.extract 0 6 := by
  have b0 := zco s 0; have b1 := zco s 1; have b2 := zco s 2; have b3 := zco s 3; have b4 := zco s 4; have b5 := zco s 5
  unfold hd6 num4
  have e : ∀ a b c d e f : Int, bytesOf [[.i a], [.i b], [.i c], [.i d], [.i e], [.i f]] = bytesOf [[.i a]] ++ bytesOf [[.i b]] ++ bytesOf [[.i c]] ++ bytesOf [[.i d]] ++ bytesOf [[.i e]] ++ bytesOf [[.i f]] := fun a b c d e f => by
    rw [← zch, ← zch, ← zch, ← zch, ← zch]; rfl
  have n1 : (byteAt s 1 * 16777216 + byteAt s 2 * 65536 + byteAt s 3 * 256 + byteAt s 4) / 16777216 = byteAt s 1 := by omega
  have n2 : (byteAt s 1 * 16777216 + byteAt s 2 * 65536 + byteAt s 3 * 256 + byteAt s 4) / 65536 % 256 = byteAt s 2 := by omega
  have n3 : (byteAt s 1 * 16777216 + byteAt s 2 * 65536 + byteAt s 3 * 256 + byteAt s 4) / 256 % 256 = byteAt s 3 := by omega
  have n4 : (byteAt s 1 * 16777216 + byteAt s 2 * 65536 + byteAt s 3 * 256 + byteAt s 4) % 256 = byteAt s 4 := by omega
  have n5 : (((byteAt s 5).toNat : Nat) : Int) = byteAt s 5 := by omega
  rw [n1, n2, n3, n4, n5, e, ← zcr s 0 (by omega), ← zcr s 1 (by omega), ← zcr s 2 (by omega), ← zcr s 3 (by omega), ← zcr s 4 (by omega), ← zcr s 5 (by omega)]
  rw [zbz s (by omega) (by omega), zbz s (by omega) (by omega), zbz s (by omega) (by omega), zbz s (by omega) (by omega), zbz s (by omega) (by omega)]
theorem zho (s : Bs) (x : Thing) (h6 : 6 ≤ s.size) (h : nmEnd s ≤ s.size) (a : Bs) (hx : (if byteAt s 0 = 1 then formM x else E0) = (if byteAt s 0 = 1 then s.extract (nmEnd s) s.size else E0)) (ha : a = if byteAt s 0 = 1 then E0 else s.extract (nmEnd s) s.size) :
    formE ⟨byteAt s 0, a, s.extract 6 (nmEnd s), num4 s, x⟩ = s := by
  unfold formE
  simp only
  have hn : (s.extract 6 (nmEnd s)).size = (byteAt s 5).toNat := by rw [size_extract]; unfold nmEnd at h ⊢; omega
  rw [hn, znr s h6, zbz s (by omega) (by unfold nmEnd; omega), hx, ha]
  split
  · rw [zh4, zbz s (by omega) h, zgh]
  · rw [zh4, zbz s (by omega) h, zgh]
theorem zlv {s : Bs} {w : Int} {e : Entry} (h : readE s w = some e) : formE e = s ∧ zo e w = true := by
  unfold readE at h
  split at h
  · rename_i hc
    obtain ⟨hw, h6, hl⟩ := hc
    split at h
    · rename_i h1
      cases ht : readT (s.extract (nmEnd s) s.size) w with
      | none => rw [ht] at h; cases h
      | some t =>
        rw [ht] at h
        simp only at h
        split at h
        · rename_i he
          cases h
          refine ⟨?_, he⟩
          have := zho s t h6 hl E0 (by rw [if_pos h1, if_pos h1, (zkl ht).1]) (by rw [if_pos h1])
          rw [h1] at this; exact this
        · cases h
    · rename_i h1
      split at h
      · rename_i he
        cases h
        exact ⟨zho s ⟨E0, []⟩ h6 hl _ (by rw [if_neg h1, if_neg h1]) (by rw [if_neg h1]), he⟩
      · cases h
  · cases h
end KV
end
section
namespace KV
open Go Go.Eng
open Classical
structure Kept where
  sum : Bs
  born : Int
  thing : Thing
structure Pin where
  name : Bs
  sum : Bs
structure Lease where
  number : Int
  sum : Bs
  till : Int
structure State where
  width : Int
  now : Int
  given : Int
  births : Int
  things : List Kept
  pins : List Pin
  leases : List Lease
def K0 : Kept := ⟨.empty, 0, ⟨.empty, []⟩⟩
def P0 : Pin := ⟨.empty, .empty⟩
def L0 : Lease := ⟨0, .empty, 0⟩
def cK (k : Kept) : List C := [.s k.sum, .i k.born, .s k.thing.text, .l (encS k.thing.refs)]
def cP (p : Pin) : List C := [.s p.name, .s p.sum]
def cL (l : Lease) : List C := [.i l.number, .s l.sum, .i l.till]
def encK (l : List Kept) : Rw := l.map cK
def encP (l : List Pin) : Rw := l.map cP
def encL (l : List Lease) : Rw := l.map cL
def encSt (s : State) : Lv := [.i s.width, .i s.now, .i s.given, .i s.births, .l (encK s.things), .l (encP s.pins), .l (encL s.leases)]
@[push_cast] theorem zbj (l : List Kept) : (encK l).length = l.length := by simp [encK]
@[push_cast] theorem zbq (l : List Pin) : (encP l).length = l.length := by simp [encP]
@[push_cast] theorem zbu (l : List Lease) : (encL l).length = l.length := by simp [encL]
theorem ze2 {α : Type} (d : α) (l : List α) (i : Nat) (h : l.length ≤ i) : nth d l i = d := by
  rw [nth, List.getD_eq_getElem?_getD, List.getElem?_eq_none h]; rfl
theorem zb4 {α β : Type} (f : α → List C) (d : α) (l : List α) (i o : Nat) (g : C → β) (h : g (.i 0) = g ((f d).getD o (.i 0))) : g (rd (l.map f) i o) = g ((f (nth d l i)).getD o (.i 0)) := by
  rcases Nat.lt_or_ge i l.length with h1 | h1
  · rw [ziq f d _ _ _ h1]
  · rw [zfy _ _ _ _ h1, ze2 d l i h1, h]
@[push_cast] theorem zpz (l : List Kept) (i : Nat) : (rd (encK l) i 0).str = (nth K0 l i).sum := zb4 cK K0 l i 0 C.str rfl
@[push_cast] theorem zpx (l : List Kept) (i : Nat) : (rd (encK l) i 1).int = (nth K0 l i).born := zb4 cK K0 l i 1 C.int rfl
@[push_cast] theorem zpv (l : List Kept) (i : Nat) : (rd (encK l) i 2).str = (nth K0 l i).thing.text := zb4 cK K0 l i 2 C.str rfl
@[push_cast] theorem ziy (l : List Kept) (i : Nat) : (rd (encK l) i 3).list = encS (nth K0 l i).thing.refs := zb4 cK K0 l i 3 C.list rfl
@[push_cast] theorem zpu (l : List Pin) (i : Nat) : (rd (encP l) i 0).str = (nth P0 l i).name := zb4 cP P0 l i 0 C.str rfl
@[push_cast] theorem zpt (l : List Pin) (i : Nat) : (rd (encP l) i 1).str = (nth P0 l i).sum := zb4 cP P0 l i 1 C.str rfl
@[push_cast] theorem zpw (l : List Lease) (i : Nat) : (rd (encL l) i 0).int = (nth L0 l i).number := zb4 cL L0 l i 0 C.int rfl
@[push_cast] theorem zp2 (l : List Lease) (i : Nat) : (rd (encL l) i 1).str = (nth L0 l i).sum := zb4 cL L0 l i 1 C.str rfl
@[push_cast] theorem zp0 (l : List Lease) (i : Nat) : (rd (encL l) i 2).int = (nth L0 l i).till := zb4 cL L0 l i 2 C.int rfl
theorem zck (l m : List Kept) : encK l ++ encK m = encK (l ++ m) := by simp [encK]
theorem zgg (l m : List Pin) : encP l ++ encP m = encP (l ++ m) := by simp [encP]
theorem zfw (l m : List Lease) : encL l ++ encL m = encL (l ++ m) := by simp [encL]
theorem zkg (a : Bs) (b : Int) (c : Bs) (r : List Bs) : ([[.s a, .i b, .s c, .l (encS r)]] : Rw) = encK [⟨a, b, ⟨c, r⟩⟩] := rfl
theorem zod (a b : Bs) : ([[.s a, .s b]] : Rw) = encP [⟨a, b⟩] := rfl
theorem zet (l : List Kept) (a b : Nat) : Eng.sub (encK l) a b = encK ((l.drop a).take (b - a)) := zdz _ _ _ _
theorem zd6 (l : List Pin) (a b : Nat) : Eng.sub (encP l) a b = encP ((l.drop a).take (b - a)) := zdz _ _ _ _
theorem zgl (l : List Lease) (a b : Nat) : Eng.sub (encL l) a b = encL ((l.drop a).take (b - a)) := zdz _ _ _ _
theorem wrP (l : List Pin) (i : Nat) (x : Bs) (h : i < l.length) : wrs (encP l) i 1 [.s x] = encP (l.set i ⟨(nth P0 l i).name, x⟩) := by
  unfold wrs wrs wr encP
  rw [List.map_set]
  congr 1
  have : (l.map cP).getD i [] = cP (nth P0 l i) := by rw [zn P0 l i h, List.getD_eq_getElem?_getD]; simp [h]
  rw [this]; rfl
theorem zga {f : Nat → Nat → Option Lv} {q : Nat → Bool} {n r : Nat} (hr : r ≤ n) (h1 : ∀ j, j < r → q j = true) (h2 : ∀ j, r ≤ j → j < n → q j = false)
    (step : ∀ lo hi, lo < hi → hi ≤ n → f lo hi = cond (q ((lo + hi) / 2)) (f ((lo + hi) / 2 + 1) hi) (f lo ((lo + hi) / 2))) (last : ∀ lo, lo ≤ n → f lo lo = some [.i (lo : Int)]) : f 0 n = some [.i (r : Int)] := by
  have : ∀ m lo hi, hi - lo = m → lo ≤ r → r ≤ hi → hi ≤ n → f lo hi = some [.i (r : Int)] := by
    intro m
    induction m using Nat.strongRecOn with
    | ind m ih =>
      intro lo hi hm hlo hhi hn
      rcases Nat.lt_or_ge lo hi with hlt | hge
      · rw [step lo hi hlt hn]
        rcases Nat.lt_or_ge ((lo + hi) / 2) r with h | h
        · rw [h1 _ h]; exact ih _ (by omega) _ _ rfl (by omega) hhi hn
        · rw [h2 _ h (by omega)]; exact ih _ (by omega) _ _ rfl hlo h (by omega)
      · have e1 : lo = r := by omega
        have e2 : hi = r := by omega
        subst e1; subst e2; exact last _ hn
  exact this n 0 n (by omega) (by omega) hr (Nat.le_refl _)
theorem zid {α : Type} {f : Nat → Option Lv} {l : List α} {d : α} {p : α → Bool} {ret : Nat → Option Lv} {e : Option Lv} (step : ∀ i, i < l.length → f i = cond (p (nth d l i)) (ret i) (f (i + 1))) (last : f l.length = e) :
    f 0 = match l.findIdx? p with | some i => ret i | none => e := by
  have : ∀ m i, l.length - i = m → i ≤ l.length → f i = match (l.drop i).findIdx? p with | some j => ret (i + j) | none => e := by
    intro m
    induction m with
    | zero =>
      intro i hm hi
      have : i = l.length := by omega
      subst this; rw [last, List.drop_length]; rfl
    | succ m ih =>
      intro i hm hi
      rw [step i (by omega), zjd d (show i < l.length by omega), List.findIdx?_cons]
      cases p (nth d l i)
      · rw [cond_false, ih (i + 1) (by omega) (by omega)]
        cases (l.drop (i + 1)).findIdx? p with
        | none => rfl
        | some j => simp only [Option.map_some]; rw [show i + 1 + j = i + (j + 1) by omega]; rfl
      · rfl
  have h := this l.length 0 (by omega) (by omega)
  rw [List.drop_zero] at h
  rw [h]
  cases l.findIdx? p with
  | none => rfl
  | some j => simp
def lb {α : Type} (q : α → Bool) (l : List α) : Nat := (l.takeWhile q).length
theorem lb_le {α : Type} (q : α → Bool) (l : List α) : lb q l ≤ l.length := by
  unfold lb
  induction l with
  | nil => simp
  | cons a l ih => rw [List.takeWhile_cons]; split <;> simp <;> omega
theorem lb_lt {α : Type} (q : α → Bool) (d : α) : ∀ (l : List α) j, j < lb q l → q (nth d l j) = true
  | [], j, h => by simp [lb] at h
  | a :: l, j, h => by
    unfold lb at h
    rw [List.takeWhile_cons] at h
    split at h
    · rename_i hq
      cases j with
      | zero => exact hq
      | succ j => rw [zc0]; exact lb_lt q d l j (by simpa [lb] using h)
    · simp at h
theorem lb_at {α : Type} (q : α → Bool) (d : α) : ∀ (l : List α), lb q l < l.length → q (nth d l (lb q l)) = false
  | [], h => by simp at h
  | a :: l, h => by
    unfold lb at h ⊢
    rw [List.takeWhile_cons] at h ⊢
    split
    · rename_i hq
      rw [if_pos hq] at h
      simp only [List.length_cons, zc0] at h ⊢
      exact lb_at q d l (by unfold lb; omega)
    · rename_i hq; simp only [List.length_nil, zgi]; simpa using hq
end KV
end
section
namespace KV
open Go Go.Eng
open Classical
theorem zh5 : ∀ (n : Nat) (k : Int) (s : Bs), n ≤ 18 → 0 ≤ k → k < 10 ^ n → s.size + n + 1 ≤ 1099511627776 → ∃ t, Lqe (some 4) [.i k, .s s] = some [.s t]
  | 0, k, s, hn, h0, h1, hs => by
    have hk : k = 0 := by have : (10 : Int) ^ 0 = 1 := rfl; omega
    have h2 : (⟨#[109]⟩ : Bs).size = 1 := rfl
    refine ⟨(⟨#[109]⟩ : Bs) ++ s, ?_⟩
    rw [eqe_4, mostE, hk]; simp (disch := omega) only [push_cast]
  | n + 1, k, s, hn, h0, h1, hs => by
    have h2 : (⟨#[109]⟩ : Bs).size = 1 := rfl
    by_cases hk : 0 < k
    · have h3 : k.tdiv 10 = k / 10 := Int.tdiv_eq_ediv_of_nonneg h0
      have h4 : (10 : Int) ^ (n + 1) = 10 ^ n * 10 := Int.pow_succ 10 n
      have h5 : (10 : Int) ^ n ≤ 10 ^ 18 := by
        have : (10 : Nat) ^ n ≤ 10 ^ 18 := Nat.pow_le_pow_right (by omega) (by omega)
        exact_mod_cast this
      have h6 : (10 : Int) ^ 18 = 1000000000000000000 := by decide
      have h7 : k / 10 < 10 ^ n := by omega
      generalize hb : bytesOf ([[.i (IntKind.u8.wrap (IntKind.i64.wrap (48 + (k.tmod 10))))]] : Rw) = b
      have h8 : b.size = 1 := by rw [← hb, zdw]; rfl
      obtain ⟨t, ht⟩ := zh5 n (k / 10) (b ++ s) (by omega) (by omega) h7 (by rw [zdj]; omega)
      refine ⟨t, ?_⟩
      rw [eqe_4, mostE, hb, h3]
      have h9 : IntKind.i64.wrap (k / 10) = k / 10 := w64 (by omega)
      simp (disch := omega) only [push_cast, h9]
      exact ht
    · have hk : k = 0 := by omega
      refine ⟨(⟨#[109]⟩ : Bs) ++ s, ?_⟩
      rw [eqe_4, mostE, hk]; simp (disch := omega) only [push_cast]
noncomputable def mt (k : Int) : Bs := (g ((Lqe none [.i k]).getD []) 0).str
theorem zbm {k : Int} (h : k < 1000000000000000000) : Lqe none [.i k] = some [.s (mt k)] := by
  have : ∃ t, Lqe none [.i k] = some [.s t] := by
    by_cases hk : k ≤ 0
    · exact ⟨⟨#[109, 48]⟩, by rw [eqe_i]; simp (disch := omega) only [push_cast]⟩
    · have h6 : (10 : Int) ^ 18 = 1000000000000000000 := by decide
      have h7 : (⟨#[]⟩ : Bs).size = 0 := rfl
      obtain ⟨t, ht⟩ := zh5 18 k (⟨#[]⟩ : Bs) (by omega) (by omega) (by omega) (by omega)
      exact ⟨t, by rw [eqe_i]; simp (disch := omega) only [push_cast]; exact ht⟩
  obtain ⟨t, ht⟩ := this
  unfold mt
  rw [ht]; rfl
theorem zd3 (xs : Rw) (i o : Nat) (c : C) : wrs xs i o [c] = wr xs i o c := rfl
theorem castS (i : Nat) : ((i + 1 : Nat) : Int) = (i : Int) + 1 := by omega
def MarkS (k : Int) (ys : Rw) : Prop := ∀ i, i < ys.length → (rd ys i 0).str = mt (k + (i : Int))
theorem zdy (xs : Rw) (k : Int) (hk : 0 ≤ k) (hb : k + (xs.length : Int) ≤ 100000000000000000) : ∃ ys, Lqq none [.i k, .l xs] = some [.i (k + (xs.length : Int)), .l ys] ∧ ys.length = xs.length ∧ MarkS k ys := by
  rw [eqq_i]
  have := zb3 (f := fun (i : Nat) (a : Rw) => Lqq (some 2) [.i (k + (i : Int)), .i (i : Int), .l a]) (n := xs.length)
    (T := fun r => ∃ ys, r = some [.i (k + (xs.length : Int)), .l ys] ∧ ys.length = xs.length ∧ MarkS k ys)
    (I := fun i a => a.length = xs.length ∧ ∀ j, j < i → (rd a j 0).str = mt (k + (j : Int))) (fun i a hi hI => .inl ⟨wr a i 0 (.s (mt (k + (i : Int)))), by
      show Lqq _ _ = Lqq _ _
      rw [show k + ((i + 1 : Nat) : Int) = k + (i : Int) + 1 by omega, castS]
      have h1 := hI.1
      rw [eqq_2, zbm (by omega)]
      simp (disch := omega) only [push_cast, zd3], by rw [zi]; exact hI.1, fun j hj => by
        rw [rd_wr (by rw [hI.1]; exact hi)]
        by_cases h : j = i
        · subst h; rw [if_pos ⟨rfl, rfl⟩]; rfl
        · rw [if_neg fun q => h q.1]; exact hI.2 j (by omega)⟩) (fun a hI => ⟨a, by
      show Lqq _ _ = _
      have h1 := hI.1
      rw [eqq_2]; simp (disch := omega) only [push_cast], hI.1, fun j hj => hI.2 j (by rw [← hI.1]; exact hj)⟩) 0 xs (Nat.zero_le _) ⟨rfl, fun j hj => by omega⟩
  simpa using this
theorem zeq {ys : Rw} {k : Int} (hk : 0 ≤ k) (hb : k + (ys.length : Int) ≤ 100000000000000000) (h : MarkS k ys) : Lqr none [.l ys, .i k] = some [.i (k + (ys.length : Int))] := by
  rw [eqr_i]
  have := zp (f := fun (i : Nat) (_ : Unit) => Lqr (some 2) [.l ys, .i (k + (i : Int)), .i (i : Int)]) (n := ys.length) (T := some [.i (k + (ys.length : Int))]) (I := fun i _ => True)
    (fun i _ hi _ => ⟨(), by
      show Lqr _ _ = Lqr _ _
      rw [show k + ((i + 1 : Nat) : Int) = k + (i : Int) + 1 by omega, castS]
      rw [eqr_2, zbm (by omega)]
      simp (disch := omega) only [push_cast, h i hi], trivial⟩) (fun _ _ => by
      show Lqr _ _ = _
      rw [eqr_2]; simp (disch := omega) only [push_cast]) 0 () (Nat.zero_le _) trivial
  simpa using this
end KV
end
section
namespace KV
open Go Go.Eng
open Classical
def offK (xs : Rw) : Nat → Int
  | 0 => 0
  | i + 1 => offK xs i + 3 + ((rd xs i 3).list.length : Int)
theorem zb5 (xs : Rw) : ∀ {i j : Nat}, i ≤ j → offK xs i ≤ offK xs j
  | i, 0, h => by have : i = 0 := by omega
                  subst this; exact Int.le_refl _
  | i, j + 1, h => by
    rcases Nat.lt_or_ge i (j + 1) with h1 | h1
    · have := zb5 xs (i := i) (j := j) (by omega)
      show _ ≤ offK xs j + 3 + _
      omega
    · have : i = j + 1 := by omega
      subst this; exact Int.le_refl _
def RowK (xs a : Rw) (j : Nat) (q : Int) : Prop := (rd a j 0).str = mt q ∧ (rd a j 1).int = q + 1 ∧ (rd a j 2).str = mt (q + 1 + 1) ∧ MarkS (q + 1 + 1 + 1) (rd a j 3).list ∧ (rd a j 3).list.length = (rd xs j 3).list.length
theorem zlk (xs : Rw) (k : Int) (hk : 0 ≤ k) (hb : k + offK xs xs.length ≤ 100000000000000000) (hl : xs.length ≤ 1000000000) : ∃ ys, Lqbg none [.i k, .l xs] = some [.i (k + offK xs xs.length), .l ys] ∧ ys.length = xs.length ∧ ∀ j, j < xs.length → RowK xs ys j (k + offK xs j) := by
  rw [eqbg_i]
  have := zb3 (f := fun (i : Nat) (a : Rw) => Lqbg (some 2) [.i (k + offK xs i), .i (i : Int), .l a]) (n := xs.length)
    (T := fun r => ∃ ys, r = some [.i (k + offK xs xs.length), .l ys] ∧ ys.length = xs.length ∧ ∀ j, j < xs.length → RowK xs ys j (k + offK xs j))
    (I := fun i a => a.length = xs.length ∧ (∀ j, i ≤ j → (rd a j 3).list = (rd xs j 3).list) ∧ ∀ j, j < i → RowK xs a j (k + offK xs j)) (fun i a hi hI => by
      obtain ⟨h1, h2, h3⟩ := hI
      have o1 := zb5 xs (i := 0) (j := i) (by omega)
      have o2 := zb5 xs (i := i + 1) (j := xs.length) (by omega)
      have o3 : offK xs (i + 1) = offK xs i + 3 + ((rd xs i 3).list.length : Int) := rfl
      have o0 : offK xs 0 = 0 := rfl
      generalize hq : k + offK xs i = q
      have hlen := h2 i (Nat.le_refl _)
      obtain ⟨ys, m1, m2, m3⟩ := zdy (rd a i 3).list (q + 1 + 1 + 1) (by omega) (by rw [hlen]; omega)
      left
      have hia : i < a.length := by omega
      have r3 : rd (wr (wr (wr a i 0 (.s (mt q))) i 1 (.i (q + 1))) i 2 (.s (mt (q + 1 + 1)))) i 3 = rd a i 3 := by
        rw [rd_wr (by rw [zi, zi]; exact hia), if_neg (by omega), rd_wr (by rw [zi]; exact hia), if_neg (by omega), rd_wr hia, if_neg (by omega)]
      have rr : ∀ j p, rd (wr (wr (wr (wr a i 0 (.s (mt q))) i 1 (.i (q + 1))) i 2 (.s (mt (q + 1 + 1)))) i 3 (.l ys)) j p = if j = i ∧ p = 3 then .l ys else if j = i ∧ p = 2 then .s (mt (q + 1 + 1)) else if j = i ∧ p = 1 then .i (q + 1) else if j = i ∧ p = 0 then .s (mt q) else rd a j p := by
        intro j p
        rw [rd_wr (by rw [zi, zi, zi]; exact hia), rd_wr (by rw [zi, zi]; exact hia), rd_wr (by rw [zi]; exact hia), rd_wr hia]
      refine ⟨wr (wr (wr (wr a i 0 (.s (mt q))) i 1 (.i (q + 1))) i 2 (.s (mt (q + 1 + 1)))) i 3 (.l ys), ?_, by rw [zi, zi, zi, zi]; exact h1, fun j hj => ?_, fun j hj => ?_⟩
      · show Lqbg _ _ = Lqbg _ _
        rw [castS, o3, show k + (offK xs i + 3 + ((rd xs i 3).list.length : Int)) = q + 1 + 1 + 1 + ((rd xs i 3).list.length : Int) by omega]
        rw [eqbg_2, zbm (by omega)]
        simp (disch := omega) only [push_cast, zd3, zi, zbm (k := q + 1 + 1) (by omega), r3, m1]
        rw [hlen]
      · rw [rr, if_neg (by omega), if_neg (by omega), if_neg (by omega), if_neg (by omega)]; exact h2 j (by omega)
      · by_cases h : j = i
        · subst h
          unfold RowK
          rw [rr, rr, rr, rr, hq]
          simp only [true_and, if_true, Nat.reduceEqDiff, if_false]
          exact ⟨rfl, rfl, rfl, m3, by rw [← hlen]; exact m2⟩
        · have := h3 j (by omega)
          unfold RowK at this ⊢
          rw [rr, rr, rr, rr]
          simp only [h, false_and, if_false]
          exact this) (fun a hI => ⟨a, by
      show Lqbg _ _ = _
      have h1 := hI.1
      rw [eqbg_2]; simp (disch := omega) only [push_cast], hI.1, fun j hj => hI.2.2 j hj⟩) 0 xs (Nat.zero_le _) ⟨rfl, fun j _ => rfl, fun j hj => by omega⟩
  simpa [offK] using this
theorem zkp {xs ys : Rw} {k : Int} (hk : 0 ≤ k) (hb : k + offK xs xs.length ≤ 100000000000000000) (hl : xs.length ≤ 1000000000) (h1 : ys.length = xs.length) (h2 : ∀ j, j < xs.length → RowK xs ys j (k + offK xs j)) : Lqbq none [.l ys, .i k] = some [.i (k + offK xs xs.length)] := by
  rw [eqbq_i]
  have := zp (f := fun (i : Nat) (_ : Unit) => Lqbq (some 2) [.l ys, .i (k + offK xs i), .i (i : Int)]) (n := xs.length) (T := some [.i (k + offK xs xs.length)]) (I := fun i _ => True)
    (fun i _ hi _ => ⟨(), by
      have o1 := zb5 xs (i := 0) (j := i) (by omega)
      have o2 := zb5 xs (i := i + 1) (j := xs.length) (by omega)
      have o3 : offK xs (i + 1) = offK xs i + 3 + ((rd xs i 3).list.length : Int) := rfl
      have o0 : offK xs 0 = 0 := rfl
      obtain ⟨r1, r2, r3, r4, r5⟩ := h2 i hi
      show Lqbq _ _ = Lqbq _ _
      generalize hq : k + offK xs i = q at r1 r2 r3 r4
      rw [castS, o3, show k + (offK xs i + 3 + ((rd xs i 3).list.length : Int)) = q + 1 + 1 + 1 + ((rd xs i 3).list.length : Int) by omega]
      rw [eqbq_2, zbm (by omega)]
      simp (disch := omega) only [push_cast, r1, r2, r3, zbm (k := q + 1 + 1) (by omega), zeq (k := q + 1 + 1 + 1) (by omega) (by rw [r5]; omega) r4]
      rw [r5], trivial⟩) (fun _ _ => by
      show Lqbq _ _ = _
      rw [eqbq_2]; simp (disch := omega) only [push_cast]) 0 () (Nat.zero_le _) trivial
  simpa [offK] using this
def zgw (k : Int) (n : Nat) (ys : Rw) : Prop := ys.length = n ∧ ∀ j, j < n → (rd ys j 0).str = mt (k + 2 * (j : Int)) ∧ (rd ys j 1).str = mt (k + 2 * (j : Int) + 1)
theorem zof (xs : Rw) (k : Int) (hk : 0 ≤ k) (hb : k + 2 * (xs.length : Int) ≤ 100000000000000000) : ∃ ys, Lqbh none [.i k, .l xs] = some [.i (k + 2 * (xs.length : Int)), .l ys] ∧ ys.length = xs.length ∧ ∀ j, j < xs.length → (rd ys j 0).str = mt (k + 2 * (j : Int)) ∧ (rd ys j 1).str = mt (k + 2 * (j : Int) + 1) := by
  rw [eqbh_i]
  have := zb3 (f := fun (i : Nat) (a : Rw) => Lqbh (some 2) [.i (k + 2 * (i : Int)), .i (i : Int), .l a]) (n := xs.length)
    (T := fun r => ∃ ys, r = some [.i (k + 2 * (xs.length : Int)), .l ys] ∧ ys.length = xs.length ∧ ∀ j, j < xs.length → (rd ys j 0).str = mt (k + 2 * (j : Int)) ∧ (rd ys j 1).str = mt (k + 2 * (j : Int) + 1))
    (I := fun i a => a.length = xs.length ∧ ∀ j, j < i → (rd a j 0).str = mt (k + 2 * (j : Int)) ∧ (rd a j 1).str = mt (k + 2 * (j : Int) + 1)) (fun i a hi hI => by
      obtain ⟨h1, h3⟩ := hI
      have hia : i < a.length := by omega
      have rr : ∀ j p, rd (wr (wr a i 0 (.s (mt (k + 2 * (i : Int))))) i 1 (.s (mt (k + 2 * (i : Int) + 1)))) j p = if j = i ∧ p = 1 then .s (mt (k + 2 * (i : Int) + 1)) else if j = i ∧ p = 0 then .s (mt (k + 2 * (i : Int))) else rd a j p := by
        intro j p
        rw [rd_wr (by rw [zi]; exact hia), rd_wr hia]
      refine .inl ⟨wr (wr a i 0 (.s (mt (k + 2 * (i : Int))))) i 1 (.s (mt (k + 2 * (i : Int) + 1))), ?_, by rw [zi, zi]; exact h1, fun j hj => ?_⟩
      · show Lqbh _ _ = Lqbh _ _
        rw [castS, show k + 2 * ((i : Int) + 1) = k + 2 * (i : Int) + 1 + 1 by omega]
        rw [eqbh_2, zbm (by omega)]
        simp (disch := omega) only [push_cast, zd3, zi, zbm (k := k + 2 * (i : Int) + 1) (by omega)]
      · by_cases h : j = i
        · subst h; rw [rr, rr]; simp [C.str]
        · rw [rr, rr]; simp only [h, false_and, if_false]; exact h3 j (by omega)) (fun a hI => ⟨a, by
      show Lqbh _ _ = _
      have h1 := hI.1
      rw [eqbh_2]; simp (disch := omega) only [push_cast], hI.1, fun j hj => hI.2 j hj⟩) 0 xs (Nat.zero_le _) ⟨rfl, fun j hj => by omega⟩
  simpa using this
theorem zmb {ys : Rw} {n : Nat} {k : Int} (hk : 0 ≤ k) (hb : k + 2 * (n : Int) ≤ 100000000000000000) (h : zgw k n ys) : Lqbr none [.l ys, .i k] = some [.i (k + 2 * (n : Int))] := by
  obtain ⟨b, c⟩ := h
  rw [eqbr_i]
  have := zp (f := fun (i : Nat) (_ : Unit) => Lqbr (some 2) [.l ys, .i (k + 2 * (i : Int)), .i (i : Int)]) (n := n) (T := some [.i (k + 2 * (n : Int))]) (I := fun i _ => True)
    (fun i _ hi _ => ⟨(), by
      obtain ⟨r1, r2⟩ := c i hi
      show Lqbr _ _ = Lqbr _ _
      rw [castS, show k + 2 * ((i : Int) + 1) = k + 2 * (i : Int) + 1 + 1 by omega]
      rw [eqbr_2, zbm (by omega)]
      simp (disch := omega) only [push_cast, r1, r2, zbm (k := k + 2 * (i : Int) + 1) (by omega)], trivial⟩) (fun _ _ => by
      show Lqbr _ _ = _
      rw [eqbr_2]; simp (disch := omega) only [push_cast]) 0 () (Nat.zero_le _) trivial
  simpa using this
def zhp (k : Int) (n : Nat) (ys : Rw) : Prop := ys.length = n ∧ ∀ j, j < n → (rd ys j 0).int = k + 3 * (j : Int) ∧ (rd ys j 1).str = mt (k + 3 * (j : Int) + 1) ∧ (rd ys j 2).int = k + 3 * (j : Int) + 1 + 1
theorem zk5 (xs : Rw) (k : Int) (hk : 0 ≤ k) (hb : k + 3 * (xs.length : Int) ≤ 100000000000000000) : ∃ ys, Lqbi none [.i k, .l xs] = some [.i (k + 3 * (xs.length : Int)), .l ys] ∧ ys.length = xs.length ∧ ∀ j, j < xs.length → (rd ys j 0).int = k + 3 * (j : Int) ∧ (rd ys j 1).str = mt (k + 3 * (j : Int) + 1) ∧ (rd ys j 2).int = k + 3 * (j : Int) + 1 + 1 := by
  rw [eqbi_i]
  have := zb3 (f := fun (i : Nat) (a : Rw) => Lqbi (some 2) [.i (k + 3 * (i : Int)), .i (i : Int), .l a]) (n := xs.length)
    (T := fun r => ∃ ys, r = some [.i (k + 3 * (xs.length : Int)), .l ys] ∧ ys.length = xs.length ∧ ∀ j, j < xs.length → (rd ys j 0).int = k + 3 * (j : Int) ∧ (rd ys j 1).str = mt (k + 3 * (j : Int) + 1) ∧ (rd ys j 2).int = k + 3 * (j : Int) + 1 + 1)
    (I := fun i a => a.length = xs.length ∧ ∀ j, j < i → (rd a j 0).int = k + 3 * (j : Int) ∧ (rd a j 1).str = mt (k + 3 * (j : Int) + 1) ∧ (rd a j 2).int = k + 3 * (j : Int) + 1 + 1) (fun i a hi hI => by
      obtain ⟨h1, h3⟩ := hI
      have hia : i < a.length := by omega
      have rr : ∀ j p, rd (wr (wr (wr a i 0 (.i (k + 3 * (i : Int)))) i 1 (.s (mt (k + 3 * (i : Int) + 1)))) i 2 (.i (k + 3 * (i : Int) + 1 + 1))) j p = if j = i ∧ p = 2 then .i (k + 3 * (i : Int) + 1 + 1) else if j = i ∧ p = 1 then .s (mt (k + 3 * (i : Int) + 1)) else if j = i ∧ p = 0 then .i (k + 3 * (i : Int)) else rd a j p := by
        intro j p
        rw [rd_wr (by rw [zi, zi]; exact hia), rd_wr (by rw [zi]; exact hia), rd_wr hia]
      refine .inl ⟨wr (wr (wr a i 0 (.i (k + 3 * (i : Int)))) i 1 (.s (mt (k + 3 * (i : Int) + 1)))) i 2 (.i (k + 3 * (i : Int) + 1 + 1)), ?_, by rw [zi, zi, zi]; exact h1, fun j hj => ?_⟩
      · show Lqbi _ _ = Lqbi _ _
        rw [castS, show k + 3 * ((i : Int) + 1) = k + 3 * (i : Int) + 1 + 1 + 1 by omega]
        rw [eqbi_2]
        simp (disch := omega) only [push_cast, zd3, zi, zbm (k := k + 3 * (i : Int) + 1) (by omega)]
      · by_cases h : j = i
        · subst h; rw [rr, rr, rr]; simp [C.str, C.int]
        · rw [rr, rr, rr]; simp only [h, false_and, if_false]; exact h3 j (by omega)) (fun a hI => ⟨a, by
      show Lqbi _ _ = _
      have h1 := hI.1
      rw [eqbi_2]; simp (disch := omega) only [push_cast], hI.1, fun j hj => hI.2 j hj⟩) 0 xs (Nat.zero_le _) ⟨rfl, fun j hj => by omega⟩
  simpa using this
theorem zku {ys : Rw} {n : Nat} {k : Int} (hk : 0 ≤ k) (hb : k + 3 * (n : Int) ≤ 100000000000000000) (h : zhp k n ys) : Lqbs none [.l ys, .i k] = some [.i (k + 3 * (n : Int))] := by
  obtain ⟨b, c⟩ := h
  rw [eqbs_i]
  have := zp (f := fun (i : Nat) (_ : Unit) => Lqbs (some 2) [.l ys, .i (k + 3 * (i : Int)), .i (i : Int)]) (n := n) (T := some [.i (k + 3 * (n : Int))]) (I := fun i _ => True)
    (fun i _ hi _ => ⟨(), by
      obtain ⟨r1, r2, r3⟩ := c i hi
      show Lqbs _ _ = Lqbs _ _
      rw [castS, show k + 3 * ((i : Int) + 1) = k + 3 * (i : Int) + 1 + 1 + 1 by omega]
      rw [eqbs_2]
      simp (disch := omega) only [push_cast, r1, r2, r3, zbm (k := k + 3 * (i : Int) + 1) (by omega)], trivial⟩) (fun _ _ => by
      show Lqbs _ _ = _
      rw [eqbs_2]; simp (disch := omega) only [push_cast]) 0 () (Nat.zero_le _) trivial
  simpa using this
theorem zoo (xs : Rw) (k : Int) (hk : 0 ≤ k) (hb : k + (xs.length : Int) ≤ 100000000000000000) : ∃ ys, Lqq none [.i k, .l xs] = some [.i (k + (xs.length : Int)), .l ys] ∧ Lqr none [.l ys, .i k] = some [.i (k + (xs.length : Int))] := by
  obtain ⟨ys, a, b, c⟩ := zdy xs k hk hb
  exact ⟨ys, a, by have := zeq hk (by rw [b]; exact hb) c; rw [b] at this; exact this⟩
end KV
end
section
namespace KV
open Go Go.Eng
open Classical
theorem mostZ : ((most : Nat) : Int) = 1099511627776 := rfl
theorem zo2 (p q : List C) (x c : C) : setAt (p ++ x :: q) p.length c = p ++ c :: q := by
  induction p with
  | nil => rfl
  | cons y p ih => show y :: setAt (p ++ x :: q) p.length c = _; rw [ih]; rfl
theorem zjy : ∀ (r p q : List C) (a : Rw) (i : Nat), i < a.length → a.getD i [] = p ++ q → q.length = r.length → wrs a i p.length r = a.set i (p ++ r)
  | [], p, q, a, i, hi, h, hq => by
    have : q = [] := List.eq_nil_of_length_eq_zero hq
    subst this
    show a = _
    rw [← h]
    apply List.ext_getElem?
    intro n
    rw [List.getElem?_set]
    split
    · rename_i hn; subst hn; rw [List.getD_eq_getElem?_getD, List.getElem?_eq_getElem hi]; rfl
    · rfl
  | c :: r, p, q, a, i, hi, h, hq => by
    cases q with
    | nil => simp at hq
    | cons x q =>
      show wrs (wr a i p.length c) i (p.length + 1) r = _
      have hw : wr a i p.length c = a.set i (p ++ c :: q) := by unfold wr; rw [h, zo2]
      have := zjy r (p ++ [c]) q (wr a i p.length c) i (by rw [zi]; exact hi) (by
        rw [hw, List.getD_eq_getElem?_getD, List.getElem?_set, if_pos rfl, if_pos hi]; simp) (by simpa using hq)
      rw [List.length_append] at this
      rw [show p.length + 1 = p.length + [c].length from rfl, this, hw]
      simp
theorem zdh {a : Rw} {i : Nat} {z r : List C} (hi : i < a.length) (h : a.getD i [] = z) (hl : z.length = r.length) : wrs a i 0 r = a.set i r := by
  have := zjy r [] z a i hi (by rw [h]; rfl) hl
  simpa using this
theorem zdv {β : Type} {f : Nat → Rw → β} {ys : Rw} {z : List C} {T : β} (step : ∀ i a, i < ys.length → a.length = ys.length → a.getD i [] = z → f i a = f (i + 1) (a.set i (ys.getD i []))) (last : f ys.length ys = T) : f 0 (List.replicate ys.length z) = T := by
  refine zp (f := f) (n := ys.length) (I := fun i a => a.length = ys.length ∧ ∀ j, j < ys.length → a.getD j [] = if j < i then ys.getD j [] else z) (fun i a hi hI => ⟨_, step i a hi hI.1 (by rw [hI.2 i hi, if_neg (by omega)]), by rw [List.length_set]; exact hI.1, fun j hj => ?_⟩) (fun a hI => ?_) 0 _ (Nat.zero_le _) ⟨by simp, fun j hj => by simp [List.getD_eq_getElem?_getD, hj]⟩
  · rw [List.getD_eq_getElem?_getD, List.getElem?_set]
    by_cases h : i = j
    · subst h; rw [if_pos rfl, if_pos (by rw [hI.1]; exact hi), if_pos (by omega)]; rfl
    · rw [if_neg h, ← List.getD_eq_getElem?_getD, hI.2 j hj]
      by_cases h2 : j < i
      · rw [if_pos h2, if_pos (by omega)]
      · rw [if_neg h2, if_neg (by omega)]
  · have : a = ys := by
      apply List.ext_getElem hI.1
      intro n h1 h2
      have := hI.2 n h2
      rw [if_pos h2, List.getD_eq_getElem?_getD, List.getD_eq_getElem?_getD, List.getElem?_eq_getElem h1, List.getElem?_eq_getElem h2] at this
      simpa using this
    rw [this, last]
theorem zdp {α : Type} (f : α → List C) (d : α) (l : List α) (i : Nat) (h : i < l.length) : (l.map f).getD i [] = f (nth d l i) := by
  simp [nth, List.getD_eq_getElem?_getD, h]
theorem zhq (l : List Bs) (h : l.length ≤ 1099511627776) : Lq7 none [.l (encS l)] = some [.l (encS l)] := by
  rw [eq7_i, mostZ]; simp (disch := omega) only [push_cast]
  refine Eq.trans ?_ (zdv (f := fun (i : Nat) (a : Rw) => Lq7 (some 3) [.l (encS l), .i (i : Int), .l a]) (ys := encS l) (z := [.s ⟨#[]⟩]) (fun i a hi ha hz => ?_) ?_)
  · simp only [zk]; rfl
  · rw [zk] at hi
    rw [zk] at ha
    show Lq7 _ _ = Lq7 _ _
    rw [castS, eq7_3]
    simp (disch := omega) only [push_cast]
    rw [zdh (by omega) hz (by rfl), encS, zdp _ .empty _ _ hi]
  · show Lq7 _ _ = _
    rw [eq7_3]; simp (disch := omega) only [push_cast]
theorem zno (l : List Bs) (h : l.length ≤ 1099511627776) : Lq9 none [.l (encS l)] = some [.l (encS l)] := by
  rw [eq9_i, mostZ]; simp (disch := omega) only [push_cast]
  refine Eq.trans ?_ (zdv (f := fun (i : Nat) (a : Rw) => Lq9 (some 3) [.l (encS l), .i (i : Int), .l a]) (ys := encS l) (z := [.s ⟨#[]⟩]) (fun i a hi ha hz => ?_) ?_)
  · simp only [zk]; rfl
  · rw [zk] at hi
    rw [zk] at ha
    show Lq9 _ _ = Lq9 _ _
    rw [castS, eq9_3]
    simp (disch := omega) only [push_cast]
    rw [zdh (by omega) hz (by rfl), encS, zdp _ .empty _ _ hi]
  · show Lq9 _ _ = _
    rw [eq9_3]; simp (disch := omega) only [push_cast]
theorem znw (a : Bs) (b : Int) (c : Bs) (l : List Bs) (h : l.length ≤ 1099511627776) : Lqci none [.s a, .i b, .s c, .l (encS l)] = some [.s a, .i b, .s c, .l (encS l)] := by
  rw [eqci_i, eqcr_i]; simp (disch := omega) only [push_cast, zno l h]
theorem zl5 (l : List Kept) (h : l.length ≤ 1099511627776) (hr : ∀ k ∈ l, k.thing.refs.length ≤ 1099511627776) : Lqba none [.l (encK l)] = some [.l (encK l)] := by
  rw [eqba_i, mostZ]; simp (disch := omega) only [push_cast]
  refine Eq.trans ?_ (zdv (f := fun (i : Nat) (a : Rw) => Lqba (some 3) [.l (encK l), .i (i : Int), .l a]) (ys := encK l) (z := [.s ⟨#[]⟩, .i 0, .s ⟨#[]⟩, .l []]) (fun i a hi ha hz => ?_) ?_)
  · simp only [zbj]; rfl
  · rw [zbj] at hi
    rw [zbj] at ha
    show Lqba _ _ = Lqba _ _
    rw [castS, eqba_3]
    simp (disch := omega) only [push_cast, znw _ _ _ _ (hr _ (zj (d := K0) hi))]
    rw [zdh (by omega) hz (by rfl), encK, zdp _ K0 _ _ hi]; rfl
  · show Lqba _ _ = _
    rw [eqba_3]; simp (disch := omega) only [push_cast]
theorem zmw (l : List Pin) (h : l.length ≤ 1099511627776) : Lqbb none [.l (encP l)] = some [.l (encP l)] := by
  rw [eqbb_i, mostZ]; simp (disch := omega) only [push_cast]
  refine Eq.trans ?_ (zdv (f := fun (i : Nat) (a : Rw) => Lqbb (some 3) [.l (encP l), .i (i : Int), .l a]) (ys := encP l) (z := [.s ⟨#[]⟩, .s ⟨#[]⟩]) (fun i a hi ha hz => ?_) ?_)
  · simp only [zbq]; rfl
  · rw [zbq] at hi
    rw [zbq] at ha
    show Lqbb _ _ = Lqbb _ _
    rw [castS, eqbb_3, eqcs_i]
    simp (disch := omega) only [push_cast]
    rw [zdh (by omega) hz (by rfl), encP, zdp _ P0 _ _ hi]; rfl
  · show Lqbb _ _ = _
    rw [eqbb_3]; simp (disch := omega) only [push_cast]
theorem znq (l : List Lease) (h : l.length ≤ 1099511627776) : Lqbc none [.l (encL l)] = some [.l (encL l)] := by
  rw [eqbc_i, mostZ]; simp (disch := omega) only [push_cast]
  refine Eq.trans ?_ (zdv (f := fun (i : Nat) (a : Rw) => Lqbc (some 3) [.l (encL l), .i (i : Int), .l a]) (ys := encL l) (z := [.i 0, .s ⟨#[]⟩, .i 0]) (fun i a hi ha hz => ?_) ?_)
  · simp only [zbu]; rfl
  · rw [zbu] at hi
    rw [zbu] at ha
    show Lqbc _ _ = Lqbc _ _
    rw [castS, eqbc_3, eqct_i]
    simp (disch := omega) only [push_cast]
    rw [zdh (by omega) hz (by rfl), encL, zdp _ L0 _ _ hi]; rfl
  · show Lqbc _ _ = _
    rw [eqbc_3]; simp (disch := omega) only [push_cast]
theorem zeo (xs : Rw) (h : xs.length ≤ 4611686018427387904) : Lqs none [.l xs, .l xs] = some [.b true] := by
  rw [eqs_i]; simp (disch := omega) only [push_cast]
  exact zp (f := fun (i : Nat) (_ : Unit) => Lqs (some 4) [.l xs, .l xs, .i (i : Int)]) (n := xs.length) (T := some [.b true]) (I := fun i _ => True)
    (fun i _ hi _ => ⟨(), by
      show Lqs _ _ = Lqs _ _
      rw [castS, eqs_4]; simp (disch := omega) only [push_cast], trivial⟩) (fun _ _ => by
      show Lqs _ _ = _
      rw [eqs_4]; simp (disch := omega) only [push_cast]) 0 () (Nat.zero_le _) trivial
theorem zo3 (xs : Rw) (h : xs.length ≤ 4611686018427387904) (hr : ∀ i, (rd xs i 3).list.length ≤ 4611686018427387904) : Lqbd none [.l xs, .l xs] = some [.b true] := by
  rw [eqbd_i]; simp (disch := omega) only [push_cast]
  exact zp (f := fun (i : Nat) (_ : Unit) => Lqbd (some 4) [.l xs, .l xs, .i (i : Int)]) (n := xs.length) (T := some [.b true]) (I := fun i _ => True)
    (fun i _ hi _ => ⟨(), by
      show Lqbd _ _ = Lqbd _ _
      rw [castS, eqbd_4, eqcv_i, eqcu_i]; simp (disch := omega) only [push_cast, zeo _ (hr _)], trivial⟩) (fun _ _ => by
      show Lqbd _ _ = _
      rw [eqbd_4]; simp (disch := omega) only [push_cast]) 0 () (Nat.zero_le _) trivial
theorem zoc (xs : Rw) (h : xs.length ≤ 4611686018427387904) : Lqbe none [.l xs, .l xs] = some [.b true] := by
  rw [eqbe_i]; simp (disch := omega) only [push_cast]
  exact zp (f := fun (i : Nat) (_ : Unit) => Lqbe (some 4) [.l xs, .l xs, .i (i : Int)]) (n := xs.length) (T := some [.b true]) (I := fun i _ => True)
    (fun i _ hi _ => ⟨(), by
      show Lqbe _ _ = Lqbe _ _
      rw [castS, eqbe_4, eqcw_i]; simp (disch := omega) only [push_cast], trivial⟩) (fun _ _ => by
      show Lqbe _ _ = _
      rw [eqbe_4]; simp (disch := omega) only [push_cast]) 0 () (Nat.zero_le _) trivial
theorem zk7 (xs : Rw) (h : xs.length ≤ 4611686018427387904) : Lqbf none [.l xs, .l xs] = some [.b true] := by
  rw [eqbf_i]; simp (disch := omega) only [push_cast]
  exact zp (f := fun (i : Nat) (_ : Unit) => Lqbf (some 4) [.l xs, .l xs, .i (i : Int)]) (n := xs.length) (T := some [.b true]) (I := fun i _ => True)
    (fun i _ hi _ => ⟨(), by
      show Lqbf _ _ = Lqbf _ _
      rw [castS, eqbf_4, eqcx_i]; simp (disch := omega) only [push_cast], trivial⟩) (fun _ _ => by
      show Lqbf _ _ = _
      rw [eqbf_4]; simp (disch := omega) only [push_cast]) 0 () (Nat.zero_le _) trivial
end KV
end
section
namespace KV
open Go Go.Eng
open Classical
theorem zlx {l : List Bs} {i : Nat} (h : i < l.length) : szs (l.take (i + 1)) = szs (l.take i) + (nth .empty l i).size := by
  rw [zbf .empty h, zi0]; simp [szs]
theorem zfn (l : List Bs) (left : Int) (h0 : 0 ≤ left) (h1 : left ≤ 1048576) (hl : l.length ≤ 140737488351232) (hs : ∀ x ∈ l, x.size ≤ 140737488351232) :
    ∃ y, Lqt none [.l (encS l), .i left] = some [.i y] ∧ y ≤ left ∧ (0 ≤ y → y = left - ((l.length : Int) + (szs l : Int))) := by
  rw [eqt_i]
  by_cases hn : left - (l.length : Int) < 0
  · exact ⟨-1, by simp (disch := omega) only [push_cast], by omega, fun h => by omega⟩
  simp (disch := omega) only [push_cast]
  refine zb3 (f := fun (i : Nat) (y : Int) => Lqt (some 5) [.l (encS l), .i y, .i (i : Int)]) (n := l.length)
    (T := fun r => ∃ y, r = some [.i y] ∧ y ≤ left ∧ (0 ≤ y → y = left - ((l.length : Int) + (szs l : Int)))) (I := fun i y => 0 ≤ y ∧ y = left - ((l.length : Int) + (szs (l.take i) : Int)))
    (fun i y hi hI => ?_) (fun y hI => ⟨y, ?_, by omega, fun h => ?_⟩) 0 (left - (l.length : Int)) (Nat.zero_le _) ⟨by omega, by simp [szs]⟩
  · have hx := hs _ (zj (d := .empty) hi)
    have hz := zlx hi
    show (∃ s', Lqt _ _ = Lqt _ _ ∧ _) ∨ _
    by_cases hc : y - ((nth .empty l i).size : Int) < 0
    · right
      refine ⟨-1, ?_, by omega, fun h => by omega⟩
      show Lqt _ _ = _
      rw [eqt_5]; simp (disch := omega) only [push_cast]
    · left
      refine ⟨y - ((nth .empty l i).size : Int), ?_, by omega, by omega⟩
      rw [castS, eqt_5]; simp (disch := omega) only [push_cast]
  · show Lqt _ _ = _
    rw [eqt_5]; simp (disch := omega) only [push_cast]
  · rw [List.take_length] at hI; exact hI.2
def wK (k : Kept) : Nat := k.sum.size + k.thing.text.size + k.thing.refs.length + szs k.thing.refs
def wKs (l : List Kept) : Nat := (l.map wK).sum
theorem zh3 {l : List Kept} {i : Nat} (h : i < l.length) : wKs (l.take (i + 1)) = wKs (l.take i) + wK (nth K0 l i) := by
  rw [zbf K0 h]; simp [wKs]
structure BigK (k : Kept) : Prop where
  sum : k.sum.size ≤ 140737488351232
  text : k.thing.text.size ≤ 140737488351232
  refs : k.thing.refs.length ≤ 140737488351232
  all : ∀ x ∈ k.thing.refs, x.size ≤ 140737488351232
theorem zoe (k : Kept) (left : Int) (h0 : 0 ≤ left) (h1 : left ≤ 1048576) (B : BigK k) :
    ∃ y, Lqcf none [.s k.sum, .i k.born, .s k.thing.text, .l (encS k.thing.refs), .i left] = some [.i y] ∧ y ≤ left ∧ (0 ≤ y → y = left - (wK k : Int)) := by
  have b1 := B.sum; have b2 := B.text
  rw [eqcf_i]
  by_cases hn : left - (k.sum.size : Int) < 0
  · exact ⟨-1, by simp (disch := omega) only [push_cast], by omega, fun h => by omega⟩
  rw [eqcq_i]
  by_cases hm : left - (k.sum.size : Int) - (k.thing.text.size : Int) < 0
  · exact ⟨-1, by simp (disch := omega) only [push_cast], by omega, fun h => by omega⟩
  obtain ⟨y, y1, y2, y3⟩ := zfn k.thing.refs (left - (k.sum.size : Int) - (k.thing.text.size : Int)) (by omega) (by omega) B.refs B.all
  by_cases hy : y < 0
  · exact ⟨-1, by simp (disch := omega) only [push_cast, y1], by omega, fun h => by omega⟩
  · exact ⟨y, by simp (disch := omega) only [push_cast, y1], by omega, fun h => by unfold wK; have := y3 h; omega⟩
theorem zl1 (l : List Kept) (left : Int) (h0 : 0 ≤ left) (h1 : left ≤ 1048576) (hl : l.length ≤ 140737488351232) (hs : ∀ x ∈ l, BigK x) :
    ∃ y, Lq3 none [.l (encK l), .i left] = some [.i y] ∧ y ≤ left ∧ (0 ≤ y → y = left - ((l.length : Int) + (wKs l : Int))) := by
  rw [eq3_i]
  by_cases hn : left - (l.length : Int) < 0
  · exact ⟨-1, by simp (disch := omega) only [push_cast], by omega, fun h => by omega⟩
  simp (disch := omega) only [push_cast]
  refine zb3 (f := fun (i : Nat) (y : Int) => Lq3 (some 5) [.l (encK l), .i y, .i (i : Int)]) (n := l.length)
    (T := fun r => ∃ y, r = some [.i y] ∧ y ≤ left ∧ (0 ≤ y → y = left - ((l.length : Int) + (wKs l : Int)))) (I := fun i y => 0 ≤ y ∧ y = left - ((l.length : Int) + (wKs (l.take i) : Int)))
    (fun i y hi hI => ?_) (fun y hI => ⟨y, ?_, by omega, fun h => ?_⟩) 0 (left - (l.length : Int)) (Nat.zero_le _) ⟨by omega, by simp [wKs]⟩
  · obtain ⟨y', z1, z2, z3⟩ := zoe (nth K0 l i) y hI.1 (by omega) (hs _ (zj (d := K0) hi))
    have hz := zh3 hi
    by_cases hc : y' < 0
    · right
      refine ⟨-1, ?_, by omega, fun h => by omega⟩
      show Lq3 _ _ = _
      rw [eq3_5]; simp (disch := omega) only [push_cast, z1]
    · left
      refine ⟨y', ?_, by omega, by have := z3 (by omega); omega⟩
      show Lq3 _ _ = Lq3 _ _
      rw [castS, eq3_5]; simp (disch := omega) only [push_cast, z1]
  · show Lq3 _ _ = _
    rw [eq3_5]; simp (disch := omega) only [push_cast]
  · rw [List.take_length] at hI; exact hI.2
def wPs (l : List Pin) : Nat := (l.map fun p => p.name.size + p.sum.size).sum
theorem zn1 {l : List Pin} {i : Nat} (h : i < l.length) : wPs (l.take (i + 1)) = wPs (l.take i) + ((nth P0 l i).name.size + (nth P0 l i).sum.size) := by
  rw [zbf P0 h]; simp [wPs]
theorem zo7 (l : List Pin) (left : Int) (h0 : 0 ≤ left) (h1 : left ≤ 1048576) (hl : l.length ≤ 140737488351232) (hs : ∀ x ∈ l, x.name.size ≤ 140737488351232 ∧ x.sum.size ≤ 140737488351232) :
    ∃ y, Lqz none [.l (encP l), .i left] = some [.i y] ∧ y ≤ left ∧ (0 ≤ y → y = left - ((l.length : Int) + (wPs l : Int))) := by
  rw [eqz_i]
  by_cases hn : left - (l.length : Int) < 0
  · exact ⟨-1, by simp (disch := omega) only [push_cast], by omega, fun h => by omega⟩
  simp (disch := omega) only [push_cast]
  refine zb3 (f := fun (i : Nat) (y : Int) => Lqz (some 5) [.l (encP l), .i y, .i (i : Int)]) (n := l.length)
    (T := fun r => ∃ y, r = some [.i y] ∧ y ≤ left ∧ (0 ≤ y → y = left - ((l.length : Int) + (wPs l : Int)))) (I := fun i y => 0 ≤ y ∧ y = left - ((l.length : Int) + (wPs (l.take i) : Int)))
    (fun i y hi hI => ?_) (fun y hI => ⟨y, ?_, by omega, fun h => ?_⟩) 0 (left - (l.length : Int)) (Nat.zero_le _) ⟨by omega, by simp [wPs]⟩
  · have hx := hs _ (zj (d := P0) hi)
    have hz := zn1 hi
    by_cases hc : y - ((nth P0 l i).name.size : Int) < 0
    · right
      refine ⟨-1, ?_, by omega, fun h => by omega⟩
      show Lqz _ _ = _
      rw [eqz_5, eqb7_i]; simp (disch := omega) only [push_cast]
    by_cases hc2 : y - ((nth P0 l i).name.size : Int) - ((nth P0 l i).sum.size : Int) < 0
    · right
      refine ⟨-1, ?_, by omega, fun h => by omega⟩
      show Lqz _ _ = _
      rw [eqz_5, eqb7_i]; simp (disch := omega) only [push_cast]
    · left
      refine ⟨y - ((nth P0 l i).name.size : Int) - ((nth P0 l i).sum.size : Int), ?_, by omega, by omega⟩
      show Lqz _ _ = Lqz _ _
      rw [castS, eqz_5, eqb7_i]; simp (disch := omega) only [push_cast]
  · show Lqz _ _ = _
    rw [eqz_5]; simp (disch := omega) only [push_cast]
  · rw [List.take_length] at hI; exact hI.2
def wLs (l : List Lease) : Nat := (l.map fun p => p.sum.size).sum
theorem zpa {l : List Lease} {i : Nat} (h : i < l.length) : wLs (l.take (i + 1)) = wLs (l.take i) + (nth L0 l i).sum.size := by
  rw [zbf L0 h]; simp [wLs]
theorem znx (l : List Lease) (left : Int) (h0 : 0 ≤ left) (h1 : left ≤ 1048576) (hl : l.length ≤ 140737488351232) (hs : ∀ x ∈ l, x.sum.size ≤ 140737488351232) :
    ∃ y, Lq4 none [.l (encL l), .i left] = some [.i y] ∧ y ≤ left ∧ (0 ≤ y → y = left - ((l.length : Int) + (wLs l : Int))) := by
  rw [eq4_i]
  by_cases hn : left - (l.length : Int) < 0
  · exact ⟨-1, by simp (disch := omega) only [push_cast], by omega, fun h => by omega⟩
  simp (disch := omega) only [push_cast]
  refine zb3 (f := fun (i : Nat) (y : Int) => Lq4 (some 5) [.l (encL l), .i y, .i (i : Int)]) (n := l.length)
    (T := fun r => ∃ y, r = some [.i y] ∧ y ≤ left ∧ (0 ≤ y → y = left - ((l.length : Int) + (wLs l : Int)))) (I := fun i y => 0 ≤ y ∧ y = left - ((l.length : Int) + (wLs (l.take i) : Int)))
    (fun i y hi hI => ?_) (fun y hI => ⟨y, ?_, by omega, fun h => ?_⟩) 0 (left - (l.length : Int)) (Nat.zero_le _) ⟨by omega, by simp [wLs]⟩
  · have hx := hs _ (zj (d := L0) hi)
    have hz := zpa hi
    by_cases hc : y - ((nth L0 l i).sum.size : Int) < 0
    · right
      refine ⟨-1, ?_, by omega, fun h => by omega⟩
      show Lq4 _ _ = _
      rw [eq4_5, eqcg_i]; simp (disch := omega) only [push_cast]
    · left
      refine ⟨y - ((nth L0 l i).sum.size : Int), ?_, by omega, by omega⟩
      show Lq4 _ _ = Lq4 _ _
      rw [castS, eq4_5, eqcg_i]; simp (disch := omega) only [push_cast]
  · show Lq4 _ _ = _
    rw [eq4_5]; simp (disch := omega) only [push_cast]
  · rw [List.take_length] at hI; exact hI.2
structure BigS (s : State) : Prop where
  nT : s.things.length ≤ 140737488351232
  nP : s.pins.length ≤ 140737488351232
  nL : s.leases.length ≤ 140737488351232
  T : ∀ k ∈ s.things, BigK k
  P : ∀ p ∈ s.pins, p.name.size ≤ 140737488351232 ∧ p.sum.size ≤ 140737488351232
  L : ∀ l ∈ s.leases, l.sum.size ≤ 140737488351232
structure Light (s : State) : Prop where
  nT : s.things.length ≤ 1048576
  nP : s.pins.length ≤ 1048576
  nL : s.leases.length ≤ 1048576
  sum : (wKs s.things : Int) ≤ 1048576
  refs : ∀ k ∈ s.things, k.thing.refs.length ≤ 1048576
  names : ∀ p ∈ s.pins, p.name.size ≤ 4611686018427387904
theorem wK_le {l : List Kept} {k : Kept} (h : k ∈ l) : wK k ≤ wKs l := by
  unfold wKs
  induction l with
  | nil => simp at h
  | cons a l ih =>
    rw [List.map_cons, List.sum_cons]
    rcases List.mem_cons.1 h with rfl | h
    · omega
    · have := ih h; omega
theorem zpd (s : State) (B : BigS s) (left : Int) (h0 : 0 ≤ left) (h1 : left ≤ 1048576) : ∃ y, Lqch none [.i s.width, .i s.now, .i s.given, .i s.births, .l (encK s.things), .l (encP s.pins), .l (encL s.leases), .i left] = some [.i y] ∧ y ≤ left ∧ (0 ≤ y → Light s) := by
  rw [eqch_i]
  obtain ⟨y1, a1, a2, a3⟩ := zl1 s.things left h0 h1 B.nT B.T
  by_cases c1 : y1 < 0
  · exact ⟨-1, by simp (disch := omega) only [push_cast, a1], by omega, fun h => by omega⟩
  obtain ⟨y2, b1, b2, b3⟩ := zo7 s.pins y1 (by omega) (by omega) B.nP B.P
  by_cases c2 : y2 < 0
  · exact ⟨-1, by simp (disch := omega) only [push_cast, a1, b1], by omega, fun h => by omega⟩
  obtain ⟨y3, d1, d2, d3⟩ := znx s.leases y2 (by omega) (by omega) B.nL B.L
  by_cases c3 : y3 < 0
  · exact ⟨-1, by simp (disch := omega) only [push_cast, a1, b1, d1], by omega, fun h => by omega⟩
  refine ⟨y3, by simp (disch := omega) only [push_cast, a1, b1, d1], by omega, fun _ => ?_⟩
  have e1 := a3 (by omega); have e2 := b3 (by omega); have e3 := d3 (by omega)
  refine ⟨by omega, by omega, by omega, by omega, fun k hk => ?_, fun p hp => by have := (B.P p hp).1; omega⟩
  have := wK_le hk
  unfold wK at this
  omega
theorem zn0 {s : State} (h : Light s) : Lqb1 none [.i s.width, .i s.now, .i s.given, .i s.births, .l (encK s.things), .l (encP s.pins), .l (encL s.leases)] = some [.i s.width, .i s.now, .i s.given, .i s.births, .l (encK s.things), .l (encP s.pins), .l (encL s.leases)] := by
  have h1 := h.nT; have h2 := h.nP; have h3 := h.nL
  rw [eqb1_i]
  simp (disch := omega) only [push_cast, zl5 s.things (by omega) (fun k hk => by have := h.refs k hk; omega), zmw s.pins (by omega), znq s.leases (by omega)]
theorem zfg {l : List Kept} {n : Nat} (h : ∀ k ∈ l, k.thing.refs.length ≤ n) (i : Nat) : (rd (encK l) i 3).list.length ≤ n := by
  rw [ziy, zk]
  rcases Nat.lt_or_ge i l.length with h1 | h1
  · exact h _ (zj h1)
  · rw [ze2 K0 l i h1]; exact Nat.zero_le _
theorem zhd (a b c d : Int) (T P L : Rw) (h1 : T.length ≤ 4611686018427387904) (h2 : P.length ≤ 4611686018427387904) (h3 : L.length ≤ 4611686018427387904) (hr : ∀ i, (rd T i 3).list.length ≤ 4611686018427387904) :
    Lqbv none [.i a, .i b, .i c, .i d, .l T, .l P, .l L, .i a, .i b, .i c, .i d, .l T, .l P, .l L] = some [.b true] := by
  rw [eqbv_i]
  simp (disch := omega) only [push_cast, zo3 T h1 hr, zoc P h2, zk7 L h3]
theorem Light.eq {s : State} (h : Light s) : Lqbv none [.i s.width, .i s.now, .i s.given, .i s.births, .l (encK s.things), .l (encP s.pins), .l (encL s.leases), .i s.width, .i s.now, .i s.given, .i s.births, .l (encK s.things), .l (encP s.pins), .l (encL s.leases)] = some [.b true] := by
  have h1 := h.nT; have h2 := h.nP; have h3 := h.nL
  exact zhd _ _ _ _ _ _ _ (by rw [zbj]; omega) (by rw [zbq]; omega) (by rw [zbu]; omega) fun i => by have := zfg h.refs i; omega
def cntS (T P L : Rw) : Int := offK T T.length + 2 * (P.length : Int) + 3 * (L.length : Int)
def zii (k : Int) (T P L T' P' L' : Rw) : Prop := (T'.length = T.length ∧ ∀ j, j < T.length → RowK T T' j (k + offK T j)) ∧ zgw (k + offK T T.length) P.length P' ∧ zhp (k + offK T T.length + 2 * (P.length : Int)) L.length L'
theorem zig (a b c d : Int) (T P L : Rw) (k : Int) (hk : 0 ≤ k) (hb : k + cntS T P L ≤ 100000000000000000) (h1 : T.length ≤ 1000000000) : ∃ T' P' L', Lqbx none [.i a, .i b, .i c, .i d, .i k, .l T, .l P, .l L] = some [.i (k + cntS T P L), .l T', .l P', .l L'] ∧ zii k T P L T' P' L' := by
  unfold cntS at hb ⊢
  have o1 := zb5 T (i := 0) (j := T.length) (Nat.zero_le _)
  have o0 : offK T 0 = 0 := rfl
  obtain ⟨T', t1, t2⟩ := zlk T k hk (by omega) h1
  obtain ⟨P', p1, p2⟩ := zof P (k + offK T T.length) (by omega) (by omega)
  obtain ⟨L', l1, l2⟩ := zk5 L (k + offK T T.length + 2 * (P.length : Int)) (by omega) (by omega)
  have e : k + (offK T T.length + 2 * (P.length : Int) + 3 * (L.length : Int)) = k + offK T T.length + 2 * (P.length : Int) + 3 * (L.length : Int) := by omega
  exact ⟨T', P', L', by rw [eqbx_i, e]; simp (disch := omega) only [push_cast, t1, p1, l1], t2, p2, l2⟩
theorem zpg (a b c d : Int) {T P L T' P' L' : Rw} {k : Int} (hk : 0 ≤ k) (hb : k + cntS T P L ≤ 100000000000000000) (h1 : T.length ≤ 1000000000) (h : zii k T P L T' P' L') : Lqcp none [.i a, .i b, .i c, .i d, .l T', .l P', .l L', .i k] = some [.i (k + cntS T P L)] := by
  unfold cntS at hb ⊢
  have o1 := zb5 T (i := 0) (j := T.length) (Nat.zero_le _)
  have o0 : offK T 0 = 0 := rfl
  obtain ⟨⟨t1, t2⟩, p2, l2⟩ := h
  have e : k + (offK T T.length + 2 * (P.length : Int) + 3 * (L.length : Int)) = k + offK T T.length + 2 * (P.length : Int) + 3 * (L.length : Int) := by omega
  rw [eqcp_i, e]
  simp (disch := omega) only [push_cast, zkp hk (by omega) h1 t1 t2, zmb (k := k + offK T T.length) (by omega) (by omega) p2, zku (k := k + offK T T.length + 2 * (P.length : Int)) (by omega) (by omega) l2]
theorem zli {l : List Kept} (i : Nat) (hi : i ≤ l.length) : offK (encK l) i ≤ 3 * (i : Int) + (wKs (l.take i) : Int) := by
  induction i with
  | zero => simp [offK, wKs]
  | succ i ih =>
    have := ih (by omega)
    show offK (encK l) i + 3 + ((rd (encK l) i 3).list.length : Int) ≤ _
    rw [ziy, zk, zh3 (by omega)]
    unfold wK
    omega
theorem Light.cnt {s : State} (h : Light s) : 0 ≤ cntS (encK s.things) (encP s.pins) (encL s.leases) ∧ cntS (encK s.things) (encP s.pins) (encL s.leases) ≤ 100000000 := by
  have h1 := h.nT; have h2 := h.nP; have h3 := h.nL; have h4 := h.sum
  have := zli (l := s.things) s.things.length (Nat.le_refl _)
  rw [List.take_length] at this
  have o1 := zb5 (encK s.things) (i := 0) (j := s.things.length) (Nat.zero_le _)
  have o0 : offK (encK s.things) 0 = 0 := rfl
  unfold cntS
  rw [zbj, zbq, zbu]
  omega
theorem Light.mark {s : State} (h : Light s) (k : Int) (hk : 0 ≤ k) (hb : k ≤ 1000000000) : ∃ n T' P' L', Lqbx none [.i s.width, .i s.now, .i s.given, .i s.births, .i k, .l (encK s.things), .l (encP s.pins), .l (encL s.leases)] = some [.i n, .l T', .l P', .l L'] ∧ k ≤ n ∧ n ≤ k + 100000000 := by
  have h1 := h.nT
  have c := h.cnt
  obtain ⟨T', P', L', a, _⟩ := zig s.width s.now s.given s.births (encK s.things) (encP s.pins) (encL s.leases) k hk (by omega) (by rw [zbj]; omega)
  exact ⟨_, T', P', L', a, by omega, by omega⟩
end KV
end
section
namespace KV
open Go Go.Eng
open Classical
theorem zd8 {α : Type} {R : α → α → Prop} (d : α) {l : List α} (h : l.Pairwise R) {i j : Nat} (hij : i < j) (hj : j < l.length) : R (nth d l i) (nth d l j) := by
  rw [zn d l i (by omega), zn d l j hj]
  exact List.pairwise_iff_getElem.1 h i j (by omega) hj hij
theorem lb_hi {α : Type} {R : α → α → Prop} {q : α → Bool} (d : α) {l : List α} (h : l.Pairwise R) (mono : ∀ a b, R a b → q b = true → q a = true) : ∀ j, lb q l ≤ j → j < l.length → q (nth d l j) = false := by
  intro j h1 h2
  cases hq : q (nth d l j)
  · rfl
  · rcases Nat.eq_or_lt_of_le h1 with e | h3
    · rw [← e] at hq; rw [lb_at q d l (by omega)] at hq; exact hq.symm
    · have := mono _ _ (zd8 d h h3 h2) hq
      rw [lb_at q d l (by omega)] at this; cases this
theorem zdb {α : Type} {R : α → α → Prop} {q : α → Bool} {p : α → Prop} (d : α) {l : List α} (h : l.Pairwise R) (hp : ∀ a, p a → q a = false) (hR : ∀ a b, R a b → p b → q a = true) {j : Nat} (hj : j < l.length) (hk : p (nth d l j)) : j = lb q l := by
  have h1 : lb q l ≤ j := by
    rcases Nat.lt_or_ge j (lb q l) with h3 | h3
    · have := lb_lt q d l j h3; rw [hp _ hk] at this; cases this
    · exact h3
  rcases Nat.eq_or_lt_of_le h1 with e | h3
  · exact e.symm
  · have := hR _ _ (zd8 d h h3 hj) hk
    rw [lb_at q d l (by omega)] at this; cases this
theorem zdl {α : Type} {R : α → α → Prop} {q : α → Bool} {p : α → Prop} (d : α) {l : List α} (h : l.Pairwise R) (hp : ∀ a, p a → q a = false) (hR : ∀ a b, R a b → p b → q a = true) :
    (∃ a ∈ l, p a) ↔ lb q l < l.length ∧ p (nth d l (lb q l)) := by
  constructor
  · rintro ⟨a, ha, hpa⟩
    obtain ⟨j, hj, rfl⟩ := zbr d ha
    have := zdb d h hp hR hj hpa
    rw [← this]; exact ⟨hj, hpa⟩
  · rintro ⟨h1, h2⟩; exact ⟨_, zj h1, h2⟩
theorem zo6 {α : Type} {R : α → α → Prop} {q : α → Bool} {p : α → Prop} [DecidablePred p] (d : α) {l : List α} (h : l.Pairwise R) (hp : ∀ a, p a → q a = false) (hR : ∀ a b, R a b → p b → q a = true) :
    l.findIdx? (fun a => decide (p a)) = if ∃ a ∈ l, p a then some (lb q l) else none := by
  split
  · rename_i he
    obtain ⟨h1, h2⟩ := (zdl d h hp hR).1 he
    rw [List.findIdx?_eq_some_iff_getElem]
    refine ⟨h1, ?_, fun j hj => ?_⟩
    · rw [← zn d l _ h1]; exact decide_eq_true h2
    · rw [← zn d l j (by omega)]
      simp only [decide_eq_true_eq]
      intro hpj
      have := zdb d h hp hR (show j < l.length by omega) hpj
      omega
  · rename_i he
    rw [List.findIdx?_eq_none_iff]
    intro a ha
    exact decide_eq_false fun hpa => he ⟨a, ha, hpa⟩
theorem zft {α : Type} {R : α → α → Prop} {q : α → Bool} {p : α → Prop} [DecidablePred p] (d : α) {l : List α} (h : l.Pairwise R) (hp : ∀ a, p a → q a = false) (hR : ∀ a b, R a b → p b → q a = true) (he : ∃ a ∈ l, p a) :
    l.filter (fun a => !decide (p a)) = l.take (lb q l) ++ l.drop (lb q l + 1) := by
  obtain ⟨h1, h2⟩ := (zdl d h hp hR).1 he
  conv => lhs; rw [← List.take_append_drop (lb q l) l, List.filter_append, zjd d h1, List.filter_cons]
  rw [if_neg (by simp [h2])]
  congr 1
  · apply List.filter_eq_self.2
    intro a ha
    obtain ⟨j, hj, rfl⟩ := List.mem_iff_getElem.1 ha
    simp only [List.getElem_take, Bool.not_eq_true', decide_eq_false_iff_not]
    rw [List.length_take] at hj
    rw [← zn d l j (by omega)]
    intro hpj; have := zdb d h hp hR (show j < l.length by omega) hpj; omega
  · apply List.filter_eq_self.2
    intro a ha
    obtain ⟨j, hj, rfl⟩ := List.mem_iff_getElem.1 ha
    simp only [List.getElem_drop, Bool.not_eq_true', decide_eq_false_iff_not]
    rw [List.length_drop] at hj
    rw [← zn d l _ (by omega)]
    intro hpj; have := zdb d h hp hR (show lb q l + 1 + j < l.length by omega) hpj; omega
def SrtK (l : List Kept) : Prop := l.Pairwise fun a b => slt a.sum b.sum = true
def SrtP (l : List Pin) : Prop := l.Pairwise fun a b => slt a.name b.name = true
def SrtL (l : List Lease) : Prop := l.Pairwise fun a b => a.number < b.number
def qK (x : Bs) (k : Kept) : Bool := slt k.sum x
def qP (x : Bs) (k : Pin) : Bool := slt k.name x
def qL (x : Int) (k : Lease) : Bool := decide (k.number < x)
def hasT (l : List Kept) (x : Bs) : Prop := ∃ k ∈ l, k.sum = x
def hasP (l : List Pin) (x : Bs) : Prop := ∃ k ∈ l, k.name = x
def hasL (l : List Lease) (x : Int) : Prop := ∃ k ∈ l, k.number = x
theorem kp (x : Bs) (a : Kept) (h : a.sum = x) : qK x a = false := by unfold qK; rw [h, zes]
theorem kR (x : Bs) (a b : Kept) (h : slt a.sum b.sum = true) (hb : b.sum = x) : qK x a = true := by unfold qK; rw [← hb]; exact h
theorem pp (x : Bs) (a : Pin) (h : a.name = x) : qP x a = false := by unfold qP; rw [h, zes]
theorem pR (x : Bs) (a b : Pin) (h : slt a.name b.name = true) (hb : b.name = x) : qP x a = true := by unfold qP; rw [← hb]; exact h
theorem lp (x : Int) (a : Lease) (h : a.number = x) : qL x a = false := by unfold qL; simp; omega
theorem lR (x : Int) (a b : Lease) (h : a.number < b.number) (hb : b.number = x) : qL x a = true := by unfold qL; simp; omega
theorem zb2 {l : List Kept} (h : SrtK l) (x : Bs) : hasT l x ↔ lb (qK x) l < l.length ∧ (nth K0 l (lb (qK x) l)).sum = x := zdl K0 h (kp x) (kR x)
theorem zeu {l : List Pin} (h : SrtP l) (x : Bs) : hasP l x ↔ lb (qP x) l < l.length ∧ (nth P0 l (lb (qP x) l)).name = x := zdl P0 h (pp x) (pR x)
theorem zik {l : List Lease} (h : SrtL l) (x : Int) : hasL l x ↔ lb (qL x) l < l.length ∧ (nth L0 l (lb (qL x) l)).number = x := zdl L0 h (lp x) (lR x)
structure VS (s : State) : Prop where
  wd : 1 ≤ s.width ∧ s.width ≤ 8
  now : 0 ≤ s.now ∧ s.now ≤ 1000000000
  given : 0 ≤ s.given ∧ s.given ≤ 1000000000
  births : 0 ≤ s.births ∧ s.births ≤ 1000000000
  nT : s.things.length ≤ 600
  nP : s.pins.length ≤ 100
  nL : s.leases.length ≤ 200
  srtT : SrtK s.things
  okT : ∀ k ∈ s.things, ThingOk k.thing s.width ∧ k.sum = sumM (formM k.thing) s.width ∧ 1 ≤ k.born ∧ k.born ≤ s.births
  ndT : (s.things.map (·.born)).Nodup
  refs : ∀ k ∈ s.things, ∀ r ∈ k.thing.refs, ∃ j ∈ s.things, j.sum = r ∧ j.born < k.born
  srtP : SrtP s.pins
  okP : ∀ p ∈ s.pins, NameOk p.name ∧ hasT s.things p.sum
  srtL : SrtL s.leases
  okL : ∀ l ∈ s.leases, 1 ≤ l.number ∧ l.number ≤ s.given ∧ hasT s.things l.sum ∧ s.now < l.till ∧ l.till ≤ s.now + 100000
structure Out where
  code : Int
  st : State
  sum : Bs
  lease : Int
  a : Bs
  b : Bs
def fail (s : State) (c : Int) : Out := ⟨c, s, E0, 0, E0, E0⟩
def done (s : State) : Out := ⟨0, s, E0, 0, E0, E0⟩
def lent (s : State) (x : Bs) (hold : Int) : State := { s with given := s.given + 1, leases := s.leases ++ [⟨s.given + 1, x, s.now + hold⟩] }
def insK (k : Kept) (l : List Kept) : List Kept := l.take (lb (qK k.sum) l) ++ k :: l.drop (lb (qK k.sum) l)
noncomputable def delK (x : Bs) (l : List Kept) : List Kept := l.filter fun k => !decide (k.sum = x)
noncomputable def putP (n x : Bs) (l : List Pin) : List Pin := if hasP l n then l.set (lb (qP n) l) ⟨n, x⟩ else l.take (lb (qP n) l) ++ ⟨n, x⟩ :: l.drop (lb (qP n) l)
noncomputable def delP (n : Bs) (l : List Pin) : List Pin := l.filter fun k => !decide (k.name = n)
noncomputable def delL (n : Int) (l : List Lease) : List Lease := l.filter fun k => !decide (k.number = n)
def held (s : State) (x : Bs) : Prop := (∃ p ∈ s.pins, p.sum = x) ∨ ∃ l ∈ s.leases, l.sum = x
def isRef (l : List Kept) (x : Bs) : Prop := ∃ k ∈ l, x ∈ k.thing.refs
def room (s : State) : Prop := s.leases.length < 200 ∧ s.given < 1000000000
noncomputable def putS (s : State) (e : Entry) : Out :=
  if ∃ r ∈ e.thing.refs, ¬ hasT s.things r then fail s 2
  else if hasT s.things (sumM (formM e.thing) s.width) then
    (if formM (nth K0 s.things (lb (qK (sumM (formM e.thing) s.width)) s.things)).thing = formM e.thing then
      (if room s then { done (lent s (sumM (formM e.thing) s.width) e.number) with sum := sumM (formM e.thing) s.width, lease := s.given + 1 } else fail s 4)
    else { fail s 3 with a := formM (nth K0 s.things (lb (qK (sumM (formM e.thing) s.width)) s.things)).thing, b := formM e.thing })
  else if room s ∧ s.things.length < 600 ∧ s.births < 1000000000 then
    { done (lent { s with births := s.births + 1, things := insK ⟨sumM (formM e.thing) s.width, s.births + 1, e.thing⟩ s.things } (sumM (formM e.thing) s.width) e.number) with sum := sumM (formM e.thing) s.width, lease := s.given + 1 }
  else fail s 4
noncomputable def chg (s : State) (e : Entry) : Out :=
  if e.kind = 1 then putS s e
  else if e.kind = 2 then
    (if hasT s.things e.sum then (if hasP s.pins e.name ∨ s.pins.length < 100 then done { s with pins := putP e.name e.sum s.pins } else fail s 4) else fail s 2)
  else if e.kind = 3 then (if hasP s.pins e.name then done { s with pins := delP e.name s.pins } else fail s 5)
  else if e.kind = 4 then
    (if hasT s.things e.sum then (if room s then { done (lent s e.sum e.number) with lease := s.given + 1 } else fail s 4) else fail s 2)
  else if e.kind = 5 then (if hasL s.leases e.number then done { s with leases := delL e.number s.leases } else fail s 5)
  else if e.kind = 6 then (if s.now + e.number ≤ 1000000000 then done { s with now := s.now + e.number, leases := s.leases.filter fun l => decide (s.now + e.number < l.till) } else fail s 4)
  else (if hasT s.things e.sum then (if held s e.sum ∨ isRef s.things e.sum then fail s 6 else done { s with things := delK e.sum s.things }) else fail s 2)
end KV
end
section
namespace KV
open Go Go.Eng
open Classical
theorem zf9 {lo hi : Nat} (h : lo + hi ≤ 4294967296) : IntKind.i64.wrap ((IntKind.u64.wrap (IntKind.i64.wrap ((lo : Int) + (hi : Int)))).fdiv (2 ^ 1)) = (((lo + hi) / 2 : Nat) : Int) := by
  rw [w64 (n := (lo : Int) + (hi : Int)) (by omega), zfo, Int.fdiv_eq_ediv_of_nonneg _ (by decide), w64 (by omega)]
  omega
theorem zl0 (w now g b : Int) (T : List Kept) (P L : Rw) (x : Bs) (h : SrtK T) (hn : T.length ≤ 1000000) :
    Lqbl none [.i (T.length : Int), .i w, .i now, .i g, .i b, .l (encK T), .l P, .l L, .s x] = some [.i (lb (qK x) T : Int)] := by
  rw [eqbl_i]
  refine zga (f := fun lo hi => Lqbl (some 2) [.i (lo : Int), .i (hi : Int), .s x, .i w, .i now, .i g, .i b, .l (encK T), .l P, .l L]) (q := fun j => qK x (nth K0 T j)) (lb_le _ _) (fun j hj => lb_lt _ K0 _ _ hj) (fun j h1 h2 => lb_hi K0 h (fun a c hac hc => zb0 hac hc) j h1 h2) (fun lo hi hl hh => ?_) (fun lo hl => ?_)
  · show Lqbl _ _ = _
    rw [eqbl_2, zf9 (by omega), eqcy_i]
    have : (lo + hi) / 2 < hi := by omega
    generalize (lo + hi) / 2 = m at this
    simp (disch := omega) only [push_cast]
    unfold qK
    cases slt (nth K0 T m).sum x <;> rfl
  · show Lqbl _ _ = _
    rw [eqbl_2]; simp (disch := omega) only [push_cast]
theorem zol (w now g b : Int) (T L : Rw) (P : List Pin) (x : Bs) (h : SrtP P) (hn : P.length ≤ 1000000) :
    Lqbn none [.i (P.length : Int), .i w, .i now, .i g, .i b, .l T, .l (encP P), .l L, .s x] = some [.i (lb (qP x) P : Int)] := by
  rw [eqbn_i]
  refine zga (f := fun lo hi => Lqbn (some 2) [.i (lo : Int), .i (hi : Int), .s x, .i w, .i now, .i g, .i b, .l T, .l (encP P), .l L]) (q := fun j => qP x (nth P0 P j)) (lb_le _ _) (fun j hj => lb_lt _ P0 _ _ hj) (fun j h1 h2 => lb_hi P0 h (fun a c hac hc => zb0 hac hc) j h1 h2) (fun lo hi hl hh => ?_) (fun lo hl => ?_)
  · show Lqbn _ _ = _
    rw [eqbn_2, zf9 (by omega), eqcz_i]
    have : (lo + hi) / 2 < hi := by omega
    generalize (lo + hi) / 2 = m at this
    simp (disch := omega) only [push_cast]
    unfold qP
    cases slt (nth P0 P m).name x <;> rfl
  · show Lqbn _ _ = _
    rw [eqbn_2]; simp (disch := omega) only [push_cast]
theorem zmx (w now g b : Int) (T P : Rw) (L : List Lease) (x : Int) (h : SrtL L) (hn : L.length ≤ 1000000) :
    Lqbo none [.i (L.length : Int), .i w, .i now, .i g, .i b, .l T, .l P, .l (encL L), .i x] = some [.i (lb (qL x) L : Int)] := by
  rw [eqbo_i]
  refine zga (f := fun lo hi => Lqbo (some 2) [.i (lo : Int), .i (hi : Int), .i x, .i w, .i now, .i g, .i b, .l T, .l P, .l (encL L)]) (q := fun j => qL x (nth L0 L j)) (lb_le _ _) (fun j hj => lb_lt _ L0 _ _ hj) (fun j h1 h2 => lb_hi L0 h (fun a c hac hc => by unfold qL at hc ⊢; simp at hc ⊢; omega) j h1 h2) (fun lo hi hl hh => ?_) (fun lo hl => ?_)
  · show Lqbo _ _ = _
    rw [eqbo_2, zf9 (by omega), eqc0_i]
    have : (lo + hi) / 2 < hi := by omega
    generalize (lo + hi) / 2 = m at this
    simp (disch := omega) only [push_cast]
    unfold qL
    by_cases hq : (nth L0 L m).number < x
    · rw [show decide (x ≤ (nth L0 L m).number) = false by simp; omega, show decide ((nth L0 L m).number < x) = true by simp; omega]; rfl
    · rw [show decide (x ≤ (nth L0 L m).number) = true by simp; omega, show decide ((nth L0 L m).number < x) = false by simp; omega]; rfl
  · show Lqbo _ _ = _
    rw [eqbo_2]; simp (disch := omega) only [push_cast]
theorem zba (w now g b : Int) (T : List Kept) (P L : Rw) (x : Bs) (h : SrtK T) (hn : T.length ≤ 1000000) :
    Lq0 none [.s x, .i w, .i now, .i g, .i b, .l (encK T), .l P, .l L] = some [.i (lb (qK x) T : Int), .b (decide (hasT T x))] := by
  have hl := lb_le (qK x) T
  have hi := zb2 h x
  rw [eq0_i, zbj, zl0 w now g b T P L x h hn]
  by_cases h1 : lb (qK x) T < T.length
  · simp (disch := omega) only [push_cast]
    by_cases h2 : (nth K0 T (lb (qK x) T)).sum = x
    · rw [decide_eq_true h2, decide_eq_true (hi.2 ⟨h1, h2⟩)]
    · rw [decide_eq_false h2, decide_eq_false fun h3 => h2 (hi.1 h3).2]
  · simp (disch := omega) only [push_cast]
    rw [decide_eq_false fun h3 => h1 (hi.1 h3).1]
theorem zhg (w now g b : Int) (T L : Rw) (P : List Pin) (x : Bs) (h : SrtP P) (hn : P.length ≤ 1000000) :
    Lqca none [.s x, .i w, .i now, .i g, .i b, .l T, .l (encP P), .l L] = some [.i (lb (qP x) P : Int), .b (decide (hasP P x))] := by
  have hl := lb_le (qP x) P
  have hi := zeu h x
  rw [eqca_i, zbq, zol w now g b T L P x h hn]
  by_cases h1 : lb (qP x) P < P.length
  · simp (disch := omega) only [push_cast]
    by_cases h2 : (nth P0 P (lb (qP x) P)).name = x
    · rw [decide_eq_true h2, decide_eq_true (hi.2 ⟨h1, h2⟩)]
    · rw [decide_eq_false h2, decide_eq_false fun h3 => h2 (hi.1 h3).2]
  · simp (disch := omega) only [push_cast]
    rw [decide_eq_false fun h3 => h1 (hi.1 h3).1]
theorem zoj (w now g b : Int) (T P : Rw) (L : List Lease) (x : Int) (h : SrtL L) (hn : L.length ≤ 1000000) :
    Lqcm none [.i x, .i w, .i now, .i g, .i b, .l T, .l P, .l (encL L)] = some [.i (lb (qL x) L : Int), .b (decide (hasL L x))] := by
  have hl := lb_le (qL x) L
  have hi := zik h x
  rw [eqcm_i, zbu, zmx w now g b T P L x h hn]
  by_cases h1 : lb (qL x) L < L.length
  · simp (disch := omega) only [push_cast]
    by_cases h2 : (nth L0 L (lb (qL x) L)).number = x
    · rw [decide_eq_true h2, decide_eq_true (hi.2 ⟨h1, h2⟩)]
    · rw [decide_eq_false h2, decide_eq_false fun h3 => h2 (hi.1 h3).2]
  · simp (disch := omega) only [push_cast]
    rw [decide_eq_false fun h3 => h1 (hi.1 h3).1]
theorem zbx {α : Type} {f : Nat → Option Lv} {l : List α} (d : α) {p : α → Prop} [DecidablePred p] {T E : Option Lv} (step : ∀ i, i < l.length → f i = cond (decide (p (nth d l i))) T (f (i + 1))) (last : f l.length = E) : f 0 = if (∃ a ∈ l, p a) then T else E := by
  have := zid (f := f) (l := l) (d := d) (p := fun a => decide (p a)) (ret := fun _ => T) (e := E) step last
  rw [this]
  by_cases h : ∃ a ∈ l, p a
  · rw [if_pos h]
    cases hf : l.findIdx? (fun a => decide (p a)) with
    | none =>
      rw [List.findIdx?_eq_none_iff] at hf
      obtain ⟨a, ha, hp⟩ := h
      have := hf a ha; simp [hp] at this
    | some i => rfl
  · rw [if_neg h]
    cases hf : l.findIdx? (fun a => decide (p a)) with
    | none => rfl
    | some i =>
      obtain ⟨h1, h2, _⟩ := List.findIdx?_eq_some_iff_getElem.1 hf
      exact absurd ⟨_, List.getElem_mem h1, of_decide_eq_true h2⟩ h
theorem zi9 (s : State) (x : Bs) (h1 : s.pins.length ≤ 1000000) (h2 : s.leases.length ≤ 1000000) : Lqi none (.s x :: encSt s) = some [.b (decide (held s x))] := by
  unfold encSt
  rw [eqi_i]
  have a1 := zbx (f := fun i : Nat => Lqi (some 8) [.s x, .l (encL s.leases), .i (s.leases.length : Int), .i (i : Int)]) L0 (l := s.leases) (p := fun l => l.sum = x) (T := some [.b true]) (E := some [.b false]) (fun i hi => by
    show Lqi _ _ = cond _ _ (Lqi _ _)
    rw [eqi_8]; simp (disch := omega) only [push_cast]) (by show Lqi _ _ = _; rw [eqi_8]; simp (disch := omega) only [push_cast])
  have a2 := zbx (f := fun i : Nat => Lqi (some 2) [.s x, .l (encP s.pins), .i (s.pins.length : Int), .i (i : Int), .i s.width, .i s.now, .i s.given, .i s.births, .l (encK s.things), .l (encP s.pins), .l (encL s.leases)]) P0 (l := s.pins) (p := fun l => l.sum = x) (T := some [.b true]) (E := Lqi (some 8) [.s x, .l (encL s.leases), .i (s.leases.length : Int), .i 0]) (fun i hi => by
    show Lqi _ _ = cond _ _ (Lqi _ _)
    rw [eqi_2]; simp (disch := omega) only [push_cast]) (by show Lqi _ _ = _; rw [eqi_2]; simp (disch := omega) only [push_cast])
  rw [zbq]
  refine a2.trans ?_
  by_cases h : ∃ p ∈ s.pins, p.sum = x
  · rw [if_pos h, decide_eq_true (p := held s x) (Or.inl h)]
  · rw [if_neg h]
    refine a1.trans ?_
    by_cases h3 : ∃ l ∈ s.leases, l.sum = x
    · rw [if_pos h3, decide_eq_true (p := held s x) (Or.inr h3)]
    · rw [if_neg h3, decide_eq_false (p := held s x) (by rintro (h4 | h4); exact h h4; exact h3 h4)]
theorem ziw (a b c d : Int) (T : List Kept) (P L : Rw) (x : Bs) (h1 : T.length ≤ 1000000) (h2 : ∀ k ∈ T, k.thing.refs.length ≤ 1000000) : Lqk none [.s x, .i a, .i b, .i c, .i d, .l (encK T), .l P, .l L] = some [.b (decide (isRef T x))] := by
  rw [eqk_i]
  have a2 := zbx (f := fun i : Nat => Lqk (some 2) [.s x, .l (encK T), .i (T.length : Int), .i (i : Int)]) K0 (l := T) (p := fun k => x ∈ k.thing.refs) (T := some [.b true]) (E := some [.b false]) (fun i hi => by
    show Lqk _ _ = cond _ _ (Lqk _ _)
    have hr := h2 _ (zj (d := K0) hi)
    rw [eqk_2]; simp (disch := omega) only [push_cast]
    have a1 := zbx (f := fun j : Nat => Lqk (some 5) [.s x, .l (encK T), .i (T.length : Int), .i (i : Int), .l (encS (nth K0 T i).thing.refs), .i ((nth K0 T i).thing.refs.length : Int), .i (j : Int)]) .empty (l := (nth K0 T i).thing.refs) (p := fun r => r = x) (T := some [.b true]) (E := Lqk (some 2) [.s x, .l (encK T), .i (T.length : Int), .i ((i : Int) + 1)]) (fun j hj => by
      show Lqk _ _ = cond _ _ (Lqk _ _)
      rw [eqk_5]; simp (disch := omega) only [push_cast]) (by show Lqk _ _ = _; rw [eqk_5]; simp (disch := omega) only [push_cast])
    refine a1.trans ?_
    by_cases h : ∃ r ∈ (nth K0 T i).thing.refs, r = x
    · rw [if_pos h, decide_eq_true (p := x ∈ (nth K0 T i).thing.refs) (by obtain ⟨r, hr, rfl⟩ := h; exact hr), cond_true]
    · rw [if_neg h, decide_eq_false (p := x ∈ (nth K0 T i).thing.refs) (fun h3 => h ⟨x, h3, rfl⟩), cond_false]) (by show Lqk _ _ = _; rw [eqk_2]; simp (disch := omega) only [push_cast])
  rw [zbj]
  refine a2.trans ?_
  by_cases h : ∃ k ∈ T, x ∈ k.thing.refs
  · rw [if_pos h, decide_eq_true (p := isRef T x) h]
  · rw [if_neg h, decide_eq_false (p := isRef T x) h]
end KV
end
section
namespace KV
open Go Go.Eng
open Classical
def zy (o : Out) : Lv := [.i o.code, .i 0, .i 0, .i 0, .i 0, .s o.sum, .i o.lease, .s o.a, .s o.b, .i o.st.width, .i o.st.now, .i o.st.given, .i o.st.births, .l [], .l [], .l [], .l (encK o.st.things), .l (encP o.st.pins), .l (encL o.st.leases)]
theorem zke (n : Nat) : Nat.ble n (n + 1) = true := Nat.ble_eq_true_of_le (Nat.le_succ n)
theorem zbd (c : Int) : Lq5 none [.i c] = some [.i c, .i 0, .i 0, .i 0, .i 0, .s E0, .i 0, .s E0, .s E0, .l [], .l [], .l []] := by rw [eq5_i]
theorem zdc (a b c d e f g h i : Int) (j : Bs) (k : Int) (l m : Bs) (T P L x y z : Rw) : Lqa (some 78) [.i a, .i b, .i c, .i d, .i e, .i f, .i g, .i h, .i i, .s j, .i k, .s l, .s m, .l T, .l P, .l L, .l x, .l y, .l z] =
    some [.i 0, .i 0, .i 0, .i 0, .i 0, .s E0, .i 0, .s E0, .s E0, .i a, .i b, .i c, .i d, .l [], .l [], .l [], .l T, .l P, .l L] := by
  rw [eqa_78, zbd]; simp (disch := omega) only [push_cast]
theorem zhm (a b c d e f g h i : Int) (j : Bs) (k : Int) (l m : Bs) (T P L x y z : Rw) : Lqa (some 76) [.i a, .i b, .i c, .i d, .i e, .i f, .i g, .i h, .i i, .s j, .i k, .s l, .s m, .l T, .l P, .l L, .l x, .l y, .l z] =
    some [.i 6, .i 0, .i 0, .i 0, .i 0, .s E0, .i 0, .s E0, .s E0, .i a, .i b, .i c, .i d, .l [], .l [], .l [], .l T, .l P, .l L] := by
  rw [eqa_76, zbd]; simp (disch := omega) only [push_cast]
theorem zd4 (a b c d e f g h i : Int) (j : Bs) (k : Int) (l m : Bs) (T P L x y z : Rw) : Lqa (some 21) [.i a, .i b, .i c, .i d, .i e, .i f, .i g, .i h, .i i, .s j, .i k, .s l, .s m, .l T, .l P, .l L, .l x, .l y, .l z] =
    some [.i 4, .i 0, .i 0, .i 0, .i 0, .s E0, .i 0, .s E0, .s E0, .i a, .i b, .i c, .i d, .l [], .l [], .l [], .l T, .l P, .l L] := by
  rw [eqa_21, zbd]; simp (disch := omega) only [push_cast]
theorem zg9 (x : Bs) (w now gv b k : Int) (s n : Bs) (m : Int) (t : Bs) (r T P : Rw) (L : List Lease) (hl : L.length ≤ 1000000) (hg : 0 ≤ gv ∧ gv ≤ 1000000000) (hn : 0 ≤ now ∧ now ≤ 1000000000) (hm : 0 ≤ m ∧ m ≤ 1000000000) :
    Lqb9 none [.s x, .i w, .i now, .i gv, .i b, .i k, .s s, .s n, .i m, .s t, .l r, .l T, .l P, .l (encL L)] =
      some [.i 0, .i 0, .i 0, .i 0, .i 0, .s E0, .i (gv + 1), .s E0, .s E0, .i w, .i now, .i (gv + 1), .i b, .i k, .s s, .s n, .i m, .s t, .l r, .l T, .l P, .l (encL (L ++ [⟨gv + 1, x, now + m⟩])), .l [], .l [], .l []] := by
  rw [eqb9_i, ← zfw, mostE]; simp (disch := omega) only [push_cast] <;> rfl
theorem zdn {α : Type} (l : List α) (i : Nat) : (l.drop 0).take (i - 0) = l.take i := by simp
theorem zds {α : Type} (l : List α) (i : Nat) : (l.drop i).take (l.length - i) = l.drop i := List.take_of_length_le (by simp)
def args4 (s : State) (e : Entry) : Lv := [.i s.width, .i s.now, .i s.given, .i s.births, .i e.kind, .s e.sum, .s e.name, .i e.number, .s e.thing.text, .l (encS e.thing.refs), .i 0, .i 0, .i 0, .i 0, .i 0, .s E0, .i 0, .s E0, .s E0, .l (encK s.things), .l (encP s.pins), .l (encL s.leases), .l [], .l [], .l []]
section
variable {s : State} {e : Entry} (V : VS s)
include V
theorem zou (hk : e.kind = 2) (r : Bool) : Lqa (some 4) (.b r :: args4 s e) = some (zy (chg s e)) := by
  unfold args4 chg
  have h1 := V.nT; have h2 := V.nP
  rw [eqa_4, if_neg (by omega), if_pos hk, hk]
  by_cases hT : hasT s.things e.sum
  · have hl := lb_le (qP e.name) s.pins
    rw [if_pos hT]
    simp (disch := omega) only [push_cast, zba _ _ _ _ s.things _ _ e.sum V.srtT (by omega), decide_eq_true hT, zhg _ _ _ _ _ _ s.pins e.name V.srtP (by omega)]
    by_cases hP : hasP s.pins e.name
    · have hi := (zeu V.srtP e.name).1 hP
      rw [if_pos (Or.inl hP), decide_eq_true hP]
      simp (disch := omega) only [push_cast, zbd]
      rw [wrP _ _ _ hi.1, hi.2]
      unfold zy done putP
      rw [if_pos hP] <;> rfl
    · rw [decide_eq_false hP]
      by_cases hc : s.pins.length = 100
      · rw [if_neg (by rintro (h | h); exact hP h; omega)]
        simp (disch := omega) only [push_cast, zbd]; rfl
      · rw [if_pos (Or.inr (by omega))]
        have hs1 : Eng.sub (encP s.pins) 0 (lb (qP e.name) s.pins) = encP (s.pins.take (lb (qP e.name) s.pins)) := by rw [zd6, zdn]
        have hs2 : Eng.sub (encP s.pins) (lb (qP e.name) s.pins) s.pins.length = encP (s.pins.drop (lb (qP e.name) s.pins)) := by rw [zd6, zds]
        simp (disch := omega) only [push_cast, hs1, hs2, mostE, List.length_append, List.length_take, List.length_drop]
        rw [zdc, zod, zgg, zgg]
        unfold zy done putP
        rw [if_neg hP, List.append_assoc] <;> rfl
  · rw [if_neg hT]
    simp (disch := omega) only [push_cast, zba _ _ _ _ s.things _ _ e.sum V.srtT (by omega), decide_eq_false hT, zbd]; rfl
theorem zpi (hk : e.kind = 3) (r : Bool) : Lqa (some 4) (.b r :: args4 s e) = some (zy (chg s e)) := by
  unfold args4 chg
  have h1 := V.nT; have h2 := V.nP
  rw [eqa_4, if_neg (by omega), if_neg (by omega), if_pos hk, hk]
  have hl := lb_le (qP e.name) s.pins
  simp (disch := omega) only [push_cast, zhg _ _ _ _ _ _ s.pins e.name V.srtP (by omega)]
  by_cases hP : hasP s.pins e.name
  · have hi := (zeu V.srtP e.name).1 hP
    rw [if_pos hP, decide_eq_true hP]
    have hs1 : Eng.sub (encP s.pins) 0 (lb (qP e.name) s.pins) = encP (s.pins.take (lb (qP e.name) s.pins)) := by rw [zd6, zdn]
    have hs2 : Eng.sub (encP s.pins) (lb (qP e.name) s.pins + 1) s.pins.length = encP (s.pins.drop (lb (qP e.name) s.pins + 1)) := by rw [zd6, zds]
    simp (disch := omega) only [push_cast, hs1, hs2, mostE, List.length_append, List.length_take, List.length_drop]
    rw [zdc, zgg]
    unfold zy done delP
    rw [zft P0 V.srtP (pp e.name) (pR e.name) hP] <;> rfl
  · rw [if_neg hP, decide_eq_false hP]
    simp (disch := omega) only [push_cast, zbd]; rfl
theorem zpn (hk : e.kind = 4) (hm : 0 ≤ e.number ∧ e.number ≤ 1000000000) : Lqa (some 4) (.b (decide (room s)) :: args4 s e) = some (zy (chg s e)) := by
  unfold args4 chg
  have h1 := V.nT; have h2 := V.nL
  rw [eqa_4, if_neg (by omega), if_neg (by omega), if_neg (by omega), if_pos hk, hk]
  by_cases hT : hasT s.things e.sum
  · rw [if_pos hT]
    simp (disch := omega) only [push_cast, zba _ _ _ _ s.things _ _ e.sum V.srtT (by omega), decide_eq_true hT]
    by_cases hr : room s
    · rw [if_pos hr, decide_eq_true hr]
      simp (disch := omega) only [push_cast, zg9 e.sum s.width s.now s.given s.births 4 e.sum e.name e.number e.thing.text (encS e.thing.refs) (encK s.things) (encP s.pins) s.leases (by omega) V.given V.now hm]; rfl
    · rw [if_neg hr, decide_eq_false hr]
      simp (disch := omega) only [push_cast, zbd]; rfl
  · rw [if_neg hT]
    simp (disch := omega) only [push_cast, zba _ _ _ _ s.things _ _ e.sum V.srtT (by omega), decide_eq_false hT, zbd]; rfl
theorem zkk (hk : e.kind = 5) (r : Bool) : Lqa (some 4) (.b r :: args4 s e) = some (zy (chg s e)) := by
  unfold args4 chg
  have h1 := V.nT; have h2 := V.nL
  rw [eqa_4, if_neg (by omega), if_neg (by omega), if_neg (by omega), if_neg (by omega), if_pos hk, hk]
  have hl := lb_le (qL e.number) s.leases
  simp (disch := omega) only [push_cast, zoj _ _ _ _ _ _ s.leases e.number V.srtL (by omega)]
  by_cases hP : hasL s.leases e.number
  · have hi := (zik V.srtL e.number).1 hP
    rw [if_pos hP, decide_eq_true hP]
    have hs1 : Eng.sub (encL s.leases) 0 (lb (qL e.number) s.leases) = encL (s.leases.take (lb (qL e.number) s.leases)) := by rw [zgl, zdn]
    have hs2 : Eng.sub (encL s.leases) (lb (qL e.number) s.leases + 1) s.leases.length = encL (s.leases.drop (lb (qL e.number) s.leases + 1)) := by rw [zgl, zds]
    simp (disch := omega) only [push_cast, hs1, hs2, mostE, List.length_append, List.length_take, List.length_drop]
    rw [zdc, zfw]
    unfold zy done delL
    rw [zft L0 V.srtL (lp e.number) (lR e.number) hP] <;> rfl
  · rw [if_neg hP, decide_eq_false hP]
    simp (disch := omega) only [push_cast, zbd]; rfl
theorem zlm (hk : e.kind = 6) (hm : 0 ≤ e.number ∧ e.number ≤ 1000000000) (r : Bool) : Lqa (some 4) (.b r :: args4 s e) = some (zy (chg s e)) := by
  unfold args4 chg
  have h2 := V.nL; have h3 := V.now
  rw [eqa_4, if_neg (by omega), if_neg (by omega), if_neg (by omega), if_neg (by omega), if_neg (by omega), if_pos hk, hk]
  by_cases hn : s.now + e.number ≤ 1000000000
  · rw [if_pos hn]
    simp (disch := omega) only [push_cast]
    have := zp (f := fun (i : Nat) (a : List Lease) => Lqa (some 65) [.i (s.leases.length : Int), .i (i : Int), .i s.width, .i (s.now + e.number), .i s.given, .i s.births, .i 0, .i 0, .i 0, .i 0, .i 0, .s E0, .i 0, .s E0, .s E0, .l (encL a), .l (encL s.leases), .l (encK s.things), .l (encP s.pins), .l [], .l [], .l []]) (n := s.leases.length)
      (T := some (zy (done { s with now := s.now + e.number, leases := s.leases.filter fun l => decide (s.now + e.number < l.till) })))
      (I := fun i a => a = (s.leases.take i).filter fun l => decide (s.now + e.number < l.till)) (fun i a hi hI => by
        have hle : a.length ≤ i := by rw [hI]; exact Nat.le_trans (List.length_filter_le _ _) (by simp; omega)
        by_cases ht : s.now + e.number < (nth L0 s.leases i).till
        · refine ⟨a ++ [nth L0 s.leases i], ?_, ?_⟩
          · show Lqa _ _ = Lqa _ _
            rw [eqa_65, mostE, ← zfw]; simp (disch := omega) only [push_cast] <;> rfl
          · show a ++ [nth L0 s.leases i] = _
            rw [zbf L0 hi, List.filter_append, ← hI]; simp [ht]
        · refine ⟨a, ?_, ?_⟩
          · show Lqa _ _ = Lqa _ _
            rw [eqa_65]; simp (disch := omega) only [push_cast]
          · show a = _
            rw [zbf L0 hi, List.filter_append, ← hI]; simp [ht]) (fun a hI => by
        show Lqa _ _ = _
        rw [eqa_65]; simp (disch := omega) only [push_cast, zdc]
        rw [hI, List.take_length]; rfl) 0 [] (Nat.zero_le _) rfl
    exact this
  · rw [if_neg hn]
    simp (disch := omega) only [push_cast, zbd]; rfl
theorem zns (hk : e.kind = 7) (r : Bool) : Lqa (some 4) (.b r :: args4 s e) = some (zy (chg s e)) := by
  unfold args4 chg
  have h1 := V.nT; have h2 := V.nP; have h3 := V.nL
  rw [eqa_4, if_neg (by omega), if_neg (by omega), if_neg (by omega), if_neg (by omega), if_neg (by omega), if_neg (by omega), hk]
  have hl := lb_le (qK e.sum) s.things
  by_cases hT : hasT s.things e.sum
  · have hi := (zb2 V.srtT e.sum).1 hT
    have hh := zi9 s e.sum (by omega) (by omega)
    have hr := ziw s.width s.now s.given s.births s.things (encP s.pins) (encL s.leases) e.sum (by omega) (fun k hk => by have := (V.okT k hk).1.refs; omega)
    rw [if_pos hT]
    unfold encSt at hh
    simp (disch := omega) only [push_cast, zba _ _ _ _ s.things _ _ e.sum V.srtT (by omega), decide_eq_true hT, hh]
    by_cases c1 : held s e.sum
    · rw [if_pos (Or.inl c1), decide_eq_true c1]
      simp (disch := omega) only [push_cast, zhm]; rfl
    · rw [decide_eq_false c1]
      by_cases c2 : isRef s.things e.sum
      · rw [if_pos (Or.inr c2)]
        simp (disch := omega) only [push_cast, hr, decide_eq_true c2, zhm]; rfl
      · rw [if_neg (by rintro (h | h); exact c1 h; exact c2 h)]
        have hs1 : Eng.sub (encK s.things) 0 (lb (qK e.sum) s.things) = encK (s.things.take (lb (qK e.sum) s.things)) := by rw [zet, zdn]
        have hs2 : Eng.sub (encK s.things) (lb (qK e.sum) s.things + 1) s.things.length = encK (s.things.drop (lb (qK e.sum) s.things + 1)) := by rw [zet, zds]
        simp (disch := omega) only [push_cast, hr, decide_eq_false c2, hs1, hs2, mostE, zke, List.length_append, List.length_take, List.length_drop]
        rw [zdc, zck]
        unfold zy done delK
        rw [zft K0 V.srtT (kp e.sum) (kR e.sum) hT] <;> rfl
  · rw [if_neg hT]
    simp (disch := omega) only [push_cast, zba _ _ _ _ s.things _ _ e.sum V.srtT (by omega), decide_eq_false hT, zbd]; rfl
end
end KV
end
section
namespace KV
open Go Go.Eng
open Classical
theorem zj2 (l : Rw) (h : l.length ≤ 1099511627776) : Lqb0 none [.l l] = some [.l l] := by
  rw [eqb0_i, mostE]; simp (disch := omega) only [push_cast]
section
variable {s : State} {e : Entry} (V : VS s)
include V
theorem zjr (x : Bs) (b : Int) (T : Rw) (hm : 0 ≤ e.number ∧ e.number ≤ 1000000000) :
    Lqa (some 27) [.s x, .i s.width, .i s.now, .i s.given, .i b, .i 0, .i 0, .i 0, .i 0, .i 0, .s E0, .i 0, .s E0, .s E0, .i e.kind, .s e.sum, .s e.name, .i e.number, .s e.thing.text, .l (encS e.thing.refs), .l T, .l (encP s.pins), .l (encL s.leases), .l [], .l [], .l []] =
      some [.i 0, .i 0, .i 0, .i 0, .i 0, .s x, .i (s.given + 1), .s E0, .s E0, .i s.width, .i s.now, .i (s.given + 1), .i b, .l [], .l [], .l [], .l T, .l (encP s.pins), .l (encL (s.leases ++ [⟨s.given + 1, x, s.now + e.number⟩]))] := by
  have h2 := V.nL
  rw [eqa_27]
  simp (disch := omega) only [push_cast, zg9 x s.width s.now s.given b e.kind e.sum e.name e.number e.thing.text (encS e.thing.refs) T (encP s.pins) s.leases (by omega) V.given V.now hm]
theorem zog (h : ThingOk e.thing s.width) (hm : 0 ≤ e.number ∧ e.number ≤ 1000000000) (hr : ∀ r ∈ e.thing.refs, hasT s.things r) :
    Lqa (some 7) [.b (decide (room s)), .l (encS e.thing.refs), .i (e.thing.refs.length : Int), .i (e.thing.refs.length : Int), .i s.width, .i s.now, .i s.given, .i s.births, .i e.kind, .s e.sum, .s e.name, .i e.number, .s e.thing.text, .l (encS e.thing.refs), .i 0, .i 0, .i 0, .i 0, .i 0, .s E0, .i 0, .s E0, .s E0, .l (encK s.things), .l (encP s.pins), .l (encL s.leases), .l [], .l [], .l []] = some (zy (putS s e)) := by
  have h1 := V.nT; have h2 := V.nL; have h3 := V.births
  have hw : zm s.width = true := z8.2 V.wd
  have hz := zc9 h
  have hfs := ze1 e.thing
  unfold putS
  rw [eqa_7, if_neg (by rintro ⟨r, h4, h5⟩; exact h5 (hr r h4))]
  have hl := lb_le (qK (sumM (formM e.thing) s.width)) s.things
  generalize hx : sumM (formM e.thing) s.width = x at hl
  simp (disch := omega) only [push_cast, zbi h, zbv (formM e.thing) s.width (by omega), hx, zba _ _ _ _ s.things _ _ x V.srtT (by omega)]
  by_cases hT : hasT s.things x
  · have hi := (zb2 V.srtT x).1 hT
    have hk := (V.okT _ (zj (d := K0) hi.1)).1
    rw [if_pos hT, decide_eq_true hT]
    simp (disch := omega) only [push_cast, zbi hk]
    by_cases hf : formM (nth K0 s.things (lb (qK x) s.things)).thing = formM e.thing
    · rw [if_pos hf, decide_eq_true hf]
      by_cases hro : room s
      · rw [if_pos hro, decide_eq_true hro]
        simp (disch := omega) only [push_cast]
        rw [eqa_22]
        simp (disch := omega) only [push_cast, zjr V x s.births (encK s.things) hm]; rfl
      · rw [if_neg hro, decide_eq_false hro]
        simp (disch := omega) only [push_cast, zd4]; rfl
    · rw [if_neg hf, decide_eq_false hf]
      simp (disch := omega) only [push_cast] <;> rfl
  · rw [if_neg hT, decide_eq_false hT]
    by_cases hro : room s
    · rw [decide_eq_true hro]
      by_cases c1 : s.things.length = 600
      · rw [if_neg (by omega)]
        simp (disch := omega) only [push_cast, zd4]; rfl
      · by_cases c2 : s.births = 1000000000
        · rw [if_neg (by omega)]
          simp (disch := omega) only [push_cast, zd4]; rfl
        · rw [if_pos ⟨hro, by omega, by omega⟩]
          simp (disch := omega) only [push_cast]
          have hs1 : Eng.sub (encK s.things) 0 (lb (qK x) s.things) = encK (s.things.take (lb (qK x) s.things)) := by rw [zet, zdn]
          have hs2 : Eng.sub (encK s.things) (lb (qK x) s.things) s.things.length = encK (s.things.drop (lb (qK x) s.things)) := by rw [zet, zds]
          rw [eqa_22]
          simp (disch := omega) only [push_cast, hs1, hs2, mostE, List.length_append, List.length_take, List.length_drop, Nat.beq_refl, zj2 (encS e.thing.refs) (by rw [zk]; omega)]
          rw [zkg, zck, zck, List.append_assoc]
          rw [zjr V x (s.births + 1) _ hm]; rfl
    · rw [decide_eq_false hro, if_neg (by rintro ⟨h4, _⟩; exact hro h4)]
      simp (disch := omega) only [push_cast, zd4]; rfl
theorem znu (hk : e.kind = 1) (h : ThingOk e.thing s.width) (hm : 0 ≤ e.number ∧ e.number ≤ 1000000000) : Lqa (some 4) (.b (decide (room s)) :: args4 s e) = some (zy (chg s e)) := by
  have h1 := V.nT; have h4 := h.refs
  unfold args4 chg
  rw [eqa_4, if_pos hk]
  simp (disch := omega) only [push_cast]
  have := zbx (f := fun i : Nat => Lqa (some 7) [.b (decide (room s)), .l (encS e.thing.refs), .i (e.thing.refs.length : Int), .i (i : Int), .i s.width, .i s.now, .i s.given, .i s.births, .i e.kind, .s e.sum, .s e.name, .i e.number, .s e.thing.text, .l (encS e.thing.refs), .i 0, .i 0, .i 0, .i 0, .i 0, .s E0, .i 0, .s E0, .s E0, .l (encK s.things), .l (encP s.pins), .l (encL s.leases), .l [], .l [], .l []])
    .empty (l := e.thing.refs) (p := fun r => ¬ hasT s.things r) (T := some (zy (fail s 2))) (E := Lqa (some 7) [.b (decide (room s)), .l (encS e.thing.refs), .i (e.thing.refs.length : Int), .i (e.thing.refs.length : Int), .i s.width, .i s.now, .i s.given, .i s.births, .i e.kind, .s e.sum, .s e.name, .i e.number, .s e.thing.text, .l (encS e.thing.refs), .i 0, .i 0, .i 0, .i 0, .i 0, .s E0, .i 0, .s E0, .s E0, .l (encK s.things), .l (encP s.pins), .l (encL s.leases), .l [], .l [], .l []]) (fun i hi => by
      show Lqa _ _ = cond _ _ (Lqa _ _)
      rw [eqa_7]
      simp (disch := omega) only [push_cast, zba _ _ _ _ s.things _ _ (nth .empty e.thing.refs i) V.srtT (by omega), zbd]
      by_cases hT : hasT s.things (nth .empty e.thing.refs i)
      · rw [decide_eq_true hT, decide_eq_false (not_not_intro hT)]; rfl
      · rw [decide_eq_false hT, decide_eq_true hT]; rfl) rfl
  refine this.trans ?_
  by_cases hr : ∃ r ∈ e.thing.refs, ¬ hasT s.things r
  · rw [if_pos hr]; unfold putS; rw [if_pos hr]
  · rw [if_neg hr, zog V h hm fun r hr2 => Classical.byContradiction fun h5 => hr ⟨r, hr2, h5⟩]
theorem zmd (he : zo e s.width = true) : Lqa none (encE e ++ encSt s) = some (zy (chg s e)) := by
  have h2 := V.nL; have hg := V.given
  have hnum := EntryOk.num he; have hk := EntryOk.kd he
  show Lqa none [.i e.kind, .s e.sum, .s e.name, .i e.number, .s e.thing.text, .l (encS e.thing.refs), .i s.width, .i s.now, .i s.given, .i s.births, .l (encK s.things), .l (encP s.pins), .l (encL s.leases)] = _
  have : Lqa none [.i e.kind, .s e.sum, .s e.name, .i e.number, .s e.thing.text, .l (encS e.thing.refs), .i s.width, .i s.now, .i s.given, .i s.births, .l (encK s.things), .l (encP s.pins), .l (encL s.leases)] = Lqa (some 4) (.b (decide (room s)) :: args4 s e) := by
    rw [eqa_i]
    by_cases hl : s.leases.length < 200
    · have : decide (room s) = decide (s.given < 1000000000) := decide_eq_decide.2 ⟨fun h => h.2, fun h => ⟨hl, h⟩⟩
      simp (disch := omega) only [push_cast, this]; rfl
    · rw [decide_eq_false fun h : room s => hl h.1]; simp (disch := omega) only [push_cast]; rfl
  rw [this]
  have hc : e.kind = 1 ∨ e.kind = 2 ∨ e.kind = 3 ∨ e.kind = 4 ∨ e.kind = 5 ∨ e.kind = 6 ∨ e.kind = 7 := by omega
  rcases hc with h | h | h | h | h | h | h
  · exact znu V h (EntryOk.thing he h) hnum
  · exact zou V h _
  · exact zpi V h _
  · exact zpn V h hnum
  · exact zkk V h _
  · exact zlm V h hnum _
  · exact zns V h _
end
end KV
end
section
namespace KV
open Go Go.Eng
open Classical
noncomputable def findT (T : List Kept) (x : Bs) : Int := if hasT T x then (lb (qK x) T : Int) else -1
theorem zcn (w now g b : Int) (T : List Kept) (P L : Rw) (x : Bs) (h : SrtK T) (hn : T.length ≤ 1000000) : Lqh none [.i w, .i now, .i g, .i b, .l (encK T), .l P, .l L, .s x] = some [.i (findT T x)] := by
  rw [eqh_i]
  have := zid (f := fun i : Nat => Lqh (some 2) [.s x, .i (i : Int), .i w, .i now, .i g, .i b, .l (encK T), .l P, .l L]) (l := T) (d := K0) (p := fun k => decide (k.sum = x)) (ret := fun i => some [.i (i : Int)]) (e := some [.i (-1)]) (fun i hi => by
    show Lqh _ _ = cond _ _ (Lqh _ _)
    rw [eqh_2]; simp (disch := omega) only [push_cast]) (by show Lqh _ _ = _; rw [eqh_2]; simp (disch := omega) only [push_cast])
  refine this.trans ?_
  rw [zo6 K0 h (kp x) (kR x)]
  unfold findT
  by_cases hT : hasT T x
  · rw [if_pos hT, if_pos (show ∃ a ∈ T, a.sum = x from hT)]
  · rw [if_neg hT, if_neg (show ¬ ∃ a ∈ T, a.sum = x from hT)]
theorem zdq {T : List Kept} {x : Bs} : findT T x < 0 ↔ ¬ hasT T x := by
  unfold findT; split
  · rename_i h; simp [h]
  · rename_i h; simp [h]
theorem zw (l : List Bs) (x : Bs) (h : l.length ≤ 4611686018427387904) : Lqj none [.l (encS l), .s x] = some [.b (decide (x ∈ l))] := by
  rw [eqj_i]
  have := zbx (f := fun i : Nat => Lqj (some 2) [.l (encS l), .s x, .i (i : Int)]) .empty (l := l) (p := fun r => r = x) (T := some [.b true]) (E := some [.b false]) (fun i hi => by
    show Lqj _ _ = cond _ _ (Lqj _ _)
    rw [eqj_2]; simp (disch := omega) only [push_cast]) (by show Lqj _ _ = _; rw [eqj_2]; simp (disch := omega) only [push_cast])
  refine this.trans ?_
  by_cases h : ∃ r ∈ l, r = x
  · rw [if_pos h, decide_eq_true (p := x ∈ l) (by obtain ⟨r, hr, rfl⟩ := h; exact hr)]
  · rw [if_neg h, decide_eq_false (p := x ∈ l) (fun h3 => h ⟨x, h3, rfl⟩)]
theorem zlt (s : State) (x : Bs) (h1 : s.pins.length ≤ 1000000) (h2 : s.leases.length ≤ 1000000) : Lqo none (encSt s ++ [.s x]) = some [.b (decide (held s x))] := by
  show Lqo none [.i s.width, .i s.now, .i s.given, .i s.births, .l (encK s.things), .l (encP s.pins), .l (encL s.leases), .s x] = _
  rw [eqo_i]
  have a1 := zbx (f := fun i : Nat => Lqo (some 7) [.s x, .i (i : Int), .i s.width, .i s.now, .i s.given, .i s.births, .l (encK s.things), .l (encP s.pins), .l (encL s.leases)]) L0 (l := s.leases) (p := fun l => l.sum = x) (T := some [.b true]) (E := some [.b false]) (fun i hi => by
    show Lqo _ _ = cond _ _ (Lqo _ _)
    rw [eqo_7]; simp (disch := omega) only [push_cast]) (by show Lqo _ _ = _; rw [eqo_7]; simp (disch := omega) only [push_cast])
  have a2 := zbx (f := fun i : Nat => Lqo (some 2) [.s x, .i (i : Int), .i s.width, .i s.now, .i s.given, .i s.births, .l (encK s.things), .l (encP s.pins), .l (encL s.leases)]) P0 (l := s.pins) (p := fun l => l.sum = x) (T := some [.b true]) (E := Lqo (some 7) [.s x, .i 0, .i s.width, .i s.now, .i s.given, .i s.births, .l (encK s.things), .l (encP s.pins), .l (encL s.leases)]) (fun i hi => by
    show Lqo _ _ = cond _ _ (Lqo _ _)
    rw [eqo_2]; simp (disch := omega) only [push_cast]) (by show Lqo _ _ = _; rw [eqo_2]; simp (disch := omega) only [push_cast])
  refine a2.trans ?_
  by_cases h : ∃ p ∈ s.pins, p.sum = x
  · rw [if_pos h, decide_eq_true (p := held s x) (Or.inl h)]
  · rw [if_neg h]
    refine a1.trans ?_
    by_cases h3 : ∃ l ∈ s.leases, l.sum = x
    · rw [if_pos h3, decide_eq_true (p := held s x) (Or.inr h3)]
    · rw [if_neg h3, decide_eq_false (p := held s x) (by rintro (h4 | h4); exact h h4; exact h3 h4)]
theorem zia (w now g b : Int) (T : List Kept) (P L : Rw) (hT : T.length ≤ 1000000) (hr : ∀ k ∈ T, k.thing.refs.length ≤ 1000000) (hP : P.length ≤ 1000000) (hL : L.length ≤ 1000000) :
    Lq8 none [.i w, .i now, .i g, .i b, .l (encK T), .l P, .l L] = some [.i w, .i now, .i g, .i b, .l (encK T), .l P, .l L] := by
  rw [eq8_i]
  have := zp (f := fun (i : Nat) (a : List Kept) => Lq8 (some 4) [.i (i : Int), .i w, .i now, .i g, .i b, .l (encK T), .l P, .l L, .i 0, .i 0, .i 0, .i 0, .i w, .i now, .i g, .i b, .l P, .l L, .l [], .l [], .l [], .l (encK a)]) (n := T.length) (T := some [.i w, .i now, .i g, .i b, .l (encK T), .l P, .l L])
    (I := fun i a => a = T.take i) (fun i a hi hI => ⟨a ++ [nth K0 T i], by
      show Lq8 _ _ = Lq8 _ _
      have hk := hr _ (zj (d := K0) hi)
      have hl : a.length ≤ i := by rw [hI]; simp; omega
      rw [eq8_4, mostE, ← zck]
      simp (disch := omega) only [push_cast, zmy _ (encS (nth K0 T i).thing.refs) (by rw [zk]; omega)] <;> rfl, by show a ++ [nth K0 T i] = _; rw [zbf K0 hi, hI]⟩) (fun a hI => by
      show Lq8 _ _ = _
      rw [eq8_4, mostE]
      simp (disch := omega) only [push_cast, List.nil_append]
      rw [hI, List.take_length]) 0 [] (Nat.zero_le _) rfl
  exact this
section
variable {s : State} {e : Entry} (V : VS s)
include V
theorem zd0 : ∀ k ∈ s.things, k.thing.refs.length ≤ 1000000 := fun k hk => by have := (V.okT k hk).1.refs; omega
theorem zme (x : Bs) (P L : Rw) : Lqh none [.i s.width, .i s.now, .i s.given, .i s.births, .l (encK s.things), .l P, .l L, .s x] = some [.i (findT s.things x)] := by
  have h1 := V.nT
  exact zcn _ _ _ _ _ _ _ _ V.srtT (by omega)
end
end KV
end
section
namespace KV
open Go Go.Eng
open Classical
theorem zlu {α : Type} (d : α) {l : List α} {p : α → Bool} {f : Nat → List α → Option Lv} {T : Option Lv} (step : ∀ i a, i < l.length → a.length ≤ i → f i a = f (i + 1) (if p (nth d l i) = true then a ++ [nth d l i] else a)) (last : f l.length (l.filter p) = T) : f 0 [] = T := by
  refine zp (f := f) (n := l.length) (T := T) (I := fun i a => a = (l.take i).filter p) (fun i a hi hI => ?_) (fun a hI => ?_) 0 [] (Nat.zero_le _) rfl
  · refine ⟨_, step i a hi ?_, ?_⟩
    · rw [hI]; exact Nat.le_trans (List.length_filter_le _ _) (by simp; omega)
    · rw [zbf d hi, List.filter_append, ← hI]
      by_cases h : p (nth d l i) = true
      · rw [if_pos h]; simp [h]
      · rw [if_neg h]; simp [h]
  · rw [hI, List.take_length]; exact last
end KV
end
section
namespace KV
open Go Go.Eng
open Classical
theorem EntryOk.hold {e : Entry} {w : Int} (h : zo e w = true) (hk : e.kind = 1 ∨ e.kind = 4 ∨ e.kind = 6) : 1 ≤ e.number ∧ e.number ≤ 100000 := by
  unfold zo numB at h; simp only [Bool.and_eq_true, decide_eq_true_eq] at h
  have := h.2.2.2.2.1
  rw [if_pos hk] at this
  exact of_decide_eq_true this
theorem EntryOk.name {e : Entry} {w : Int} (h : zo e w = true) (hk : e.kind = 2) : NameOk e.name := by
  unfold zo namB at h; simp only [Bool.and_eq_true, decide_eq_true_eq] at h
  have := h.2.2.2.1
  rw [if_pos (by unfold uN; simp [hk])] at this
  exact zh6.1 this
theorem zcy {k a : Kept} {l : List Kept} : a ∈ insK k l ↔ a = k ∨ a ∈ l := by
  unfold insK
  rw [List.mem_append, List.mem_cons]
  conv => rhs; rw [← List.take_append_drop (lb (qK k.sum) l) l, List.mem_append]
  constructor
  · rintro (h | h | h)
    · exact .inr (.inl h)
    · exact .inl h
    · exact .inr (.inr h)
  · rintro (h | h | h)
    · exact .inr (.inl h)
    · exact .inl h
    · exact .inr (.inr h)
theorem zjp {α : Type} {l : List α} {i : Nat} {a : α} (d : α) (h : a ∈ l.take i) : ∃ j, j < i ∧ j < l.length ∧ nth d l j = a := by
  obtain ⟨j, hj, rfl⟩ := List.mem_iff_getElem.1 h
  rw [List.length_take] at hj
  exact ⟨j, by omega, by omega, by rw [zn d l j (by omega), List.getElem_take]⟩
theorem zni {α : Type} {l : List α} {i : Nat} {a : α} (d : α) (h : a ∈ l.drop i) : ∃ j, i ≤ j ∧ j < l.length ∧ nth d l j = a := by
  obtain ⟨j, hj, rfl⟩ := List.mem_iff_getElem.1 h
  rw [List.length_drop] at hj
  exact ⟨i + j, by omega, by omega, by rw [zn d l _ (by omega), List.getElem_drop]⟩
theorem zin {α : Type} {R : α → α → Prop} {q : α → Bool} (d k : α) {l : List α} (h : l.Pairwise R) (mono : ∀ a b, R a b → q b = true → q a = true) (h1 : ∀ a, a ∈ l → q a = true → R a k) (h2 : ∀ a, a ∈ l → q a = false → R k a) (tr : ∀ a b c, R a b → R b c → R a c) : (l.take (lb q l) ++ k :: l.drop (lb q l)).Pairwise R := by
  have hd : ∀ a ∈ l.drop (lb q l), R k a := fun a ha => by
    obtain ⟨j, hj1, hj2, rfl⟩ := zni d ha
    exact h2 _ (zj hj2) (lb_hi d h mono j hj1 hj2)
  have ht : ∀ a ∈ l.take (lb q l), R a k := fun a ha => by
    obtain ⟨j, hj1, hj2, rfl⟩ := zjp d ha
    exact h1 _ (zj hj2) (lb_lt q d l j hj1)
  rw [List.pairwise_append, List.pairwise_cons]
  refine ⟨h.sublist (List.take_sublist _ _), ⟨hd, h.sublist (List.drop_sublist _ _)⟩, fun a ha b hb => ?_⟩
  rcases List.mem_cons.1 hb with rfl | hb
  · exact ht a ha
  · exact tr _ _ _ (ht a ha) (hd b hb)
theorem zo9 {k : Kept} {l : List Kept} (h : SrtK l) (hk : ¬ hasT l k.sum) : SrtK (insK k l) :=
  zin (R := fun (a b : Kept) => slt a.sum b.sum = true) (q := qK k.sum) K0 k h (fun a b hab hb => zb0 hab hb) (fun a _ ha => ha) (fun a hm ha => by
    rcases ziz.1 (show slt a.sum k.sum = false from ha) with h1 | h1
    · exact absurd ⟨a, hm, h1⟩ hk
    · exact h1) (fun a b c h1 h2 => zb0 h1 h2)
theorem zok (k : Kept) (l : List Kept) : (insK k l).length = l.length + 1 := by
  have := lb_le (qK k.sum) l
  unfold insK; simp; omega
theorem zj7 {k : Kept} {l : List Kept} {x : Bs} (h : hasT l x) : hasT (insK k l) x := by
  obtain ⟨j, h1, h2⟩ := h; exact ⟨j, zcy.2 (.inr h1), h2⟩
theorem zos {l : List Pin} (h : SrtP l) (n x : Bs) : SrtP (putP n x l) := by
  unfold putP
  split
  · rename_i hP
    have hi := (zeu h n).1 hP
    unfold SrtP at h ⊢
    rw [List.pairwise_iff_getElem] at h ⊢
    intro i j hi' hj' hij
    rw [List.length_set] at hi' hj'
    have key : ∀ i (hi' : i < l.length), ((l.set (lb (qP n) l) ⟨n, x⟩)[i]'(by rw [List.length_set]; exact hi')).name = l[i].name := fun i hi' => by
      rw [List.getElem_set]
      split
      · rename_i he
        subst he
        rw [← zn P0 l _ hi']; exact hi.2.symm
      · rfl
    rw [key i hi', key j hj']
    exact h i j hi' hj' hij
  · rename_i hP
    exact zin (R := fun (a b : Pin) => slt a.name b.name = true) (q := qP n) P0 ⟨n, x⟩ h (fun a b hab hb => zb0 hab hb) (fun a _ ha => ha) (fun a hm ha => by
      rcases ziz.1 (show slt a.name n = false from ha) with h1 | h1
      · exact absurd ⟨a, hm, h1⟩ hP
      · exact h1) (fun a b c h1 h2 => zb0 h1 h2)
theorem zox {l : List Pin} {n x : Bs} {a : Pin} (h : a ∈ putP n x l) : a = ⟨n, x⟩ ∨ a ∈ l := by
  unfold putP at h
  split at h
  · rcases List.mem_or_eq_of_mem_set h with h | h
    · exact .inr h
    · exact .inl h
  · rw [List.mem_append, List.mem_cons] at h
    rcases h with h | h | h
    · exact .inr (List.mem_of_mem_take h)
    · exact .inl h
    · exact .inr (List.mem_of_mem_drop h)
theorem zo4 (l : List Pin) (n x : Bs) : (putP n x l).length ≤ l.length + 1 ∧ (hasP l n → (putP n x l).length = l.length) := by
  have := lb_le (qP n) l
  unfold putP; split
  · simp
  · rename_i h; exact ⟨by simp; omega, fun h1 => absurd h1 h⟩
theorem zf0 {s : State} (V : VS s) {x : Bs} {m : Int} (hr : room s) (hx : hasT s.things x) (hm : 1 ≤ m ∧ m ≤ 100000) : VS (lent s x m) := by
  have hg := V.given
  obtain ⟨r1, r2⟩ := hr
  refine ⟨V.wd, V.now, ?_, V.births, V.nT, V.nP, ?_, V.srtT, V.okT, V.ndT, V.refs, V.srtP, V.okP, ?_, ?_⟩
  · show 0 ≤ s.given + 1 ∧ s.given + 1 ≤ 1000000000; omega
  · show (s.leases ++ [_]).length ≤ 200; simp; omega
  · show (s.leases ++ [_]).Pairwise _
    rw [List.pairwise_append]
    refine ⟨V.srtL, List.pairwise_singleton _ _, fun a ha b hb => ?_⟩
    rw [List.mem_singleton] at hb
    subst hb
    have := (V.okL a ha).2.1
    show a.number < s.given + 1; omega
  · intro l hl
    show 1 ≤ l.number ∧ l.number ≤ s.given + 1 ∧ hasT s.things l.sum ∧ s.now < l.till ∧ l.till ≤ s.now + 100000
    rcases List.mem_append.1 hl with h | h
    · obtain ⟨a, b, c, d⟩ := V.okL l h; exact ⟨a, by omega, c, d⟩
    · rw [List.mem_singleton] at h
      subst h
      refine ⟨?_, ?_, hx, ?_, ?_⟩ <;> simp only <;> omega
theorem zhv {s : Bs} {w : Int} (hw : 1 ≤ w ∧ w ≤ 8) : ((sumM s w).size : Int) = w := zjm (z8.2 hw)
theorem zl4 {s : State} (V : VS s) {t : Thing} (ht : ThingOk t s.width) (hx : ¬ hasT s.things (sumM (formM t) s.width)) (hr : ∀ r ∈ t.refs, hasT s.things r) (h1 : s.things.length < 600) (h2 : s.births < 1000000000) :
    VS { s with births := s.births + 1, things := insK ⟨sumM (formM t) s.width, s.births + 1, t⟩ s.things } := by
  have hb := V.births
  refine ⟨V.wd, V.now, V.given, ?_, ?_, V.nP, V.nL, zo9 V.srtT hx, ?_, ?_, ?_, V.srtP, ?_, V.srtL, ?_⟩
  · show 0 ≤ s.births + 1 ∧ s.births + 1 ≤ 1000000000; omega
  · show (insK _ _).length ≤ 600; rw [zok]; omega
  · intro k hk
    show ThingOk k.thing s.width ∧ k.sum = sumM (formM k.thing) s.width ∧ 1 ≤ k.born ∧ k.born ≤ s.births + 1
    rcases zcy.1 hk with rfl | hk
    · exact ⟨ht, rfl, by simp only; omega, by simp only; omega⟩
    · obtain ⟨a, b, c, d⟩ := V.okT k hk; exact ⟨a, b, c, by omega⟩
  · show ((insK _ _).map (·.born)).Nodup
    unfold insK
    rw [List.map_append, List.map_cons]
    have hp : (List.map (·.born) (s.things.take (lb (qK (sumM (formM t) s.width)) s.things)) ++ (s.births + 1) :: List.map (·.born) (s.things.drop (lb (qK (sumM (formM t) s.width)) s.things))).Perm ((s.births + 1) :: s.things.map (·.born)) := by
      refine List.perm_middle.trans ?_
      rw [← List.map_append, List.take_append_drop]
    rw [hp.nodup_iff, List.nodup_cons]
    refine ⟨fun hm => ?_, V.ndT⟩
    obtain ⟨k, hk, he⟩ := List.mem_map.1 hm
    have := (V.okT k hk).2.2.2; omega
  · intro k hk r hkr
    rcases zcy.1 hk with rfl | hk
    · obtain ⟨j, h3, h4⟩ := hr r hkr
      refine ⟨j, zcy.2 (.inr h3), h4, ?_⟩
      have := (V.okT j h3).2.2.2
      simp only; omega
    · obtain ⟨j, h3, h4, h5⟩ := V.refs k hk r hkr
      exact ⟨j, zcy.2 (.inr h3), h4, h5⟩
  · intro p hp; exact ⟨(V.okP p hp).1, zj7 (V.okP p hp).2⟩
  · intro l hl; obtain ⟨a, b, c, d⟩ := V.okL l hl; exact ⟨a, b, zj7 c, d⟩
theorem zdg {x : Bs} {l : List Kept} {a : Kept} : a ∈ delK x l ↔ a ∈ l ∧ a.sum ≠ x := by unfold delK; simp
theorem zm0 {s : State} (V : VS s) {x : Bs} (hh : ¬ held s x) (hr : ¬ isRef s.things x) : VS { s with things := delK x s.things } := by
  have hs : (delK x s.things).Sublist s.things := List.filter_sublist
  have keep : ∀ y, y ≠ x → hasT s.things y → hasT (delK x s.things) y := fun y hy ⟨j, h1, h2⟩ => ⟨j, zdg.2 ⟨h1, by rw [h2]; exact hy⟩, h2⟩
  refine ⟨V.wd, V.now, V.given, V.births, Nat.le_trans hs.length_le V.nT, V.nP, V.nL, V.srtT.sublist hs, fun k hk => V.okT k (zdg.1 hk).1, (V.ndT.sublist (hs.map _)), ?_, V.srtP, ?_, V.srtL, ?_⟩
  · intro k hk r hkr
    obtain ⟨j, h3, h4, h5⟩ := V.refs k (zdg.1 hk).1 r hkr
    refine ⟨j, zdg.2 ⟨h3, ?_⟩, h4, h5⟩
    rw [h4]; rintro rfl; exact hr ⟨k, (zdg.1 hk).1, hkr⟩
  · intro p hp; exact ⟨(V.okP p hp).1, keep _ (fun h => hh (.inl ⟨p, hp, h⟩)) (V.okP p hp).2⟩
  · intro l hl; obtain ⟨a, b, c, d⟩ := V.okL l hl; exact ⟨a, b, keep _ (fun h => hh (.inr ⟨l, hl, h⟩)) c, d⟩
theorem zib {s : State} (V : VS s) {e : Entry} (he : zo e s.width = true) (hc : (chg s e).code = 0) : VS (chg s e).st := by
  have hk := EntryOk.kd he
  unfold chg at hc ⊢
  split at hc
  · rename_i h1
    rw [if_pos h1]
    have hh := EntryOk.hold he (.inl h1)
    have ht := EntryOk.thing he h1
    unfold putS at hc ⊢
    split at hc
    · cases hc
    · rename_i hr
      rw [if_neg hr]
      have hr' : ∀ r ∈ e.thing.refs, hasT s.things r := fun r hr2 => Classical.byContradiction fun h5 => hr ⟨r, hr2, h5⟩
      split at hc
      · rename_i hT
        rw [if_pos hT]
        split at hc
        · rename_i hf
          rw [if_pos hf]
          split at hc
          · rename_i hro; rw [if_pos hro]; exact zf0 V hro hT hh
          · cases hc
        · cases hc
      · rename_i hT
        rw [if_neg hT]
        split at hc
        · rename_i hro
          rw [if_pos hro]
          exact zf0 (zl4 V ht hT hr' hro.2.1 hro.2.2) hro.1 ⟨_, zcy.2 (.inl rfl), rfl⟩ hh
        · cases hc
  · rename_i h1
    rw [if_neg h1]
    split at hc
    · rename_i h2
      rw [if_pos h2]
      split at hc
      · rename_i hT
        rw [if_pos hT]
        split at hc
        · rename_i hP
          rw [if_pos hP]
          have hpl := zo4 s.pins e.name e.sum
          have hn := V.nP
          refine ⟨V.wd, V.now, V.given, V.births, V.nT, ?_, V.nL, V.srtT, V.okT, V.ndT, V.refs, zos V.srtP _ _, ?_, V.srtL, V.okL⟩
          · show (putP e.name e.sum s.pins).length ≤ 100
            rcases hP with hP | hP
            · rw [hpl.2 hP]; exact hn
            · omega
          · intro p hp
            rcases zox hp with rfl | hp
            · exact ⟨EntryOk.name he h2, hT⟩
            · exact V.okP p hp
        · cases hc
      · cases hc
    · rename_i h2
      rw [if_neg h2]
      split at hc
      · rename_i h3
        rw [if_pos h3]
        split at hc
        · rename_i hP
          rw [if_pos hP]
          have hs : (delP e.name s.pins).Sublist s.pins := List.filter_sublist
          exact ⟨V.wd, V.now, V.given, V.births, V.nT, Nat.le_trans hs.length_le V.nP, V.nL, V.srtT, V.okT, V.ndT, V.refs, V.srtP.sublist hs, fun p hp => V.okP p (hs.subset hp), V.srtL, V.okL⟩
        · cases hc
      · rename_i h3
        rw [if_neg h3]
        split at hc
        · rename_i h4
          rw [if_pos h4]
          split at hc
          · rename_i hT
            rw [if_pos hT]
            split at hc
            · rename_i hro; rw [if_pos hro]; exact zf0 V hro hT (EntryOk.hold he (.inr (.inl h4)))
            · cases hc
          · cases hc
        · rename_i h4
          rw [if_neg h4]
          split at hc
          · rename_i h5
            rw [if_pos h5]
            split at hc
            · rename_i hP
              rw [if_pos hP]
              have hs : (delL e.number s.leases).Sublist s.leases := List.filter_sublist
              exact ⟨V.wd, V.now, V.given, V.births, V.nT, V.nP, Nat.le_trans hs.length_le V.nL, V.srtT, V.okT, V.ndT, V.refs, V.srtP, V.okP, V.srtL.sublist hs, fun l hl => V.okL l (hs.subset hl)⟩
            · cases hc
          · rename_i h5
            rw [if_neg h5]
            split at hc
            · rename_i h6
              rw [if_pos h6]
              split at hc
              · rename_i hn
                rw [if_pos hn]
                have hh := EntryOk.hold he (.inr (.inr h6))
                have hnow := V.now
                have hs : (s.leases.filter fun l => decide (s.now + e.number < l.till)).Sublist s.leases := List.filter_sublist
                refine ⟨V.wd, ?_, V.given, V.births, V.nT, V.nP, Nat.le_trans hs.length_le V.nL, V.srtT, V.okT, V.ndT, V.refs, V.srtP, V.okP, V.srtL.sublist hs, fun l hl => ?_⟩
                · show 0 ≤ s.now + e.number ∧ s.now + e.number ≤ 1000000000; omega
                · obtain ⟨a, b, c, d, f⟩ := V.okL l (hs.subset hl)
                  have hl2 := (List.mem_filter.1 hl).2
                  simp only [decide_eq_true_eq] at hl2
                  exact ⟨a, b, c, hl2, by show l.till ≤ s.now + e.number + 100000; omega⟩
              · cases hc
            · rename_i h6
              rw [if_neg h6]
              split at hc
              · rename_i hT
                rw [if_pos hT]
                split at hc
                · cases hc
                · rename_i hn
                  rw [if_neg hn]
                  exact zm0 V (fun h => hn (.inl h)) (fun h => hn (.inr h))
              · cases hc
theorem zm8 (s : State) (e : Entry) : (chg s e).st.width = s.width := by
  unfold chg putS fail done lent
  repeat' split
  all_goals rfl
theorem zj4 {w : Int} (hw : 1 ≤ w ∧ w ≤ 8) : VS ⟨w, 0, 0, 0, [], [], []⟩ := by
  refine ⟨hw, by simp, by simp, by simp, by simp, by simp, by simp, List.Pairwise.nil, (fun k hk => by cases hk), List.nodup_nil, (fun k hk => by cases hk), List.Pairwise.nil, (fun k hk => by cases hk), List.Pairwise.nil, (fun k hk => by cases hk)⟩
end KV
end
section
namespace KV
open Go Go.Eng
open Classical
def empty (w : Int) : State := ⟨w, 0, 0, 0, [], [], []⟩
noncomputable def runL (w : Int) : State → List Bs → Nat → State ⊕ Nat
  | s, [], _ => .inl s
  | s, x :: l, i => match readE x w with
    | none => .inr (i + 1)
    | some e => if (chg s e).code = 0 then runL w (chg s e).st l (i + 1) else .inr (i + 1)
theorem zf1 {w : Int} : ∀ (l : List Bs) (s : State) (i : Nat) (s' : State), VS s → s.width = w → runL w s l i = .inl s' → VS s' ∧ s'.width = w
  | [], s, i, s', V, hw, h => by simp only [runL] at h; cases h; exact ⟨V, hw⟩
  | x :: l, s, i, s', V, hw, h => by
    simp only [runL] at h
    split at h
    · cases h
    · rename_i e he
      split at h
      · rename_i hc
        have hE := (zlv he).2
        rw [← hw] at hE
        exact zf1 l _ _ _ (zib V hE hc) ((zm8 s e).trans hw) h
      · cases h
structure LogOk (a b : List Bs) : Prop where
  sa : ∀ x ∈ a, x.size ≤ 5000
  sb : ∀ x ∈ b, x.size ≤ 5000
  n : a.length + b.length ≤ 4000
end KV
end
section
namespace KV
open Go Go.Eng
open Classical
structure Round where
  phase : Int
  queue : List Bs
  marked : List Bs
  top : Int
  at_ : Int
  rounds : Int
def R0 : Round := ⟨0, [], [], 0, 0, 0⟩
def encR (r : Round) : Lv := [.i r.phase, .l (encS r.queue), .l (encS r.marked), .i r.top, .i r.at_, .i r.rounds]
structure RoundOk (w births : Int) (r : Round) : Prop where
  ph : 0 ≤ r.phase ∧ r.phase ≤ 2
  rds : 0 ≤ r.rounds ∧ r.rounds ≤ 1000000000
  nQ : r.queue.length ≤ 23200
  nM : r.marked.length ≤ 600
  szM : ∀ x ∈ r.marked, (x.size : Int) = w
  ndM : r.marked.Nodup
  szQ : ∀ x ∈ r.queue, (x.size : Int) = w
  rest : r.phase = 0 → r.queue = [] ∧ r.marked = [] ∧ r.top = 0 ∧ r.at_ = 0
  go : r.phase ≠ 0 → 0 ≤ r.top ∧ r.top ≤ births ∧ 1 ≤ r.at_ ∧ r.at_ ≤ r.top + 1 ∧ (r.phase = 1 → r.at_ = r.top + 1)
theorem zbw (n : Int) : Lqbw none [.i n] = some [.b (decide (0 ≤ n ∧ n ≤ 1000000000))] := by
  rw [eqbw_i]
  by_cases h : 0 ≤ n
  · simp (disch := omega) only [push_cast]; congr 3; exact decide_eq_decide.2 ⟨fun h1 => ⟨h, h1⟩, fun h1 => h1.2⟩
  · simp (disch := omega) only [push_cast]; rw [decide_eq_false (p := 0 ≤ n ∧ n ≤ 1000000000) fun h1 => h h1.1]
theorem zl (n a b : Int) : Lqx none [.i n, .i a, .i b] = some [.b (decide (a ≤ n ∧ n ≤ b))] := by
  rw [eqx_i]
  by_cases h : a ≤ n
  · simp (disch := omega) only [push_cast]; congr 3; exact decide_eq_decide.2 ⟨fun h1 => ⟨h, h1⟩, fun h1 => h1.2⟩
  · simp (disch := omega) only [push_cast]; rw [decide_eq_false (p := a ≤ n ∧ n ≤ b) fun h1 => h h1.1]
def setM (ks : List Bs) : List (C × C) := ks.map fun k => (.s k, .b true)
theorem ceq_s (x y : Bs) : ceq .s (.s x) (.s y) = decide (x = y) := by
  show (x.data == y.data) = _
  by_cases h : x = y
  · subst h; simp
  · rw [decide_eq_false h, beq_eq_false_iff_ne]
    intro e; apply h; cases x; cases y; exact congrArg _ e
theorem zil (x : Bs) : ∀ ks : List Bs, mget .s (.s x) (setM ks) = if x ∈ ks then some (.b true) else none
  | [] => by simp [setM, mget]
  | k :: ks => by
    show cond (ceq .s (.s x) (.s k)) (some (.b true)) (mget .s (.s x) (setM ks)) = _
    rw [ceq_s, zil x ks]
    by_cases h : x = k
    · subst h; simp
    · simp [h]
theorem zfx (x : Bs) : ∀ ks : List Bs, x ∉ ks → mput .s (.s x) (.b true) (setM ks) = setM (ks ++ [x])
  | [], _ => by simp [setM, mput]
  | k :: ks, h => by
    show cond (ceq .s (.s x) (.s k)) _ _ = _
    rw [ceq_s, decide_eq_false (fun e => h (by rw [e]; simp)), cond_false]
    show (C.s k, C.b true) :: mput .s (.s x) (.b true) (setM ks) = _
    rw [zfx x ks (fun e => h (by simp [e]))]; rfl
theorem inM (x : Bs) (ks : List Bs) : (((mget .s (.s x) (setM ks)).getD (.b false)).bool) = decide (x ∈ ks) := by
  rw [zil]
  by_cases h : x ∈ ks
  · rw [if_pos h, decide_eq_true h]; rfl
  · rw [if_neg h, decide_eq_false h]; rfl
def mkP (w : Int) (m : List Bs) (j : Nat) : Prop := ((nth .empty m j).size : Int) = w ∧ nth .empty m j ∉ m.take j
theorem zer (w : Int) (m : List Bs) : (∀ j, 0 ≤ j → j < m.length → mkP w m j) ↔ (∀ x ∈ m, (x.size : Int) = w) ∧ m.Nodup := by
  have hnd : m.Nodup ↔ ∀ j, 0 ≤ j → j < m.length → nth .empty m j ∉ m.take j := by
    constructor
    · intro h j _ hj hm
      obtain ⟨i, h1, h2, h3⟩ := zjp .empty hm
      have := zd8 (R := fun a b => a ≠ b) .empty h h1 hj
      exact this h3
    · intro h
      rw [List.Nodup, List.pairwise_iff_getElem]
      intro i j hi hj hij he
      apply h j (Nat.zero_le _) hj
      rw [zn _ _ _ hj, ← he]
      exact List.mem_take_iff_getElem.2 ⟨i, by omega, rfl⟩
  rw [hnd]
  constructor
  · intro h
    refine ⟨fun x hx => ?_, fun j h1 h2 => (h j h1 h2).2⟩
    obtain ⟨i, hi, rfl⟩ := zbr .empty hx
    exact (h i (Nat.zero_le _) hi).1
  · rintro ⟨h1, h2⟩ j h3 h4; exact ⟨h1 _ (zj h4), h2 j h3 h4⟩
theorem zee (w : Int) (m : List Bs) : (∀ j, 0 ≤ j → j < m.length → ((nth .empty m j).size : Int) = w) ↔ ∀ x ∈ m, (x.size : Int) = w := by
  constructor
  · intro h x hx
    obtain ⟨i, hi, rfl⟩ := zbr .empty hx
    exact h i (Nat.zero_le _) hi
  · intro h j _ hj; exact h _ (zj hj)
noncomputable def lastB (births : Int) (r : Round) : Bool := if r.phase = 0 then decide (r.queue = [] ∧ r.marked = [] ∧ r.top = 0 ∧ r.at_ = 0) else decide (0 ≤ r.top ∧ r.top ≤ births ∧ 1 ≤ r.at_ ∧ r.at_ ≤ r.top + 1 ∧ (r.phase = 1 → r.at_ = r.top + 1))
theorem zkc (w births : Int) (r : Round) : RoundOk w births r ↔ (0 ≤ r.phase ∧ r.phase ≤ 2) ∧ (0 ≤ r.rounds ∧ r.rounds ≤ 1000000000) ∧ r.queue.length ≤ 23200 ∧ r.marked.length ≤ 600 ∧ ((∀ x ∈ r.marked, (x.size : Int) = w) ∧ r.marked.Nodup) ∧ (∀ x ∈ r.queue, (x.size : Int) = w) ∧ lastB births r = true := by
  unfold lastB
  constructor
  · intro h
    refine ⟨h.ph, h.rds, h.nQ, h.nM, ⟨h.szM, h.ndM⟩, h.szQ, ?_⟩
    split
    · rename_i h0; exact decide_eq_true (h.rest h0)
    · rename_i h0; exact decide_eq_true (h.go h0)
  · rintro ⟨a, b, c, d, ⟨e1, e2⟩, f, h⟩
    refine ⟨a, b, c, d, e1, e2, f, fun h0 => ?_, fun h0 => ?_⟩
    · rw [if_pos h0] at h; exact of_decide_eq_true h
    · rw [if_neg h0] at h; exact of_decide_eq_true h
theorem zmg (s : State) (r : Round) (hb : 0 ≤ s.births ∧ s.births ≤ 1000000000) : Lqm none (encR r ++ encSt s) = some [.b (decide (RoundOk s.width s.births r))] := by
  show Lqm none [.i r.phase, .l (encS r.queue), .l (encS r.marked), .i r.top, .i r.at_, .i r.rounds, .i s.width, .i s.now, .i s.given, .i s.births, .l (encK s.things), .l (encP s.pins), .l (encL s.leases)] = _
  rw [eqm_i]
  have hri := zkc s.width s.births r
  have no : ∀ p : Prop, (RoundOk s.width s.births r → p) → ¬ p → decide (RoundOk s.width s.births r) = false := fun p h1 h2 => decide_eq_false fun h3 => h2 (h1 h3)
  by_cases h1 : 0 ≤ r.phase
  rotate_left; · rw [no _ (fun h => h.ph.1) h1]; simp (disch := omega) only [push_cast]
  by_cases h2 : r.phase ≤ 2
  rotate_left; · rw [no _ (fun h => h.ph.2) h2]; simp (disch := omega) only [push_cast]
  by_cases h3 : 0 ≤ r.rounds ∧ r.rounds ≤ 1000000000
  rotate_left; · rw [no _ (fun h => h.rds) h3]; simp (disch := omega) only [push_cast, zbw]
  by_cases h4 : r.queue.length ≤ 23200
  rotate_left; · rw [no _ (fun h => h.nQ) h4]; simp (disch := omega) only [push_cast, zbw]
  by_cases h5 : r.marked.length ≤ 600
  rotate_left; · rw [no _ (fun h => h.nM) h5]; simp (disch := omega) only [push_cast, zbw]
  simp (disch := omega) only [push_cast, zbw]
  have l2 := zt (f := fun i : Nat => Lqm (some 12) [.l (encS r.queue), .i (r.queue.length : Int), .i (i : Int), .i s.width, .i s.now, .i s.given, .i s.births, .l (encK s.things), .l (encP s.pins), .l (encL s.leases), .i r.phase, .l (encS r.queue), .l (encS r.marked), .i r.top, .i r.at_, .i r.rounds])
    (P := fun j => ((nth .empty r.queue j).size : Int) = s.width) (n := r.queue.length) (T := some [.b (lastB s.births r)]) (F := some [.b false]) (fun i hi => by
      show (_ → Lqm _ _ = _) ∧ (_ → Lqm _ _ = _)
      rw [eqm_12]
      by_cases hc : ((nth .empty r.queue i).size : Int) = s.width <;> simp (disch := omega) only [push_cast] <;> simp [hc]) (by
      show Lqm _ _ = _
      rw [eqm_12]
      unfold lastB
      by_cases c0 : r.phase = 0
      · rw [if_pos c0]
        by_cases c1 : r.queue.length + r.marked.length = 0
        · have q0 : r.queue = [] := List.eq_nil_of_length_eq_zero (by omega)
          have m0 : r.marked = [] := List.eq_nil_of_length_eq_zero (by omega)
          rw [q0, m0]
          by_cases c2 : r.top = 0
          · simp (disch := omega) only [push_cast]; simp [c2]
          · simp (disch := omega) only [push_cast]; simp [c2]
        · have : ¬ (r.queue = [] ∧ r.marked = [] ∧ r.top = 0 ∧ r.at_ = 0) := by rintro ⟨h, h', _⟩; exact c1 (by rw [h, h']; rfl)
          simp (disch := omega) only [push_cast]; rw [decide_eq_false this]
      · rw [if_neg c0]
        by_cases c1 : 0 ≤ r.top
        · by_cases c2 : r.top ≤ s.births
          · by_cases c3 : 1 ≤ r.at_
            · by_cases c4 : r.at_ ≤ r.top + 1
              · by_cases c5 : r.phase = 1
                · simp (disch := omega) only [push_cast]; congr 3; exact decide_eq_decide.2 ⟨fun h => ⟨c1, c2, c3, c4, fun _ => h⟩, fun h => h.2.2.2.2 c5⟩
                · simp (disch := omega) only [push_cast]; rw [decide_eq_true (p := 0 ≤ r.top ∧ r.top ≤ s.births ∧ 1 ≤ r.at_ ∧ r.at_ ≤ r.top + 1 ∧ (r.phase = 1 → r.at_ = r.top + 1)) ⟨c1, c2, c3, c4, fun h => absurd h c5⟩]
              · simp (disch := omega) only [push_cast]; rw [decide_eq_false fun h => c4 h.2.2.2.1]
            · simp (disch := omega) only [push_cast]; rw [decide_eq_false fun h => c3 h.2.2.1]
          · simp (disch := omega) only [push_cast]; rw [decide_eq_false fun h => c2 h.2.1]
        · simp (disch := omega) only [push_cast]; rw [decide_eq_false fun h => c1 h.1]) 0 (Nat.zero_le _)
  have l1 := zt (f := fun i : Nat => Lqm (some 5) [.l (encS r.marked), .i (r.marked.length : Int), .i (i : Int), .i s.width, .i s.now, .i s.given, .i s.births, .l (encK s.things), .l (encP s.pins), .l (encL s.leases), .i r.phase, .l (encS r.queue), .l (encS r.marked), .i r.top, .i r.at_, .i r.rounds, .m (setM (r.marked.take i))])
    (P := mkP s.width r.marked) (n := r.marked.length) (T := Lqm (some 12) [.l (encS r.queue), .i (r.queue.length : Int), .i 0, .i s.width, .i s.now, .i s.given, .i s.births, .l (encK s.things), .l (encP s.pins), .l (encL s.leases), .i r.phase, .l (encS r.queue), .l (encS r.marked), .i r.top, .i r.at_, .i r.rounds]) (F := some [.b false]) (fun i hi => by
      show (_ → Lqm _ _ = _) ∧ (_ → Lqm _ _ = _)
      rw [eqm_5]
      unfold mkP
      by_cases hc : ((nth .empty r.marked i).size : Int) = s.width
      · by_cases hm : nth .empty r.marked i ∈ r.marked.take i
        · simp (disch := omega) only [push_cast, inM, decide_eq_true hm]; simp [hm]
        · simp (disch := omega) only [push_cast, inM, decide_eq_false hm]; rw [zfx _ _ hm, ← zbf .empty hi]; simp [hm, hc]
      · simp (disch := omega) only [push_cast]; simp [hc]) (by show Lqm _ _ = _; rw [eqm_5]; simp (disch := omega) only [push_cast]) 0 (Nat.zero_le _)
  refine l1.trans ?_
  rw [show Lqm (some 12) [.l (encS r.queue), .i (r.queue.length : Int), .i 0, .i s.width, .i s.now, .i s.given, .i s.births, .l (encK s.things), .l (encP s.pins), .l (encL s.leases), .i r.phase, .l (encS r.queue), .l (encS r.marked), .i r.top, .i r.at_, .i r.rounds] = _ from l2]
  split
  · rename_i hM
    rw [zer] at hM
    split
    · rename_i hQ
      rw [zee] at hQ
      cases hl : lastB s.births r
      · rw [no _ (fun h => ((hri.1 h).2.2.2.2.2.2)) (by rw [hl]; simp)]
      · rw [decide_eq_true (hri.2 ⟨⟨h1, h2⟩, h3, h4, h5, hM, hQ, hl⟩)]
    · rename_i hQ
      rw [zee] at hQ
      rw [no _ (fun h => h.szQ) hQ]
  · rename_i hM
    rw [zer] at hM
    rw [no _ (fun h => ⟨h.szM, h.ndM⟩) hM]
end KV
end
section
namespace KV
open Go Go.Eng
open Classical
theorem zoi (w now g b : Int) (T : List Kept) (P L : Rw) (hT : T.length ≤ 1099511627775) (hr : ∀ k ∈ T, k.thing.refs.length ≤ 1099511627776) (hP : P.length ≤ 1099511627776) (hL : L.length ≤ 1099511627776) :
    Lqbp none [.i w, .i now, .i g, .i b, .l (encK T), .l P, .l L] = some [.i w, .i now, .i g, .i b, .l (encK T), .l P, .l L] := by
  rw [eqbp_i, zbj]
  have := zp (f := fun (i : Nat) (a : List Kept) => Lqbp (some 4) [.l (encK T), .i (T.length : Int), .i (i : Int), .i w, .i now, .i g, .i b, .l P, .l L, .i 0, .i 0, .i 0, .i 0, .l (encK a), .l [], .l [], .l []]) (n := T.length) (T := some [.i w, .i now, .i g, .i b, .l (encK T), .l P, .l L])
    (I := fun i a => a = T.take i) (fun i a hi hI => ⟨a ++ [nth K0 T i], by
      show Lqbp _ _ = Lqbp _ _
      have hk := hr _ (zj (d := K0) hi)
      have hl : a.length ≤ i := by rw [hI]; simp; omega
      rw [eqbp_4, mostE, ← zck]
      simp (disch := omega) only [push_cast, zj2 (encS (nth K0 T i).thing.refs) (by rw [zk]; omega)] <;> rfl, by show a ++ [nth K0 T i] = _; rw [zbf K0 hi, hI]⟩) (fun a hI => by
      show Lqbp _ _ = _
      rw [eqbp_4, mostE]
      simp (disch := omega) only [push_cast]
      rw [hI, List.take_length]) 0 [] (Nat.zero_le _) rfl
  exact this
def encRo (r : Round) : Lv := [.i r.phase, .i r.top, .i r.at_, .i r.rounds, .l (encS r.queue), .l (encS r.marked)]
theorem zkx (r : Round) (h1 : r.queue.length ≤ 1099511627776) (h2 : r.marked.length ≤ 1099511627776) : Lqcc none (encR r) = some (encRo r) := by
  unfold encR encRo
  rw [eqcc_i, zie _ (by rw [zk]; exact h1), zie _ (by rw [zk]; exact h2)]; simp (disch := omega) only [push_cast]
structure Vault where
  width : Int
  limit : Int
  safe : List Bs
  loose : List Bs
  st : State
  rd : Round
def V0 : Vault := ⟨0, 0, [], [], ⟨0, 0, 0, 0, [], [], []⟩, R0⟩
structure VV (v : Vault) : Prop where
  wd : zm v.width = true
  lim : 0 ≤ v.limit ∧ v.limit ≤ 1000000
  log : LogOk v.safe v.loose
  run : runL v.width (empty v.width) (v.safe ++ v.loose) 0 = .inl v.st
  rd : RoundOk v.st.width v.st.births v.rd
theorem VV.vs {v : Vault} (h : VV v) : VS v.st ∧ v.st.width = v.width := zf1 _ _ _ _ (zj4 (z8.1 h.wd)) rfl h.run
theorem zcb (l : List Bs) (x : Bs) (h : l.length ≤ 4611686018427387904) : Lq6 none [.l (encS l), .s x] = some [.b (decide (x ∈ l))] := by
  rw [eq6_i, zk]
  have := zbx (f := fun i : Nat => Lq6 (some 2) [.s x, .l (encS l), .i (l.length : Int), .i (i : Int)]) .empty (l := l) (p := fun r => x = r) (T := some [.b true]) (E := some [.b false]) (fun i hi => by
    show Lq6 _ _ = cond _ _ (Lq6 _ _)
    rw [eq6_2]; simp (disch := omega) only [push_cast]) (by show Lq6 _ _ = _; rw [eq6_2]; simp (disch := omega) only [push_cast])
  refine this.trans ?_
  by_cases h : ∃ r ∈ l, x = r
  · rw [if_pos h, decide_eq_true (p := x ∈ l) (by obtain ⟨r, hr, rfl⟩ := h; exact hr)]
  · rw [if_neg h, decide_eq_false (p := x ∈ l) (fun h3 => h ⟨x, h3, rfl⟩)]
end KV
end
section
namespace KV
open Go Go.Eng
open Classical
def BigTs (l : List Bs) : Prop := l.length ≤ 140737488351232 ∧ ∀ x ∈ l, x.size ≤ 140737488351232
theorem zo1 (r : Round) (B : BigTs r.queue ∧ BigTs r.marked) (left : Int) (h0 : 0 ≤ left) (h1 : left ≤ 1048576) : ∃ y, Lqcj none [.i r.phase, .l (encS r.queue), .l (encS r.marked), .i r.top, .i r.at_, .i r.rounds, .i left] = some [.i y] ∧ y ≤ left ∧ (0 ≤ y → r.queue.length ≤ 1048576 ∧ r.marked.length ≤ 1048576) := by
  rw [eqcj_i]
  obtain ⟨y1, a1, a2, a3⟩ := zfn r.queue left h0 h1 B.1.1 B.1.2
  by_cases c1 : y1 < 0
  · exact ⟨-1, by simp (disch := omega) only [push_cast, a1], by omega, fun h => by omega⟩
  obtain ⟨y2, b1, b2, b3⟩ := zfn r.marked y1 (by omega) (by omega) B.2.1 B.2.2
  by_cases c2 : y2 < 0
  · exact ⟨-1, by simp (disch := omega) only [push_cast, a1, b1], by omega, fun h => by omega⟩
  refine ⟨y2, by simp (disch := omega) only [push_cast, a1, b1], by omega, fun _ => ?_⟩
  have e1 := a3 (by omega); have e2 := b3 (by omega)
  omega
theorem zoy {r : Round} (h : r.queue.length ≤ 1048576 ∧ r.marked.length ≤ 1048576) : Lqb2 none [.i r.phase, .l (encS r.queue), .l (encS r.marked), .i r.top, .i r.at_, .i r.rounds] = some [.i r.phase, .i r.top, .i r.at_, .i r.rounds, .l (encS r.queue), .l (encS r.marked)] := by
  rw [eqb2_i]; simp (disch := omega) only [push_cast, zhq r.queue (by omega), zhq r.marked (by omega)]
theorem zka (a b c d : Int) (Q M : Rw) (h1 : Q.length ≤ 4611686018427387904) (h2 : M.length ≤ 4611686018427387904) : Lqby none [.i a, .l Q, .l M, .i b, .i c, .i d, .i a, .l Q, .l M, .i b, .i c, .i d] = some [.b true] := by
  rw [eqby_i]; simp (disch := omega) only [push_cast, zeo Q h1, zeo M h2]
def zju (k : Int) (Q M Q' M' : Rw) : Prop := (Q'.length = Q.length ∧ MarkS k Q') ∧ M'.length = M.length ∧ MarkS (k + (Q.length : Int)) M'
theorem zhk (a b c d : Int) (Q M : Rw) (k : Int) (hk : 0 ≤ k) (hb : k + ((Q.length : Int) + (M.length : Int)) ≤ 100000000000000000) : ∃ Q' M', Lqbz none [.i a, .i b, .i c, .i d, .i k, .l Q, .l M] = some [.i (k + ((Q.length : Int) + (M.length : Int))), .l Q', .l M'] ∧ zju k Q M Q' M' := by
  obtain ⟨Q', q1, q2, q3⟩ := zdy Q k hk (by omega)
  obtain ⟨M', m1, m2, m3⟩ := zdy M (k + (Q.length : Int)) (by omega) (by omega)
  refine ⟨Q', M', ?_, ⟨q2, q3⟩, m2, m3⟩
  rw [eqbz_i, show k + ((Q.length : Int) + (M.length : Int)) = k + (Q.length : Int) + (M.length : Int) by omega]; simp (disch := omega) only [push_cast, q1, m1]
theorem zpf (a b c d : Int) {Q M Q' M' : Rw} {k : Int} (hk : 0 ≤ k) (hb : k + ((Q.length : Int) + (M.length : Int)) ≤ 100000000000000000) (h : zju k Q M Q' M') : Lqco none [.i a, .l Q', .l M', .i b, .i c, .i d, .i k] = some [.i (k + ((Q.length : Int) + (M.length : Int)))] := by
  obtain ⟨⟨q2, q3⟩, m2, m3⟩ := h
  have h1 := zeq hk (by rw [q2]; omega) q3
  rw [q2] at h1
  have h2 := zeq (k := k + (Q.length : Int)) (by omega) (by rw [m2]; omega) m3
  rw [m2] at h2
  rw [eqco_i, show k + ((Q.length : Int) + (M.length : Int)) = k + (Q.length : Int) + (M.length : Int) by omega]; simp (disch := omega) only [push_cast, h1, h2]
end KV
end
section
namespace KV
open Go Go.Eng
open Classical
theorem zdu {α : Type} {f : α → List C} {Q : α → Prop} : ∀ {xs : Rw}, (∀ r ∈ xs, ∃ a, r = f a ∧ Q a) → ∃ l : List α, xs = l.map f ∧ ∀ a ∈ l, Q a
  | [], _ => ⟨[], rfl, fun a h => by simp at h⟩
  | r :: xs, h => by
    obtain ⟨a, rfl, ha⟩ := h r (by simp)
    obtain ⟨l, rfl, hl⟩ := zdu (xs := xs) fun r hr => h r (by simp [hr])
    exact ⟨a :: l, rfl, fun b hb => by rcases List.mem_cons.1 hb with rfl | hb; exact ha; exact hl b hb⟩
section
variable {P : Program}
abbrev B47 : Nat := 140737488351232
theorem dec_l {e : TypeId} {c : C} (h : Ty P B47 (.sl e) c) : ∃ xs, c = .l xs ∧ xs.length ≤ B47 ∧ (∀ r ∈ xs, r.length = (kinds P 8 e).length) ∧ ∀ r ∈ xs, ∀ (o : Nat) (k : CK) (c : C), (kinds P 8 e)[o]? = some k → r[o]? = some c → Ty P B47 k c := by
  cases h with
  | l e xs hl hn h => exact ⟨xs, rfl, hl, hn, h⟩
theorem dec_s {c : C} (h : Ty P B47 .s c) : ∃ x : Bs, c = .s x ∧ x.size ≤ B47 := by cases h with | s x h => exact ⟨x, rfl, h⟩
theorem dec_i {k : IntKind} {c : C} (h : Ty P B47 (.i k) c) : ∃ x : Int, c = .i x := by cases h with | i k x h => exact ⟨x, rfl⟩
theorem decS {e : TypeId} (hk : kinds P 8 e = [.s]) {c : C} (h : Ty P B47 (.sl e) c) : ∃ l : List Bs, c = .l (encS l) ∧ l.length ≤ B47 ∧ ∀ x ∈ l, x.size ≤ B47 := by
  obtain ⟨xs, rfl, h1, h2, h3⟩ := dec_l h
  rw [hk] at h2 h3
  obtain ⟨l, rfl, hl⟩ := zdu (f := fun x : Bs => [.s x]) (Q := fun x => x.size ≤ B47) fun r hr => by
    have := h2 r hr
    match r, this with
    | [c], _ =>
      obtain ⟨x, rfl, hx⟩ := dec_s (h3 _ hr 0 .s c rfl rfl)
      exact ⟨x, rfl, hx⟩
  exact ⟨l, rfl, by simpa using h1, hl⟩
theorem decK {e e9 : TypeId} {k : IntKind} (hk : kinds P 8 e = [.s, .i k, .s, .sl e9]) (h9 : kinds P 8 e9 = [.s]) {c : C} (h : Ty P B47 (.sl e) c) : ∃ l : List Kept, c = .l (encK l) ∧ l.length ≤ B47 ∧ ∀ x ∈ l, BigK x := by
  obtain ⟨xs, rfl, h1, h2, h3⟩ := dec_l h
  rw [hk] at h2 h3
  obtain ⟨l, rfl, hl⟩ := zdu (f := cK) (Q := BigK) fun r hr => by
    have := h2 r hr
    match r, this with
    | [a, b, c, d], _ =>
      obtain ⟨a, rfl, ha⟩ := dec_s (h3 _ hr 0 .s a rfl rfl)
      obtain ⟨b, rfl⟩ := dec_i (h3 _ hr 1 _ b rfl rfl)
      obtain ⟨c, rfl, hc⟩ := dec_s (h3 _ hr 2 .s c rfl rfl)
      obtain ⟨d, rfl, hd, he⟩ := decS h9 (h3 _ hr 3 _ d rfl rfl)
      exact ⟨⟨a, b, ⟨c, d⟩⟩, rfl, ha, hc, hd, he⟩
  exact ⟨l, rfl, by simpa using h1, hl⟩
theorem decP {e : TypeId} (hk : kinds P 8 e = [.s, .s]) {c : C} (h : Ty P B47 (.sl e) c) : ∃ l : List Pin, c = .l (encP l) ∧ l.length ≤ B47 ∧ ∀ x ∈ l, x.name.size ≤ B47 ∧ x.sum.size ≤ B47 := by
  obtain ⟨xs, rfl, h1, h2, h3⟩ := dec_l h
  rw [hk] at h2 h3
  obtain ⟨l, rfl, hl⟩ := zdu (f := cP) (Q := fun x => x.name.size ≤ B47 ∧ x.sum.size ≤ B47) fun r hr => by
    have := h2 r hr
    match r, this with
    | [a, b], _ =>
      obtain ⟨a, rfl, ha⟩ := dec_s (h3 _ hr 0 .s a rfl rfl)
      obtain ⟨b, rfl, hb⟩ := dec_s (h3 _ hr 1 .s b rfl rfl)
      exact ⟨⟨a, b⟩, rfl, ha, hb⟩
  exact ⟨l, rfl, by simpa using h1, hl⟩
theorem decL {e : TypeId} {k k' : IntKind} (hk : kinds P 8 e = [.i k, .s, .i k']) {c : C} (h : Ty P B47 (.sl e) c) : ∃ l : List Lease, c = .l (encL l) ∧ l.length ≤ B47 ∧ ∀ x ∈ l, x.sum.size ≤ B47 := by
  obtain ⟨xs, rfl, h1, h2, h3⟩ := dec_l h
  rw [hk] at h2 h3
  obtain ⟨l, rfl, hl⟩ := zdu (f := cL) (Q := fun x => x.sum.size ≤ B47) fun r hr => by
    have := h2 r hr
    match r, this with
    | [a, b, c], _ =>
      obtain ⟨a, rfl⟩ := dec_i (h3 _ hr 0 _ a rfl rfl)
      obtain ⟨b, rfl, hb⟩ := dec_s (h3 _ hr 1 .s b rfl rfl)
      obtain ⟨c, rfl⟩ := dec_i (h3 _ hr 2 _ c rfl rfl)
      exact ⟨⟨a, b, c⟩, rfl, hb⟩
  exact ⟨l, rfl, by simpa using h1, hl⟩
def stC (s : State) : List C := [.i s.width, .i s.now, .i s.given, .i s.births, .l (encK s.things), .l (encP s.pins), .l (encL s.leases)]
theorem decSt {k1 k2 k3 k4 k5 k6 k7 : IntKind} {eK eP eL e9 : TypeId} (hK : kinds P 8 eK = [.s, .i k5, .s, .sl e9]) (h9 : kinds P 8 e9 = [.s]) (hP : kinds P 8 eP = [.s, .s]) (hL : kinds P 8 eL = [.i k6, .s, .i k7]) {ks : List CK} {xs : List C}
    (h : F2 (Ty P B47) (.i k1 :: .i k2 :: .i k3 :: .i k4 :: .sl eK :: .sl eP :: .sl eL :: ks) xs) : ∃ s ys, xs = stC s ++ ys ∧ BigS s ∧ F2 (Ty P B47) ks ys := by
  cases h with | cons a h =>
  cases h with | cons b h =>
  cases h with | cons c h =>
  cases h with | cons d h =>
  cases h with | cons x h =>
  cases h with | cons y h =>
  cases h with | cons z h =>
  obtain ⟨a', rfl⟩ := dec_i a
  obtain ⟨b', rfl⟩ := dec_i b
  obtain ⟨c', rfl⟩ := dec_i c
  obtain ⟨d', rfl⟩ := dec_i d
  obtain ⟨x', rfl, x1, x2⟩ := decK hK h9 x
  obtain ⟨y', rfl, y1, y2⟩ := decP hP y
  obtain ⟨z', rfl, z1, z2⟩ := decL hL z
  exact ⟨⟨a', b', c', d', x', y', z'⟩, _, rfl, ⟨x1, y1, z1, x2, y2, z2⟩, h⟩
def BigL (l : List Bs) : Prop := l.length ≤ 140737488351232 ∧ ∀ x ∈ l, x.size ≤ 140737488351232
def rdC (r : Round) : List C := [.i r.phase, .l (encS r.queue), .l (encS r.marked), .i r.top, .i r.at_, .i r.rounds]
theorem decRd {k1 k2 k3 k4 : IntKind} {e9 : TypeId} (h9 : kinds P 8 e9 = [.s]) {ks : List CK} {xs : List C}
    (h : F2 (Ty P B47) (.i k1 :: .sl e9 :: .sl e9 :: .i k2 :: .i k3 :: .i k4 :: ks) xs) : ∃ r ys, xs = rdC r ++ ys ∧ (BigL r.queue ∧ BigL r.marked) ∧ F2 (Ty P B47) ks ys := by
  cases h with | cons a h =>
  cases h with | cons x h =>
  cases h with | cons y h =>
  cases h with | cons b h =>
  cases h with | cons c h =>
  cases h with | cons d h =>
  obtain ⟨a', rfl⟩ := dec_i a
  obtain ⟨b', rfl⟩ := dec_i b
  obtain ⟨c', rfl⟩ := dec_i c
  obtain ⟨d', rfl⟩ := dec_i d
  obtain ⟨x', rfl, x1, x2⟩ := decS h9 x
  obtain ⟨y', rfl, y1, y2⟩ := decS h9 y
  exact ⟨⟨a', x', y', b', c', d'⟩, _, rfl, ⟨⟨x1, x2⟩, ⟨y1, y2⟩⟩, h⟩
theorem zoq {xs : List C} (h : F2 (Ty P B47) [] xs) : xs = [] := by cases h; rfl
end
end KV
end
section
namespace KV
open Go Go.Eng
open Classical
structure Few (s : State) : Prop where
  nT : s.things.length ≤ 2000
  nP : s.pins.length ≤ 2000
  nL : s.leases.length ≤ 2000
  refs : ∀ k ∈ s.things, k.thing.refs.length ≤ 2000
theorem Few.nil : Few ⟨0, 0, 0, 0, [], [], []⟩ := ⟨by simp, by simp, by simp, fun k h => by simp at h⟩
theorem VS.few {s : State} (V : VS s) : Few s := by
  have n1 := V.nT; have n2 := V.nP; have n3 := V.nL
  exact ⟨by omega, by omega, by omega, fun k hk => by have := (V.okT k hk).1.refs; omega⟩
theorem Few.eq {s : State} (h : Few s) : Lqbv none [.i s.width, .i s.now, .i s.given, .i s.births, .l (encK s.things), .l (encP s.pins), .l (encL s.leases), .i s.width, .i s.now, .i s.given, .i s.births, .l (encK s.things), .l (encP s.pins), .l (encL s.leases)] = some [.b true] := by
  have h1 := h.nT; have h2 := h.nP; have h3 := h.nL
  exact zhd _ _ _ _ _ _ _ (by rw [zbj]; omega) (by rw [zbq]; omega) (by rw [zbu]; omega) fun i => by have := zfg h.refs i; omega
theorem znf {l : List Kept} (h : ∀ k ∈ l, k.thing.refs.length ≤ 2000) (i : Nat) : offK (encK l) i ≤ 2003 * (i : Int) := by
  induction i with
  | zero => simp [offK]
  | succ i ih =>
    have := zfg h i
    show offK (encK l) i + 3 + ((rd (encK l) i 3).list.length : Int) ≤ _
    omega
theorem Few.cnt {s : State} (h : Few s) : 0 ≤ cntS (encK s.things) (encP s.pins) (encL s.leases) ∧ cntS (encK s.things) (encP s.pins) (encL s.leases) ≤ 100000000 := by
  have h1 := h.nT; have h2 := h.nP; have h3 := h.nL
  have := znf h.refs s.things.length
  have o1 := zb5 (encK s.things) (i := 0) (j := s.things.length) (Nat.zero_le _)
  have o0 : offK (encK s.things) 0 = 0 := rfl
  unfold cntS
  rw [zbj, zbq, zbu]
  omega
theorem Few.len {s : State} (h : Few s) : (encK s.things).length ≤ 1000000000 := by have := h.nT; rw [zbj]; omega
end KV
end
section
namespace KV
open Go Go.Eng
open Classical
theorem zoa (s : State) (r : Round) (hb : 0 ≤ s.births ∧ s.births ≤ 1000000000) : Lqg none (encSt s ++ encR r) = some [.b (decide (RoundOk s.width s.births r))] := by
  show Lqg none [.i s.width, .i s.now, .i s.given, .i s.births, .l (encK s.things), .l (encP s.pins), .l (encL s.leases), .i r.phase, .l (encS r.queue), .l (encS r.marked), .i r.top, .i r.at_, .i r.rounds] = _
  rw [eqg_i]
  have hri := zkc s.width s.births r
  have no : ∀ p : Prop, (RoundOk s.width s.births r → p) → ¬ p → decide (RoundOk s.width s.births r) = false := fun p h1 h2 => decide_eq_false fun h3 => h2 (h1 h3)
  by_cases h1 : 0 ≤ r.phase
  rotate_left; · rw [no _ (fun h => h.ph.1) h1]; simp (disch := omega) only [push_cast]
  by_cases h2 : r.phase ≤ 2
  rotate_left; · rw [no _ (fun h => h.ph.2) h2]; simp (disch := omega) only [push_cast]
  by_cases h3 : 0 ≤ r.rounds ∧ r.rounds ≤ 1000000000
  rotate_left; · rw [no _ (fun h => h.rds) h3]; simp (disch := omega) only [push_cast, zl]
  by_cases h4 : r.queue.length ≤ 23200
  rotate_left; · rw [no _ (fun h => h.nQ) h4]; simp (disch := omega) only [push_cast, zl]
  by_cases h5 : r.marked.length ≤ 600
  rotate_left; · rw [no _ (fun h => h.nM) h5]; simp (disch := omega) only [push_cast, zl]
  simp (disch := omega) only [push_cast, zl]
  have l2 := zt (f := fun i : Nat => Lqg (some 9) [.i (i : Int), .i s.width, .i s.now, .i s.given, .i s.births, .l (encK s.things), .l (encP s.pins), .l (encL s.leases), .i r.phase, .l (encS r.queue), .l (encS r.marked), .i r.top, .i r.at_, .i r.rounds])
    (P := fun j => mkP s.width r.marked j) (n := r.marked.length) (T := some [.b (lastB s.births r)]) (F := some [.b false]) (fun i hi => by
      show (_ → Lqg _ _ = Lqg _ _) ∧ (_ → Lqg _ _ = _)
      rw [eqg_9]
      have hsub : Eng.sub (encS r.marked) 0 i = encS (r.marked.take i) := by rw [ze3]; rfl
      have hlen : (r.marked.take i).length ≤ 4611686018427387904 := by rw [List.length_take]; omega
      by_cases c1 : ((nth .empty r.marked i).size : Int) = s.width
      rotate_left; · exact ⟨fun h => absurd h.1 c1, fun _ => by simp (disch := omega) only [push_cast]⟩
      by_cases c2 : nth .empty r.marked i ∈ r.marked.take i
      · exact ⟨fun h => absurd c2 h.2, fun _ => by simp (disch := omega) only [push_cast, hsub, zw _ _ hlen]⟩
      · exact ⟨fun _ => by simp (disch := omega) only [push_cast, hsub, zw _ _ hlen] <;> rfl, fun h => absurd ⟨c1, c2⟩ h⟩) (by
      show Lqg _ _ = _
      rw [eqg_9]
      simp (disch := omega) only [push_cast]
      unfold lastB
      by_cases h0 : r.phase = 0
      · rw [if_pos h0]
        simp (disch := omega) only [push_cast]
        have e1 : ∀ l : List Bs, decide ((l.length : Int) = 0) = decide (l = []) := fun l => decide_eq_decide.2 ⟨fun h => List.eq_nil_of_length_eq_zero (by omega), fun h => by rw [h]; rfl⟩
        by_cases c1 : r.queue = []
        rotate_left; · rw [e1, decide_eq_false c1]; simp [c1]
        by_cases c2 : r.marked = []
        rotate_left; · rw [e1, e1, decide_eq_false c2]; simp [c1, c2]
        by_cases c3 : r.top = 0 <;> simp [c1, c2, c3]
      · rw [if_neg h0]
        simp (disch := omega) only [push_cast, zl]
        by_cases c1 : 0 ≤ r.top ∧ r.top ≤ s.births
        rotate_left; · simp (disch := omega) only [push_cast]; rw [decide_eq_false]; rintro ⟨a, b, _⟩; exact c1 ⟨a, b⟩
        simp (disch := omega) only [push_cast, zl]
        by_cases c2 : 1 ≤ r.at_ ∧ r.at_ ≤ r.top + 1
        rotate_left; · simp (disch := omega) only [push_cast]; rw [decide_eq_false]; rintro ⟨_, _, a, b, _⟩; exact c2 ⟨a, b⟩
        simp (disch := omega) only [push_cast]
        by_cases c3 : r.phase = 2
        · simp (disch := omega) only [push_cast]; rw [decide_eq_true]; exact ⟨c1.1, c1.2, c2.1, c2.2, fun h => by omega⟩
        · simp (disch := omega) only [push_cast]; congr 3; exact decide_eq_decide.2 ⟨fun h => ⟨c1.1, c1.2, c2.1, c2.2, fun _ => h⟩, fun h => h.2.2.2.2 (by omega)⟩) 0 (Nat.zero_le _)
  have l1 := zt (f := fun i : Nat => Lqg (some 4) [.i (i : Int), .i s.width, .i s.now, .i s.given, .i s.births, .l (encK s.things), .l (encP s.pins), .l (encL s.leases), .i r.phase, .l (encS r.queue), .l (encS r.marked), .i r.top, .i r.at_, .i r.rounds])
    (P := fun j => ((nth .empty r.queue j).size : Int) = s.width) (n := r.queue.length) (T := Lqg (some 9) [.i 0, .i s.width, .i s.now, .i s.given, .i s.births, .l (encK s.things), .l (encP s.pins), .l (encL s.leases), .i r.phase, .l (encS r.queue), .l (encS r.marked), .i r.top, .i r.at_, .i r.rounds]) (F := some [.b false]) (fun i hi => by
      show (_ → Lqg _ _ = Lqg _ _) ∧ (_ → Lqg _ _ = _)
      rw [eqg_4]
      by_cases hc : ((nth .empty r.queue i).size : Int) = s.width <;> simp (disch := omega) only [push_cast] <;> simp [hc]) (by
      show Lqg _ _ = _
      rw [eqg_4]; simp (disch := omega) only [push_cast]) 0 (Nat.zero_le _)
  have l1' : Lqg (some 4) [.i 0, .i s.width, .i s.now, .i s.given, .i s.births, .l (encK s.things), .l (encP s.pins), .l (encL s.leases), .i r.phase, .l (encS r.queue), .l (encS r.marked), .i r.top, .i r.at_, .i r.rounds] = _ := l1
  have l2' : Lqg (some 9) [.i 0, .i s.width, .i s.now, .i s.given, .i s.births, .l (encK s.things), .l (encP s.pins), .l (encL s.leases), .i r.phase, .l (encS r.queue), .l (encS r.marked), .i r.top, .i r.at_, .i r.rounds] = _ := l2
  rw [l1', l2']
  by_cases h6 : ∀ j, 0 ≤ j → j < r.queue.length → ((nth .empty r.queue j).size : Int) = s.width
  rotate_left; · rw [if_neg h6, no _ (fun h => (zee _ _).2 h.szQ) h6]
  rw [if_pos h6]
  by_cases h7 : ∀ j, 0 ≤ j → j < r.marked.length → mkP s.width r.marked j
  rotate_left; · rw [if_neg h7, no _ (fun h => (zer _ _).2 ⟨h.szM, h.ndM⟩) h7]
  rw [if_pos h7]
  congr 3
  cases hl : lastB s.births r
  · rw [no _ (fun h => (hri.1 h).2.2.2.2.2.2) (by rw [hl]; simp)]
  · rw [decide_eq_true (hri.2 ⟨⟨h1, h2⟩, h3, h4, h5, (zer _ _).1 h7, (zee _ _).1 h6, hl⟩)]
end KV
end
section
namespace KV
open Go Go.Eng
open Classical
theorem zpj (r : Round) (h1 : r.queue.length ≤ 1099511627776) (h2 : r.marked.length ≤ 1099511627776) : Lqb8 none (encR r) = some (encRo r) := by
  unfold encR encRo
  rw [eqb8_i, mostE]; simp (disch := omega) only [push_cast, List.nil_append]
end KV
end
section
namespace KV
open Go Go.Eng
open Classical
section
variable {s : State} {x : Bs} (V : VS s)
include V
theorem zo0 (hr : ¬ isRef s.things x) : Lql (some 7) [.s x, .i 0, .i s.width, .i s.now, .i s.given, .i s.births, .l (encK s.things), .l (encP s.pins), .l (encL s.leases), .i 0, .i 0, .i 0, .i 0, .i 0, .s E0, .i 0, .s E0, .s E0, .l (encK []), .l [], .l [], .l []] =
    some [.i 0, .i s.width, .i s.now, .i s.given, .i s.births, .l (encP s.pins), .l (encL s.leases), .s E0, .i 0, .s E0, .s E0, .l (encK (delK x s.things))] := by
  have h1 := V.nT
  refine zlu K0 (l := s.things) (p := fun k => !decide (k.sum = x)) (f := fun i a => Lql (some 7) [.s x, .i (i : Int), .i s.width, .i s.now, .i s.given, .i s.births, .l (encK s.things), .l (encP s.pins), .l (encL s.leases), .i 0, .i 0, .i 0, .i 0, .i 0, .s E0, .i 0, .s E0, .s E0, .l (encK a), .l [], .l [], .l []]) (fun i a hi ha => ?_) ?_
  · show Lql _ _ = Lql _ _
    have hm := zj (d := K0) hi
    have hrl := zd0 V _ hm
    have hn : ¬ x ∈ (nth K0 s.things i).thing.refs := fun h => hr ⟨_, hm, h⟩
    rw [eql_7, mostE]
    by_cases hc : (nth K0 s.things i).sum = x
    · rw [if_neg (by simp [hc])]; simp (disch := omega) only [push_cast, zw _ x (show (nth K0 s.things i).thing.refs.length ≤ 4611686018427387904 by omega), decide_eq_false hn]
    · rw [if_pos (by simp [hc]), ← zck]; simp (disch := omega) only [push_cast, zw _ x (show (nth K0 s.things i).thing.refs.length ≤ 4611686018427387904 by omega), decide_eq_false hn] <;> rfl
  · show Lql _ _ = _
    rw [eql_7]; simp (disch := omega) only [push_cast] <;> rfl
theorem zla (hr : isRef s.things x) : ∀ (i : Nat) (a : List Kept), i ≤ s.things.length → (a.length ≤ i ∧ ∃ j, i ≤ j ∧ j < s.things.length ∧ x ∈ (nth K0 s.things j).thing.refs) → Lql (some 7) [.s x, .i (i : Int), .i s.width, .i s.now, .i s.given, .i s.births, .l (encK s.things), .l (encP s.pins), .l (encL s.leases), .i 0, .i 0, .i 0, .i 0, .i 0, .s E0, .i 0, .s E0, .s E0, .l (encK a), .l [], .l [], .l []] =
    some [.i 6, .i 0, .i 0, .i 0, .i 0, .l [], .l [], .s E0, .i 0, .s E0, .s E0, .l []] := by
  have h1 := V.nT
  intro i a hi hI
  refine zb3 (f := fun i a => Lql (some 7) [.s x, .i (i : Int), .i s.width, .i s.now, .i s.given, .i s.births, .l (encK s.things), .l (encP s.pins), .l (encL s.leases), .i 0, .i 0, .i 0, .i 0, .i 0, .s E0, .i 0, .s E0, .s E0, .l (encK a), .l [], .l [], .l []]) (n := s.things.length) (I := fun i a => a.length ≤ i ∧ ∃ j, i ≤ j ∧ j < s.things.length ∧ x ∈ (nth K0 s.things j).thing.refs)
    (T := fun r => r = some [.i 6, .i 0, .i 0, .i 0, .i 0, .l [], .l [], .s E0, .i 0, .s E0, .s E0, .l []]) (fun i a hi hI => ?_) (fun a hI => ?_) i a hi hI
  · obtain ⟨ha, j, hj1, hj2, hj3⟩ := hI
    have hm := zj (d := K0) hi
    have hrl := zd0 V _ hm
    by_cases hn : x ∈ (nth K0 s.things i).thing.refs
    · right
      show Lql _ _ = _
      rw [eql_7]
      simp (disch := omega) only [push_cast, zw _ x (show (nth K0 s.things i).thing.refs.length ≤ 4611686018427387904 by omega), decide_eq_true hn]
    · left
      have hj : i + 1 ≤ j := by
        rcases Nat.eq_or_lt_of_le hj1 with h | h
        · rw [h] at hn; exact absurd hj3 hn
        · exact h
      by_cases hc : (nth K0 s.things i).sum = x
      · refine ⟨a, ?_, by omega, j, hj, hj2, hj3⟩
        show Lql _ _ = Lql _ _
        rw [eql_7]
        simp (disch := omega) only [push_cast, zw _ x (show (nth K0 s.things i).thing.refs.length ≤ 4611686018427387904 by omega), decide_eq_false hn]
      · refine ⟨a ++ [nth K0 s.things i], ?_, by simp; omega, j, hj, hj2, hj3⟩
        show Lql _ _ = Lql _ _
        rw [eql_7, mostE, ← zck]
        simp (disch := omega) only [push_cast, zw _ x (show (nth K0 s.things i).thing.refs.length ≤ 4611686018427387904 by omega), decide_eq_false hn] <;> rfl
  · obtain ⟨_, j, h1, h2, _⟩ := hI; omega
theorem zja (hT : hasT s.things x) : Lql none [.i s.width, .i s.now, .i s.given, .i s.births, .l (encK s.things), .l (encP s.pins), .l (encL s.leases), .s x] =
    some (if held s x ∨ isRef s.things x then [.i 6, .i 0, .i 0, .i 0, .i 0, .l [], .l [], .s E0, .i 0, .s E0, .s E0, .l []] else [.i 0, .i s.width, .i s.now, .i s.given, .i s.births, .l (encP s.pins), .l (encL s.leases), .s E0, .i 0, .s E0, .s E0, .l (encK (delK x s.things))]) := by
  have h2 := V.nP; have h3 := V.nL
  have hh := zlt s x (by omega) (by omega)
  unfold encSt at hh
  rw [eql_i]
  simp (disch := omega) only [push_cast, zme V, show Lqo none [.i s.width, .i s.now, .i s.given, .i s.births, .l (encK s.things), .l (encP s.pins), .l (encL s.leases), .s x] = _ from hh]
  rw [decide_eq_false (show ¬ findT s.things x < 0 from fun h => zdq.1 h hT)]
  by_cases c1 : held s x
  · rw [if_pos (Or.inl c1), decide_eq_true c1]; simp (disch := omega) only [push_cast] <;> rfl
  · rw [decide_eq_false c1]
    by_cases c2 : isRef s.things x
    · rw [if_pos (Or.inr c2)]
      have := zla V c2 0 [] (Nat.zero_le _) ⟨Nat.le_refl _, by
        obtain ⟨k, hk1, hk2⟩ := c2
        obtain ⟨j, hj, rfl⟩ := zbr K0 hk1
        exact ⟨j, Nat.zero_le _, hj, hk2⟩⟩
      simp (disch := omega) only [push_cast]
      rw [show Lql (some 7) [.s x, .i 0, .i s.width, .i s.now, .i s.given, .i s.births, .l (encK s.things), .l (encP s.pins), .l (encL s.leases), .i 0, .i 0, .i 0, .i 0, .i 0, .s E0, .i 0, .s E0, .s E0, .l [], .l [], .l [], .l []] = _ from this]
    · rw [if_neg (by rintro (h | h); exact c1 h; exact c2 h)]
      have := zo0 V c2
      simp (disch := omega) only [push_cast]
      rw [show Lql (some 7) [.s x, .i 0, .i s.width, .i s.now, .i s.given, .i s.births, .l (encK s.things), .l (encP s.pins), .l (encL s.leases), .i 0, .i 0, .i 0, .i 0, .i 0, .s E0, .i 0, .s E0, .s E0, .l [], .l [], .l [], .l []] = _ from this]
end
noncomputable def addU (l : List Bs) (x : Bs) : List Bs := if x ∈ l then l else l ++ [x]
theorem zn6 (l : List Bs) (x : Bs) : (addU l x).length ≤ l.length + 1 := by unfold addU; split <;> simp
theorem zcc (l : List Bs) : ∀ a, (l.foldl addU a).length ≤ a.length + l.length := by
  induction l with
  | nil => intro a; simp
  | cons x l ih => intro a; rw [List.foldl_cons, List.length_cons]; have := ih (addU a x); have := zn6 a x; omega
theorem zmr {l : List Bs} {x y : Bs} : y ∈ addU l x ↔ y ∈ l ∨ y = x := by
  unfold addU
  split
  · rename_i h; exact ⟨.inl, fun h2 => h2.elim id fun e => by rw [e]; exact h⟩
  · simp
theorem zh1 (l : List Bs) : ∀ a y, y ∈ l.foldl addU a ↔ y ∈ a ∨ y ∈ l := by
  induction l with
  | nil => intro a y; simp
  | cons x l ih => intro a y; rw [List.foldl_cons, ih, zmr, List.mem_cons, or_assoc]
theorem zeg (l : List Bs) (a : List Bs) (i : Nat) (h : i < l.length) : ((l.take (i + 1)).foldl addU a) = addU ((l.take i).foldl addU a) (nth .empty l i) := by
  rw [zbf .empty h, List.foldl_append]; rfl
noncomputable def zbe (s : State) : List Bs := (s.leases.map (·.sum)).foldl addU ((s.pins.map (·.sum)).foldl addU [])
theorem zhl (P : List Pin) (i : Nat) (h : i < P.length) : nth .empty (P.map (·.sum)) i = (nth P0 P i).sum := by
  rw [zn _ _ _ (by rw [List.length_map]; exact h), zn _ _ _ h, List.getElem_map]
theorem zh7 (P : List Lease) (i : Nat) (h : i < P.length) : nth .empty (P.map (·.sum)) i = (nth L0 P i).sum := by
  rw [zn _ _ _ (by rw [List.length_map]; exact h), zn _ _ _ h, List.getElem_map]
theorem zpo (s : State) (h1 : s.pins.length ≤ 1000000) (h2 : s.leases.length ≤ 1000000) : Lqn none (encSt s) = some [.l (encS (zbe s))] := by
  unfold encSt
  have l2 : ∀ a : List Bs, a.length ≤ 1000000 → Lqn (some 8) [.i 0, .i s.width, .i s.now, .i s.given, .i s.births, .l (encK s.things), .l (encP s.pins), .l (encL s.leases), .l (encS a)] = some [.l (encS ((s.leases.map (·.sum)).foldl addU a))] := by
    intro a0 ha0
    exact zp (f := fun (i : Nat) (a : List Bs) => Lqn (some 8) [.i (i : Int), .i s.width, .i s.now, .i s.given, .i s.births, .l (encK s.things), .l (encP s.pins), .l (encL s.leases), .l (encS a)]) (n := s.leases.length)
      (I := fun i a => a = ((s.leases.map (·.sum)).take i).foldl addU a0) (fun i a hi hI => ⟨addU a (nth L0 s.leases i).sum, by
        show Lqn _ _ = Lqn _ _
        have hl : a.length ≤ 1000000 + i := by rw [hI]; have := zcc ((s.leases.map (·.sum)).take i) a0; rw [List.length_take] at this; omega
        rw [eqn_8, mostE]
        unfold addU
        by_cases hm : (nth L0 s.leases i).sum ∈ a
        · rw [if_pos hm]; simp (disch := omega) only [push_cast, zw a _ (show a.length ≤ 4611686018427387904 by omega), decide_eq_true hm] <;> rfl
        · rw [if_neg hm, ← zce]; simp (disch := omega) only [push_cast, zw a _ (show a.length ≤ 4611686018427387904 by omega), decide_eq_false hm] <;> rfl, by
        show addU a _ = _
        rw [zeg _ _ _ (by rw [List.length_map]; exact hi), hI, zh7 _ _ hi]⟩) (fun a hI => by
        show Lqn _ _ = _
        rw [eqn_8]
        simp (disch := omega) only [push_cast]
        rw [hI, List.take_of_length_le (by rw [List.length_map]; exact Nat.le_refl _)]) 0 a0 (Nat.zero_le _) rfl
  rw [eqn_i]
  have l1 := zp (f := fun (i : Nat) (a : List Bs) => Lqn (some 3) [.i (i : Int), .i s.width, .i s.now, .i s.given, .i s.births, .l (encK s.things), .l (encP s.pins), .l (encL s.leases), .l (encS a)]) (n := s.pins.length) (T := some [.l (encS (zbe s))])
      (I := fun i a => a = ((s.pins.map (·.sum)).take i).foldl addU []) (fun i a hi hI => ⟨addU a (nth P0 s.pins i).sum, by
        show Lqn _ _ = Lqn _ _
        have hl : a.length ≤ i := by rw [hI]; have := zcc ((s.pins.map (·.sum)).take i) []; rw [List.length_take] at this; simp at this; omega
        rw [eqn_3, mostE]
        unfold addU
        by_cases hm : (nth P0 s.pins i).sum ∈ a
        · rw [if_pos hm]; simp (disch := omega) only [push_cast, zw a _ (show a.length ≤ 4611686018427387904 by omega), decide_eq_true hm] <;> rfl
        · rw [if_neg hm, ← zce]; simp (disch := omega) only [push_cast, zw a _ (show a.length ≤ 4611686018427387904 by omega), decide_eq_false hm] <;> rfl, by
        show addU a _ = _
        rw [zeg _ _ _ (by rw [List.length_map]; exact hi), hI, zhl _ _ hi]⟩) (fun a hI => by
        show Lqn _ _ = _
        have hl : a.length ≤ s.pins.length := by rw [hI]; have := zcc ((s.pins.map (·.sum)).take s.pins.length) []; rw [List.length_take] at this; simp at this; omega
        rw [eqn_3]
        simp (disch := omega) only [push_cast]
        refine (l2 a (by omega)).trans ?_
        unfold zbe
        rw [hI, List.take_of_length_le (by rw [List.length_map]; exact Nat.le_refl _)]) 0 [] (Nat.zero_le _) rfl
  exact l1
noncomputable def bestI (T : List Kept) (a : Int) : Nat → Int
  | 0 => -1
  | i + 1 => if (nth K0 T i).born < a ∧ (bestI T a i < 0 ∨ (nth K0 T (bestI T a i).toNat).born < (nth K0 T i).born) then (i : Int) else bestI T a i
theorem zcu (T : List Kept) (a : Int) : ∀ i, -1 ≤ bestI T a i ∧ bestI T a i < i
  | 0 => by simp [bestI]
  | i + 1 => by
    have := zcu T a i
    simp only [bestI]
    split <;> omega
noncomputable def bestT (T : List Kept) (a : Int) : Int := bestI T a T.length
theorem zpp (s : State) (a : Int) (hn : s.things.length ≤ 1000000) : Lqy none (encSt s ++ [.i a]) = some [.i (bestT s.things a)] := by
  show Lqy none [.i s.width, .i s.now, .i s.given, .i s.births, .l (encK s.things), .l (encP s.pins), .l (encL s.leases), .i a] = _
  rw [eqy_i]
  have := zp (f := fun (i : Nat) (b : Int) => Lqy (some 3) [.i a, .i b, .i (i : Int), .i s.width, .i s.now, .i s.given, .i s.births, .l (encK s.things), .l (encP s.pins), .l (encL s.leases)]) (n := s.things.length) (T := some [.i (bestT s.things a)])
    (I := fun i b => b = bestI s.things a i) (fun i b hi hI => ⟨bestI s.things a (i + 1), by
      show Lqy _ _ = Lqy _ _
      have hb := zcu s.things a i
      rw [eqy_3]
      simp only [bestI]
      rw [← hI] at hb ⊢
      by_cases c1 : (nth K0 s.things i).born < a
      rotate_left; · rw [if_neg fun h => c1 h.1]; simp (disch := omega) only [push_cast]
      by_cases c2 : b < 0
      · rw [if_pos ⟨c1, .inl c2⟩]; simp (disch := omega) only [push_cast]
      by_cases c3 : (nth K0 s.things b.toNat).born < (nth K0 s.things i).born
      · rw [if_pos ⟨c1, .inr c3⟩]; simp (disch := omega) only [push_cast]
      · rw [if_neg fun h => h.2.elim c2 c3]; simp (disch := omega) only [push_cast], rfl⟩) (fun b hI => by
      show Lqy _ _ = _
      rw [eqy_3]
      simp (disch := omega) only [push_cast]
      rw [hI]; rfl) 0 (-1) (Nat.zero_le _) rfl
  exact this
noncomputable def unitM (s : State) (r : Round) : Round × Bs :=
  if r.phase = 0 then (⟨1, zbe s, r.marked, s.births, s.births + 1, r.rounds⟩, E0)
  else match r.queue with
  | x :: q => if hasT s.things x ∧ x ∉ r.marked then (⟨r.phase, q ++ (nth K0 s.things (lb (qK x) s.things)).thing.refs.filter fun y => !decide (y ∈ r.marked ++ [x]), r.marked ++ [x], r.top, r.at_, r.rounds⟩, E0) else (⟨r.phase, q, r.marked, r.top, r.at_, r.rounds⟩, E0)
  | [] => if bestT s.things r.at_ < 0 then (⟨0, [], [], 0, 0, r.rounds + 1⟩, E0)
    else (⟨2, [], r.marked, r.top, (nth K0 s.things (bestT s.things r.at_).toNat).born, r.rounds⟩, if (nth K0 s.things (bestT s.things r.at_).toNat).sum ∈ r.marked ∨ held s (nth K0 s.things (bestT s.things r.at_).toNat).sum ∨ isRef s.things (nth K0 s.things (bestT s.things r.at_).toNat).sum then E0 else (nth K0 s.things (bestT s.things r.at_).toNat).sum)
noncomputable def zz (s : State) (x : Bs) : State := if x = E0 then s else { s with things := delK x s.things }
def oneD (x : Bs) : List Bs := if x = E0 then [] else [x]
def encUn (s : State) (r : Round) (d : Bs) : Lv := [.i 0, .i s.width, .i s.now, .i s.given, .i s.births, .l (encK s.things), .l (encP s.pins), .l (encL s.leases), .i r.phase, .l (encS r.queue), .l (encS r.marked), .i r.top, .i r.at_, .i r.rounds, .l (encS (oneD d))]
theorem VS.sumNe {s : State} (V : VS s) {k : Kept} (hk : k ∈ s.things) : k.sum ≠ E0 := by
  have := V.wd
  intro h
  have h2 := (V.okT k hk).2.1
  have h3 := zhv (s := formM k.thing) V.wd
  rw [← h2, h] at h3
  have : (E0 : Bs).size = 0 := rfl
  omega
theorem zj5 (l m : List Bs) (i : Nat) (hi : i < l.length) : (l.take (i + 1)).filter (fun y => !decide (y ∈ m)) = (l.take i).filter (fun y => !decide (y ∈ m)) ++ (if nth .empty l i ∈ m then [] else [nth .empty l i]) := by
  rw [zbf .empty hi, List.filter_append]
  congr 1
  split
  · rename_i h; simp [h]
  · rename_i h; simp [h]
theorem zpm {s : State} (V : VS s) {r : Round} (h : RoundOk s.width s.births r) (hr : r.rounds < 1000000000) : Lq1 none (encSt s ++ encR r) = some (encUn (zz s (unitM s r).2) (unitM s r).1 (unitM s r).2) := by
  show Lq1 none [.i s.width, .i s.now, .i s.given, .i s.births, .l (encK s.things), .l (encP s.pins), .l (encL s.leases), .i r.phase, .l (encS r.queue), .l (encS r.marked), .i r.top, .i r.at_, .i r.rounds] = _
  have n1 := V.nT; have n2 := V.nP; have n3 := V.nL; have hb := V.births; have hq := h.nQ; have hm := h.nM; have hrd := h.rds
  have hro := zpo s (by omega) (by omega)
  have hnx := zpp s r.at_ (by omega)
  unfold encSt at hro
  have hnx' : Lqy none [.i s.width, .i s.now, .i s.given, .i s.births, .l (encK s.things), .l (encP s.pins), .l (encL s.leases), .i r.at_] = _ := hnx
  rw [eq1_i, mostE]
  have st0 : zz s E0 = s := if_pos rfl
  by_cases h0 : r.phase = 0
  · have : unitM s r = (⟨1, zbe s, r.marked, s.births, s.births + 1, r.rounds⟩, E0) := by unfold unitM; rw [if_pos h0]
    rw [this, st0]
    simp (disch := omega) only [push_cast, hro]; rfl
  cases hqq : r.queue with
  | cons x q =>
    rw [hqq] at hq
    simp only [List.length_cons] at hq
    have hsub : Eng.sub (encS (x :: q)) 1 (q.length + 1) = encS q := by rw [ze3]; simp
    have hx0 : (rd (encS (x :: q)) 0 0).str = x := rfl
    have hf := zdq (T := s.things) (x := x)
    by_cases c1 : hasT s.things x
    rotate_left
    · have : unitM s r = (⟨r.phase, q, r.marked, r.top, r.at_, r.rounds⟩, E0) := by unfold unitM; rw [if_neg h0, hqq]; simp only; rw [if_neg fun h => c1 h.1]
      rw [this, st0]
      have hneg := hf.2 c1
      simp (disch := omega) only [push_cast, hsub, hx0, zcn _ _ _ _ s.things _ _ x V.srtT (by omega), List.nil_append]; rfl
    have c1' : ¬ findT s.things x < 0 := fun h => hf.1 h c1
    by_cases c2 : x ∈ r.marked
    · have : unitM s r = (⟨r.phase, q, r.marked, r.top, r.at_, r.rounds⟩, E0) := by unfold unitM; rw [if_neg h0, hqq]; simp only; rw [if_neg fun h => h.2 c2]
      rw [this, st0]
      simp (disch := omega) only [push_cast, hsub, hx0, zcn _ _ _ _ s.things _ _ x V.srtT (by omega), List.nil_append, zw r.marked x (by omega), decide_eq_true c2]; rfl
    have : unitM s r = (⟨r.phase, q ++ (nth K0 s.things (lb (qK x) s.things)).thing.refs.filter fun y => !decide (y ∈ r.marked ++ [x]), r.marked ++ [x], r.top, r.at_, r.rounds⟩, E0) := by unfold unitM; rw [if_neg h0, hqq]; simp only; rw [if_pos ⟨c1, c2⟩]
    rw [this, st0]
    have hfi : findT s.things x = (lb (qK x) s.things : Int) := if_pos c1
    have hlt := ((zb2 V.srtT x).1 c1).1
    have hrl := (V.okT _ (zj (d := K0) hlt)).1.refs
    have hml : (r.marked ++ [x]).length ≤ 4611686018427387904 := by rw [List.length_append]; simp; omega
    have lp := zp (f := fun (i : Nat) (a : List Bs) => Lq1 (some 15) [.l (encS (nth K0 s.things (lb (qK x) s.things)).thing.refs), .i (i : Int), .i s.width, .i s.now, .i s.given, .i s.births, .l (encK s.things), .l (encP s.pins), .l (encL s.leases), .i r.phase, .l (encS (x :: q)), .i r.top, .i r.at_, .i r.rounds, .i 0, .i 0, .i 0, .i 0, .i 0, .i 0, .i 0, .i 0, .i 0, .l (encS a), .l (encS (r.marked ++ [x])), .l [], .l [], .l [], .l [], .l [], .l []])
      (n := (nth K0 s.things (lb (qK x) s.things)).thing.refs.length) (T := some (encUn s ⟨r.phase, q ++ (nth K0 s.things (lb (qK x) s.things)).thing.refs.filter fun y => !decide (y ∈ r.marked ++ [x]), r.marked ++ [x], r.top, r.at_, r.rounds⟩ E0))
      (I := fun i a => a = q ++ ((nth K0 s.things (lb (qK x) s.things)).thing.refs.take i).filter fun y => !decide (y ∈ r.marked ++ [x])) (fun i a hi hI => ⟨a ++ (if nth .empty (nth K0 s.things (lb (qK x) s.things)).thing.refs i ∈ r.marked ++ [x] then [] else [nth .empty (nth K0 s.things (lb (qK x) s.things)).thing.refs i]), by
        show Lq1 _ _ = Lq1 _ _
        have ha : a.length ≤ 24000 := by
          rw [hI, List.length_append]
          have := List.length_filter_le (fun y => !decide (y ∈ r.marked ++ [x])) ((nth K0 s.things (lb (qK x) s.things)).thing.refs.take i)
          rw [List.length_take] at this; omega
        rw [eq1_15, mostE]
        by_cases hc : nth .empty (nth K0 s.things (lb (qK x) s.things)).thing.refs i ∈ r.marked ++ [x]
        · rw [if_pos hc, List.append_nil]; simp (disch := omega) only [push_cast, zw _ (nth .empty (nth K0 s.things (lb (qK x) s.things)).thing.refs i) hml, decide_eq_true hc]
        · rw [if_neg hc, ← zce a]; simp (disch := omega) only [push_cast, zw _ (nth .empty (nth K0 s.things (lb (qK x) s.things)).thing.refs i) hml, decide_eq_false hc] <;> rfl, by
        show a ++ _ = _
        rw [zj5 _ _ _ hi, hI, List.append_assoc]⟩) (fun a hI => by
        show Lq1 _ _ = _
        rw [eq1_15]
        simp (disch := omega) only [push_cast]
        rw [hI, List.take_length]; rfl) 0 q (Nat.zero_le _) (by simp)
    simp (disch := omega) only [push_cast, hsub, hx0, zcn _ _ _ _ s.things _ _ x V.srtT (by omega), List.nil_append, zw r.marked x (by omega), decide_eq_false c2, hfi]
    rw [zjq, zce]
    exact lp
  | nil =>
    have hbl := zcu s.things r.at_ s.things.length
    have hbt : bestI s.things r.at_ s.things.length = bestT s.things r.at_ := rfl
    rw [hbt] at hbl
    by_cases c1 : bestT s.things r.at_ < 0
    · have : unitM s r = (⟨0, [], [], 0, 0, r.rounds + 1⟩, E0) := by unfold unitM; rw [if_neg h0, hqq]; simp only; rw [if_pos c1]
      rw [this, st0]
      simp (disch := omega) only [push_cast, hnx']; rfl
    obtain ⟨n, hn⟩ : ∃ n : Nat, bestT s.things r.at_ = n := ⟨(bestT s.things r.at_).toNat, by omega⟩
    have hnl : n < s.things.length := by omega
    have hmem := zj (d := K0) hnl
    have hne := V.sumNe hmem
    have hT : hasT s.things (nth K0 s.things n).sum := ⟨_, hmem, rfl⟩
    have hu : unitM s r = (⟨2, [], r.marked, r.top, (nth K0 s.things n).born, r.rounds⟩, if (nth K0 s.things n).sum ∈ r.marked ∨ held s (nth K0 s.things n).sum ∨ isRef s.things (nth K0 s.things n).sum then E0 else (nth K0 s.things n).sum) := by
      unfold unitM; rw [if_neg h0, hqq]; simp only; rw [if_neg c1, hn, zlq]
    rw [hu]
    simp only
    by_cases c2 : (nth K0 s.things n).sum ∈ r.marked
    · rw [if_pos (Or.inl c2), st0]
      simp (disch := omega) only [push_cast, hnx', hn, zw r.marked (nth K0 s.things n).sum (by omega), decide_eq_true c2]; rfl
    by_cases c3 : held s (nth K0 s.things n).sum ∨ isRef s.things (nth K0 s.things n).sum
    · rw [if_pos (Or.inr c3), st0]
      have := zja V hT
      rw [if_pos c3] at this
      simp (disch := omega) only [push_cast, hnx', hn, zw r.marked (nth K0 s.things n).sum (by omega), decide_eq_false c2, this]; rfl
    · have hno : ¬ ((nth K0 s.things n).sum ∈ r.marked ∨ held s (nth K0 s.things n).sum ∨ isRef s.things (nth K0 s.things n).sum) := fun h => h.elim c2 c3
      rw [if_neg hno]
      have := zja V hT
      rw [if_neg c3] at this
      simp (disch := omega) only [push_cast, hnx', hn, zw r.marked (nth K0 s.things n).sum (by omega), decide_eq_false c2, this]
      unfold zz encUn oneD; rw [if_neg hne, if_neg hne]; rfl
end KV
end
section
namespace KV
open Go Go.Eng
open Classical
theorem put_1 (x : Bs) (a : List Bs) (p t at_ r : Int) (m : Rw) (ha : a.length ≤ 1000000) : Lqcd none [.s x, .m (setM a), .i p, .i t, .i at_, .i r, .l (encS a), .l m] = some [.m (setM (addU a x)), .i p, .i t, .i at_, .i r, .l (encS (addU a x)), .l m] := by
  rw [eqcd_i, mostE]
  unfold addU
  by_cases h : x ∈ a
  · rw [if_pos h]; simp (disch := omega) only [push_cast, inM, decide_eq_true h]
  · rw [if_neg h, ← zce]; simp (disch := omega) only [push_cast, inM, decide_eq_false h, zfx x a h]; rfl
def encNx (r : Round) (d : Bs) : Lv := [.i r.phase, .i r.top, .i r.at_, .i r.rounds, .s d, .b true, .l (encS r.queue), .l (encS r.marked)]
theorem zk8 {s : State} (V : VS s) {r : Round} (h : RoundOk s.width s.births r) : Lqd none (encR r ++ encSt s) = some (if r.rounds = 1000000000 then [.i 0, .i 0, .i 0, .i 0, .s E0, .b false, .l [], .l []] else encNx (unitM s r).1 (unitM s r).2) := by
  show Lqd none [.i r.phase, .l (encS r.queue), .l (encS r.marked), .i r.top, .i r.at_, .i r.rounds, .i s.width, .i s.now, .i s.given, .i s.births, .l (encK s.things), .l (encP s.pins), .l (encL s.leases)] = _
  have n1 := V.nT; have n2 := V.nP; have n3 := V.nL; have hb := V.births; have hq := h.nQ; have hm := h.nM; have hrd := h.rds
  have hcr := zkx r (by omega) (by omega)
  have hcr' : Lqcc none [.i r.phase, .l (encS r.queue), .l (encS r.marked), .i r.top, .i r.at_, .i r.rounds] = some [.i r.phase, .i r.top, .i r.at_, .i r.rounds, .l (encS r.queue), .l (encS r.marked)] := hcr
  rw [eqd_i, mostE]
  by_cases hr : r.rounds = 1000000000
  · rw [if_pos hr]; simp (disch := omega) only [push_cast, hcr']
  rw [if_neg hr]
  by_cases h0 : r.phase = 0
  · have hrest := h.rest h0
    have : unitM s r = (⟨1, zbe s, r.marked, s.births, s.births + 1, r.rounds⟩, E0) := by unfold unitM; rw [if_pos h0]
    rw [this]
    have l2 : ∀ a : List Bs, a.length ≤ 500000 → Lqd (some 14) [.l (encL s.leases), .i (s.leases.length : Int), .i 0, .i 0, .i 0, .i 0, .i 0, .i 1, .i s.births, .i (s.births + 1), .i r.rounds, .l [], .l [], .l (encS a), .l (encS r.marked), .m (setM a)] = some (encNx ⟨1, (s.leases.map (·.sum)).foldl addU a, r.marked, s.births, s.births + 1, r.rounds⟩ E0) := by
      intro a0 ha0
      exact zp (f := fun (i : Nat) (a : List Bs) => Lqd (some 14) [.l (encL s.leases), .i (s.leases.length : Int), .i (i : Int), .i 0, .i 0, .i 0, .i 0, .i 1, .i s.births, .i (s.births + 1), .i r.rounds, .l [], .l [], .l (encS a), .l (encS r.marked), .m (setM a)]) (n := s.leases.length)
        (I := fun i a => a = ((s.leases.map (·.sum)).take i).foldl addU a0) (fun i a hi hI => ⟨addU a (nth L0 s.leases i).sum, by
          show Lqd _ _ = Lqd _ _
          have hl : a.length ≤ 500000 + i := by rw [hI]; have := zcc ((s.leases.map (·.sum)).take i) a0; rw [List.length_take] at this; omega
          rw [eqd_14]
          simp (disch := omega) only [push_cast, put_1 (nth L0 s.leases i).sum a 1 s.births (s.births + 1) r.rounds (encS r.marked) (by omega)] <;> rfl, by
          show addU a _ = _
          rw [zeg _ _ _ (by rw [List.length_map]; exact hi), hI, zh7 _ _ hi]⟩) (fun a hI => by
          show Lqd _ _ = _
          rw [eqd_14]
          simp (disch := omega) only [push_cast]
          rw [hI, List.take_of_length_le (by rw [List.length_map]; exact Nat.le_refl _)]; rfl) 0 a0 (Nat.zero_le _) rfl
    have l1 := zp (f := fun (i : Nat) (a : List Bs) => Lqd (some 9) [.l (encP s.pins), .i (s.pins.length : Int), .i (i : Int), .i s.width, .i s.now, .i s.given, .i s.births, .l (encK s.things), .l (encP s.pins), .l (encL s.leases), .i 0, .i 0, .i 0, .i 0, .i 1, .i s.births, .i (s.births + 1), .i r.rounds, .l [], .l [], .l (encS a), .l (encS r.marked), .m (setM a)]) (n := s.pins.length) (T := some (encNx ⟨1, zbe s, r.marked, s.births, s.births + 1, r.rounds⟩ E0))
        (I := fun i a => a = ((s.pins.map (·.sum)).take i).foldl addU []) (fun i a hi hI => ⟨addU a (nth P0 s.pins i).sum, by
          show Lqd _ _ = Lqd _ _
          have hl : a.length ≤ i := by rw [hI]; have := zcc ((s.pins.map (·.sum)).take i) []; rw [List.length_take] at this; simp at this; omega
          rw [eqd_9]
          simp (disch := omega) only [push_cast, put_1 (nth P0 s.pins i).sum a 1 s.births (s.births + 1) r.rounds (encS r.marked) (by omega)] <;> rfl, by
          show addU a _ = _
          rw [zeg _ _ _ (by rw [List.length_map]; exact hi), hI, zhl _ _ hi]⟩) (fun a hI => by
          show Lqd _ _ = _
          have hl : a.length ≤ s.pins.length := by rw [hI]; have := zcc ((s.pins.map (·.sum)).take s.pins.length) []; rw [List.length_take] at this; simp at this; omega
          rw [eqd_9]
          simp (disch := omega) only [push_cast]
          refine (l2 a (by omega)).trans ?_
          unfold zbe
          rw [hI, List.take_of_length_le (by rw [List.length_map]; exact Nat.le_refl _)]) 0 [] (Nat.zero_le _) rfl
    have l1' : Lqd (some 9) [.l (encP s.pins), .i (s.pins.length : Int), .i 0, .i s.width, .i s.now, .i s.given, .i s.births, .l (encK s.things), .l (encP s.pins), .l (encL s.leases), .i 0, .i 0, .i 0, .i 0, .i 1, .i s.births, .i (s.births + 1), .i r.rounds, .l [], .l [], .l [], .l (encS r.marked), .m []] = _ := l1
    rw [hrest.1] at hcr' ⊢
    simp (disch := omega) only [push_cast, hcr']
    exact l1'
  cases hqq : r.queue with
  | cons x q =>
    rw [hqq] at hq hcr'
    simp only [List.length_cons] at hq
    have hsub : Eng.sub (encS (x :: q)) 1 (q.length + 1) = encS q := by rw [ze3]; simp
    have hx0 : (rd (encS (x :: q)) 0 0).str = x := rfl
    by_cases c1 : hasT s.things x
    rotate_left
    · have : unitM s r = (⟨r.phase, q, r.marked, r.top, r.at_, r.rounds⟩, E0) := by unfold unitM; rw [if_neg h0, hqq]; simp only; rw [if_neg fun h => c1 h.1]
      rw [this]
      simp (disch := omega) only [push_cast, hcr', hsub, hx0, zba _ _ _ _ s.things _ _ x V.srtT (by omega), decide_eq_false c1]; rfl
    by_cases c2 : x ∈ r.marked
    · have : unitM s r = (⟨r.phase, q, r.marked, r.top, r.at_, r.rounds⟩, E0) := by unfold unitM; rw [if_neg h0, hqq]; simp only; rw [if_neg fun h => h.2 c2]
      rw [this]
      simp (disch := omega) only [push_cast, hcr', hsub, hx0, zba _ _ _ _ s.things _ _ x V.srtT (by omega), decide_eq_true c1, zcb r.marked x (by omega), decide_eq_true c2]; rfl
    have : unitM s r = (⟨r.phase, q ++ (nth K0 s.things (lb (qK x) s.things)).thing.refs.filter fun y => !decide (y ∈ r.marked ++ [x]), r.marked ++ [x], r.top, r.at_, r.rounds⟩, E0) := by unfold unitM; rw [if_neg h0, hqq]; simp only; rw [if_pos ⟨c1, c2⟩]
    rw [this]
    have hlt := ((zb2 V.srtT x).1 c1).1
    have hrl := (V.okT _ (zj (d := K0) hlt)).1.refs
    have hml : (r.marked ++ [x]).length ≤ 4611686018427387904 := by rw [List.length_append]; simp; omega
    have lp := zp (f := fun (i : Nat) (a : List Bs) => Lqd (some 26) [.l (encS (nth K0 s.things (lb (qK x) s.things)).thing.refs), .i ((nth K0 s.things (lb (qK x) s.things)).thing.refs.length : Int), .i (i : Int), .i 0, .i 0, .i 0, .i 0, .i r.phase, .i r.top, .i r.at_, .i r.rounds, .l [], .l [], .l (encS a), .l (encS (r.marked ++ [x]))])
      (n := (nth K0 s.things (lb (qK x) s.things)).thing.refs.length) (T := some (encNx ⟨r.phase, q ++ (nth K0 s.things (lb (qK x) s.things)).thing.refs.filter fun y => !decide (y ∈ r.marked ++ [x]), r.marked ++ [x], r.top, r.at_, r.rounds⟩ E0))
      (I := fun i a => a = q ++ ((nth K0 s.things (lb (qK x) s.things)).thing.refs.take i).filter fun y => !decide (y ∈ r.marked ++ [x])) (fun i a hi hI => ⟨a ++ (if nth .empty (nth K0 s.things (lb (qK x) s.things)).thing.refs i ∈ r.marked ++ [x] then [] else [nth .empty (nth K0 s.things (lb (qK x) s.things)).thing.refs i]), by
        show Lqd _ _ = Lqd _ _
        have ha : a.length ≤ 24000 := by
          rw [hI, List.length_append]
          have := List.length_filter_le (fun y => !decide (y ∈ r.marked ++ [x])) ((nth K0 s.things (lb (qK x) s.things)).thing.refs.take i)
          rw [List.length_take] at this; omega
        rw [eqd_26, mostE]
        by_cases hc : nth .empty (nth K0 s.things (lb (qK x) s.things)).thing.refs i ∈ r.marked ++ [x]
        · rw [if_pos hc, List.append_nil]; simp (disch := omega) only [push_cast, zcb _ (nth .empty (nth K0 s.things (lb (qK x) s.things)).thing.refs i) hml, decide_eq_true hc]
        · rw [if_neg hc, ← zce a]; simp (disch := omega) only [push_cast, zcb _ (nth .empty (nth K0 s.things (lb (qK x) s.things)).thing.refs i) hml, decide_eq_false hc] <;> rfl, by
        show a ++ _ = _
        rw [zj5 _ _ _ hi, hI, List.append_assoc]⟩) (fun a hI => by
        show Lqd _ _ = _
        rw [eqd_26]
        simp (disch := omega) only [push_cast]
        rw [hI, List.take_length]; rfl) 0 q (Nat.zero_le _) (by simp)
    simp (disch := omega) only [push_cast, hcr', hsub, hx0, zba _ _ _ _ s.things _ _ x V.srtT (by omega), decide_eq_true c1, zcb r.marked x (by omega), decide_eq_false c2]
    rw [zjq, zce]
    exact lp
  | nil =>
    rw [hqq] at hcr'
    have hu : unitM s r = if bestT s.things r.at_ < 0 then (⟨0, [], [], 0, 0, r.rounds + 1⟩, E0)
      else (⟨2, [], r.marked, r.top, (nth K0 s.things (bestT s.things r.at_).toNat).born, r.rounds⟩, if (nth K0 s.things (bestT s.things r.at_).toNat).sum ∈ r.marked ∨ held s (nth K0 s.things (bestT s.things r.at_).toNat).sum ∨ isRef s.things (nth K0 s.things (bestT s.things r.at_).toNat).sum then E0 else (nth K0 s.things (bestT s.things r.at_).toNat).sum) := by
      unfold unitM; rw [if_neg h0, hqq]
    rw [hu]
    have lp := zp (f := fun (i : Nat) (b : Int) => Lqd (some 35) [.i b, .l (encK s.things), .i (s.things.length : Int), .i (i : Int), .i s.width, .i s.now, .i s.given, .i s.births, .l (encK s.things), .l (encP s.pins), .l (encL s.leases), .i r.phase, .l (encS []), .l (encS r.marked), .i r.top, .i r.at_, .i r.rounds, .i 0, .i 0, .i 0, .i 0, .i 2, .i r.top, .i r.at_, .i r.rounds, .l [], .l [], .l (encS []), .l (encS r.marked)]) (n := s.things.length)
      (T := some (encNx (if bestT s.things r.at_ < 0 then ((⟨0, [], [], 0, 0, r.rounds + 1⟩ : Round), E0)
      else (⟨2, [], r.marked, r.top, (nth K0 s.things (bestT s.things r.at_).toNat).born, r.rounds⟩, if (nth K0 s.things (bestT s.things r.at_).toNat).sum ∈ r.marked ∨ held s (nth K0 s.things (bestT s.things r.at_).toNat).sum ∨ isRef s.things (nth K0 s.things (bestT s.things r.at_).toNat).sum then E0 else (nth K0 s.things (bestT s.things r.at_).toNat).sum)).1 (if bestT s.things r.at_ < 0 then ((⟨0, [], [], 0, 0, r.rounds + 1⟩ : Round), E0)
      else (⟨2, [], r.marked, r.top, (nth K0 s.things (bestT s.things r.at_).toNat).born, r.rounds⟩, if (nth K0 s.things (bestT s.things r.at_).toNat).sum ∈ r.marked ∨ held s (nth K0 s.things (bestT s.things r.at_).toNat).sum ∨ isRef s.things (nth K0 s.things (bestT s.things r.at_).toNat).sum then E0 else (nth K0 s.things (bestT s.things r.at_).toNat).sum)).2))
      (I := fun i b => b = bestI s.things r.at_ i) (fun i b hi hI => ⟨bestI s.things r.at_ (i + 1), by
        show Lqd _ _ = Lqd _ _
        have hb := zcu s.things r.at_ i
        rw [eqd_35]
        simp only [bestI]
        rw [← hI] at hb ⊢
        by_cases c1 : (nth K0 s.things i).born < r.at_
        rotate_left; · rw [if_neg fun h => c1 h.1]; simp (disch := omega) only [push_cast]
        by_cases c2 : b < 0
        · rw [if_pos ⟨c1, .inl c2⟩]; simp (disch := omega) only [push_cast]
        by_cases c3 : (nth K0 s.things b.toNat).born < (nth K0 s.things i).born
        · rw [if_pos ⟨c1, .inr c3⟩]; simp (disch := omega) only [push_cast]
        · rw [if_neg fun h => h.2.elim c2 c3]; simp (disch := omega) only [push_cast], rfl⟩) (fun b hI => by
        show Lqd _ _ = _
        have hbl := zcu s.things r.at_ s.things.length
        rw [← hI] at hbl
        rw [show bestT s.things r.at_ = b from hI.symm, eqd_35]
        by_cases c1 : b < 0
        · rw [if_pos c1]; simp (disch := omega) only [push_cast]; rfl
        rw [if_neg c1]
        obtain ⟨n, rfl⟩ : ∃ n : Nat, b = n := ⟨b.toNat, by omega⟩
        have hnl : n < s.things.length := by omega
        have hh := zi9 s (nth K0 s.things n).sum (by omega) (by omega)
        have hi := ziw s.width s.now s.given s.births s.things (encP s.pins) (encL s.leases) (nth K0 s.things n).sum (by omega) (fun k hk => by have := (V.okT k hk).1.refs; omega)
        have hh' : Lqi none [.s (nth K0 s.things n).sum, .i s.width, .i s.now, .i s.given, .i s.births, .l (encK s.things), .l (encP s.pins), .l (encL s.leases)] = _ := hh
        by_cases c2 : (nth K0 s.things n).sum ∈ r.marked
        · simp (disch := omega) only [push_cast, zcb r.marked (nth K0 s.things n).sum (by omega), decide_eq_true c2]
          rw [if_pos (Or.inl c2)]; rfl
        by_cases c3 : held s (nth K0 s.things n).sum
        · simp (disch := omega) only [push_cast, zcb r.marked (nth K0 s.things n).sum (by omega), decide_eq_false c2, hh', decide_eq_true c3]
          rw [if_pos (Or.inr (Or.inl c3))]; rfl
        by_cases c4 : isRef s.things (nth K0 s.things n).sum
        · simp (disch := omega) only [push_cast, zcb r.marked (nth K0 s.things n).sum (by omega), decide_eq_false c2, hh', decide_eq_false c3, hi, decide_eq_true c4]
          rw [if_pos (Or.inr (Or.inr c4))]; rfl
        · simp (disch := omega) only [push_cast, zcb r.marked (nth K0 s.things n).sum (by omega), decide_eq_false c2, hh', decide_eq_false c3, hi, decide_eq_false c4]
          rw [if_neg fun h => h.elim c2 fun h => h.elim c3 c4]; rfl) 0 (-1) (Nat.zero_le _) rfl
    simp (disch := omega) only [push_cast, hcr']
    exact lp
end KV
end
section
namespace KV
open Go Go.Eng
open Classical
def eDrop (x : Bs) : Entry := ⟨7, x, E0, 0, ⟨E0, []⟩⟩
theorem zhs {s : State} {r : Round} (V : VS s) (h : (unitM s r).2 ≠ E0) : hasT s.things (unitM s r).2 ∧ ¬ held s (unitM s r).2 ∧ ¬ isRef s.things (unitM s r).2 ∧ (unitM s r).2 ∉ r.marked ∧ r.phase ≠ 0 ∧ r.queue = [] := by
  unfold unitM at h ⊢
  split at h
  · exact absurd rfl h
  · rename_i h0
    rw [if_neg h0]
    split at h
    · split at h <;> exact absurd rfl h
    · rename_i hq
      split at h
      · exact absurd rfl h
      · rename_i hb
        rw [if_neg hb]
        simp only at h ⊢
        have hbl := zcu s.things r.at_ s.things.length
        have hbt : bestI s.things r.at_ s.things.length = bestT s.things r.at_ := rfl
        rw [hbt] at hbl
        split at h
        · exact absurd rfl h
        · rename_i hc
          rw [if_neg hc]
          have hm := zj (d := K0) (show (bestT s.things r.at_).toNat < s.things.length by omega)
          exact ⟨⟨_, hm, rfl⟩, fun h => hc (.inr (.inl h)), fun h => hc (.inr (.inr h)), fun h => hc (.inl h), h0, hq⟩
theorem zjg {s : State} {x : Bs} (V : VS s) (h1 : hasT s.things x) (h2 : ¬ held s x) (h3 : ¬ isRef s.things x) : x ≠ E0 ∧ zo (eDrop x) s.width = true ∧ (chg s (eDrop x)).code = 0 ∧ (chg s (eDrop x)).st = zz s x := by
  obtain ⟨k, hk, rfl⟩ := h1
  have hne := V.sumNe hk
  have hsz : (k.sum.size : Int) = s.width := by rw [(V.okT k hk).2.1]; exact zhv V.wd
  have hw : zm s.width = true := z8.2 V.wd
  refine ⟨hne, ?_, ?_, ?_⟩
  · have a1 : sumB 7 k.sum s.width = true := by
      unfold sumB; rw [if_pos (show uS 7 = true from rfl)]; exact decide_eq_true hsz
    have a2 : namB 7 E0 = true := by
      unfold namB; rw [if_neg (by decide)]; exact decide_eq_true rfl
    have a3 : thgB 7 ⟨E0, []⟩ s.width = true := by
      unfold thgB; rw [if_neg (by decide)]; rw [decide_eq_true (p := (E0 : Bs) = E0) rfl]; rfl
    show zo ⟨7, k.sum, E0, 0, ⟨E0, []⟩⟩ s.width = true
    unfold zo
    simp only
    rw [hw, a1, a2, a3]; rfl
  all_goals
    unfold chg
    rw [if_neg (show ¬ (eDrop k.sum).kind = 1 from (by show ¬ (7 : Int) = 1; omega)), if_neg (show ¬ (eDrop k.sum).kind = 2 from (by show ¬ (7 : Int) = 2; omega)), if_neg (show ¬ (eDrop k.sum).kind = 3 from (by show ¬ (7 : Int) = 3; omega)), if_neg (show ¬ (eDrop k.sum).kind = 4 from (by show ¬ (7 : Int) = 4; omega)), if_neg (show ¬ (eDrop k.sum).kind = 5 from (by show ¬ (7 : Int) = 5; omega)), if_neg (show ¬ (eDrop k.sum).kind = 6 from (by show ¬ (7 : Int) = 6; omega)), if_pos (show hasT s.things (eDrop k.sum).sum from ⟨k, hk, rfl⟩), if_neg (show ¬ (held s (eDrop k.sum).sum ∨ isRef s.things (eDrop k.sum).sum) from fun h => h.elim h2 h3)]
  · rfl
  · unfold zz; rw [if_neg hne]; rfl
theorem zis {s : State} {r : Round} (V : VS s) : VS (zz s (unitM s r).2) := by
  by_cases h : (unitM s r).2 = E0
  · unfold zz; rw [if_pos h]; exact V
  · obtain ⟨a, b, c, _⟩ := zhs V h
    obtain ⟨d, e, f, g⟩ := zjg V a b c
    rw [← g]; exact zib V e f
theorem znh (s : State) : (zbe s).length ≤ s.pins.length + s.leases.length := by
  unfold zbe
  have h1 := zcc (s.leases.map (·.sum)) ((s.pins.map (·.sum)).foldl addU [])
  have h2 := zcc (s.pins.map (·.sum)) []
  rw [List.length_map] at h1 h2
  simp at h2
  omega
theorem zh0 {s : State} {r : Round} (V : VS s) (h : RoundOk s.width s.births r) : (unitM s r).1.queue.length ≤ 23230 ∧ (unitM s r).1.marked.length ≤ 601 := by
  have hq := h.nQ; have hm := h.nM; have n2 := V.nP; have n3 := V.nL; have hr := znh s
  unfold unitM
  split
  · simp only; omega
  · split
    · rename_i x q hqq
      rw [hqq] at hq
      simp only [List.length_cons] at hq
      split
      · rename_i hc
        have hlt := ((zb2 V.srtT x).1 hc.1).1
        have hrl := (V.okT _ (zj (d := K0) hlt)).1.refs
        have := List.length_filter_le (fun y => !decide (y ∈ r.marked ++ [x])) (nth K0 s.things (lb (qK x) s.things)).thing.refs
        simp only [List.length_append, List.length_cons, List.length_nil]
        omega
      · simp only; omega
    · split
      · simp
      · simp only [List.length_nil]; omega
structure VQ (v : Vault) : Prop where
  wd : zm v.width = true
  lim : 0 ≤ v.limit ∧ v.limit ≤ 1000000
  log : LogOk v.safe v.loose
  run : runL v.width (empty v.width) (v.safe ++ v.loose) 0 = .inl v.st
  nq : v.rd.queue.length ≤ 23230
  nm : v.rd.marked.length ≤ 601
  rd : v.rd.queue.length ≤ 23200 → v.rd.marked.length ≤ 600 → RoundOk v.st.width v.st.births v.rd
theorem VQ.vs {v : Vault} (h : VQ v) : VS v.st ∧ v.st.width = v.width := zf1 _ _ _ _ (zj4 (z8.1 h.wd)) rfl h.run
end KV
end
section
namespace KV
open Go Go.Eng
open Classical
def GV (v : Vault) : Prop := VV v ∨ v = V0
theorem GV.nT {v : Vault} (h : GV v) : v.st.things.length ≤ 1000000 ∧ v.st.leases.length ≤ 1000000 := by
  rcases h with h | rfl
  · have h1 := h.vs.1.nT; have h2 := h.vs.1.nL; omega
  · exact ⟨Nat.zero_le _, Nat.zero_le _⟩
end KV
end
section
namespace KV
open Go Go.Eng
open Classical
structure BS (s : State) : Prop where
  nT : s.things.length ≤ 1000
  nP : s.pins.length ≤ 1000
  nL : s.leases.length ≤ 1000
  t : ∀ k ∈ s.things, 1 + szs k.thing.refs + k.thing.text.size ≤ 1000000 ∧ k.thing.refs.length ≤ 40 ∧ k.thing.text.size ≤ 3000 ∧ k.sum.size ≤ 100
  nm : ∀ p ∈ s.pins, p.name.size ≤ 100
  ints : (-10 ≤ s.width ∧ s.width ≤ 100) ∧ (-1 ≤ s.now ∧ s.now ≤ 1000001000) ∧ (-1 ≤ s.given ∧ s.given ≤ 1000001000) ∧ (-1 ≤ s.births ∧ s.births ≤ 1000001000)
theorem BS.names {s : State} (h : BS s) : ∀ p ∈ s.pins, p.name.size ≤ 4611686018427387904 := fun p hp => by have := h.nm p hp; omega
theorem VS.bs {s : State} (V : VS s) : BS s := by
  have h1 := V.nT; have h2 := V.nP; have h3 := V.nL; have a := V.wd; have b := V.now; have c := V.given; have d := V.births
  exact ⟨by omega, by omega, by omega, fun k hk => by
    have := zc9 (V.okT k hk).1; have := (V.okT k hk).1.text
    have hz : ((sumM (formM k.thing) s.width).size : Int) = s.width := zjm (z8.2 V.wd)
    rw [← (V.okT k hk).2.1] at hz
    omega, fun p hp => by have := (V.okP p hp).1.hi; omega, by omega, by omega, by omega, by omega⟩
end KV
end
section
namespace KV
open Go Go.Eng
open Classical
def GS (s : State) : Prop := VS s ∨ s = ⟨0, 0, 0, 0, [], [], []⟩
theorem GS.bs {s : State} (h : GS s) : BS s := by
  rcases h with h | rfl
  · exact h.bs
  · exact ⟨Nat.zero_le _, Nat.zero_le _, Nat.zero_le _, (fun k hk => nomatch hk), (fun k hk => nomatch hk), by simp⟩
theorem GS.now {s : State} (h : GS s) : (0 ≤ s.now ∧ s.now ≤ 1000000000) ∧ (0 ≤ s.given ∧ s.given ≤ 1000000000) ∧ (0 ≤ s.births ∧ s.births ≤ 1000000000) ∧ (0 ≤ s.width ∧ s.width ≤ 8) := by
  rcases h with h | rfl
  · have := h.wd; exact ⟨h.now, h.given, h.births, by omega⟩
  · simp
end KV
end
section
namespace KV
open Go Go.Eng
open Classical
def h4 : Rw := [[.i 0], [.i 1], [.i 100000], [.i 100001]]
theorem zma {α : Type} {c c' : Bool} {a b : α} (h : c = c') : cond c a b = cond c' a b := by rw [h]
theorem zl3 {α β : Type} {x y : Option α} {f : α → Option β} (h : x = y) : x.bind f = y.bind f := by rw [h]
attribute [local congr] zma zl3
end KV
end
section
namespace KV
open Go Go.Eng
open Classical
theorem zf3 {α : Type} (d : α) {R : α → α → Prop} (tr : ∀ a b c, R a b → R b c → R a c) (l : List α) : l.Pairwise R ↔ ∀ j, 0 < j → j < l.length → R (nth d l (j - 1)) (nth d l j) := by
  constructor
  · intro h j h1 h2; exact zd8 d h (by omega) h2
  · intro h
    rw [List.pairwise_iff_getElem]
    intro i j hi hj hij
    rw [← zn d l i hi, ← zn d l j hj]
    have : ∀ k, i + k + 1 < l.length → R (nth d l i) (nth d l (i + k + 1)) := by
      intro k
      induction k with
      | zero => intro hk; have := h (i + 1) (by omega) hk; rwa [Nat.add_sub_cancel] at this
      | succ k ih => intro hk; exact tr _ _ _ (ih (by omega)) (by have := h (i + (k + 1) + 1) (by omega) hk; rwa [Nat.add_sub_cancel] at this)
    have := this (j - i - 1) (by omega)
    rwa [show i + (j - i - 1) + 1 = j by omega] at this
def setI (ks : List Int) : List (C × C) := ks.map fun k => (.i k, .b true)
theorem ceq_i (k : IntKind) (x y : Int) : ceq (.i k) (.i x) (.i y) = decide (x = y) := by
  show (x == y) = _
  by_cases h : x = y
  · subst h; simp
  · simp [h]
theorem zje (x : Int) : ∀ ks : List Int, mget (.i .i64) (.i x) (setI ks) = if x ∈ ks then some (.b true) else none
  | [] => by simp [setI, mget]
  | k :: ks => by
    show cond (ceq (.i .i64) (.i x) (.i k)) (some (.b true)) (mget (.i .i64) (.i x) (setI ks)) = _
    rw [ceq_i, zje x ks]
    by_cases h : x = k
    · subst h; simp
    · simp [h]
theorem zf5 (x : Int) : ∀ ks : List Int, x ∉ ks → mput (.i .i64) (.i x) (.b true) (setI ks) = setI (ks ++ [x])
  | [], _ => by simp [setI, mput]
  | k :: ks, h => by
    show cond (ceq (.i .i64) (.i x) (.i k)) _ _ = _
    rw [ceq_i, decide_eq_false (fun e => h (by rw [e]; simp)), cond_false]
    show (C.i k, C.b true) :: mput (.i .i64) (.i x) (.b true) (setI ks) = _
    rw [zf5 x ks (fun e => h (by simp [e]))]; rfl
theorem inI (x : Int) (ks : List Int) : (((mget (.i .i64) (.i x) (setI ks)).getD (.b false)).bool) = decide (x ∈ ks) := by
  rw [zje]
  by_cases h : x ∈ ks
  · rw [if_pos h, decide_eq_true h]; rfl
  · rw [if_neg h, decide_eq_false h]; rfl
def bsT (T : List Kept) (i : Nat) : List Int := (T.take i).map (·.born)
theorem bsT_S (T : List Kept) (i : Nat) (h : i < T.length) : bsT T (i + 1) = bsT T i ++ [(nth K0 T i).born] := by
  unfold bsT
  rw [zn K0 T i h, List.take_add_one, List.map_append, List.getElem?_eq_getElem h]; rfl
structure tP (w births : Int) (T : List Kept) (j : Nat) : Prop where
  adj : 0 < j → slt (nth K0 T (j - 1)).sum (nth K0 T j).sum = true
  ok : ThingOk (nth K0 T j).thing w
  sum : (nth K0 T j).sum = sumM (formM (nth K0 T j).thing) w
  lo : 1 ≤ (nth K0 T j).born
  hi : (nth K0 T j).born ≤ births
  new : (nth K0 T j).born ∉ bsT T j
theorem zpr (T : List Kept) : (T.map (·.born)).Nodup ↔ ∀ j, 0 ≤ j → j < T.length → (nth K0 T j).born ∉ bsT T j := by
  constructor
  · intro h j _ hj hm
    obtain ⟨a, ha, he⟩ := List.mem_map.1 hm
    obtain ⟨i, hi, rfl⟩ := List.mem_iff_getElem.1 ha
    rw [List.length_take] at hi
    rw [List.getElem_take] at he
    have := List.pairwise_iff_getElem.1 h i j (by rw [List.length_map]; omega) (by rw [List.length_map]; omega) (by omega)
    rw [List.getElem_map, List.getElem_map] at this
    rw [zn K0 T j hj] at he
    exact this he
  · intro h
    rw [List.Nodup, List.pairwise_iff_getElem]
    intro i j hi hj hij he
    rw [List.length_map] at hi hj
    rw [List.getElem_map, List.getElem_map] at he
    apply h j (Nat.zero_le _) hj
    rw [zn K0 T j hj, ← he]
    exact List.mem_map.2 ⟨_, List.mem_take_iff_getElem.2 ⟨i, by omega, rfl⟩, rfl⟩
theorem zgb (w births : Int) (T : List Kept) : (∀ j, 0 ≤ j → j < T.length → tP w births T j) ↔ SrtK T ∧ (∀ k ∈ T, ThingOk k.thing w ∧ k.sum = sumM (formM k.thing) w ∧ 1 ≤ k.born ∧ k.born ≤ births) ∧ (T.map (·.born)).Nodup := by
  rw [zpr, show SrtK T ↔ _ from zf3 K0 (R := fun a b => slt a.sum b.sum = true) (fun a b c h1 h2 => zb0 h1 h2) T]
  constructor
  · intro h
    refine ⟨fun j h1 h2 => (h j (by omega) h2).adj h1, fun k hk => ?_, fun j h1 h2 => (h j h1 h2).new⟩
    obtain ⟨j, hj, rfl⟩ := zbr K0 hk
    have := h j (Nat.zero_le _) hj
    exact ⟨this.ok, this.sum, this.lo, this.hi⟩
  · rintro ⟨h1, h2, h3⟩ j h4 h5
    have := h2 _ (zj (d := K0) h5)
    exact ⟨fun h => h1 j h h5, this.1, this.2.1, this.2.2.1, this.2.2.2, h3 j h4 h5⟩
def refIn (T : List Kept) (b : Int) (r : Bs) : Prop := hasT T r ∧ (nth K0 T (lb (qK r) T)).born < b
theorem zhn {T : List Kept} (h : SrtK T) (b : Int) (r : Bs) : refIn T b r ↔ ∃ j ∈ T, j.sum = r ∧ j.born < b := by
  constructor
  · rintro ⟨h1, h2⟩
    obtain ⟨h3, h4⟩ := (zb2 h r).1 h1
    exact ⟨_, zj h3, h4, h2⟩
  · rintro ⟨k, hk, rfl, hb⟩
    obtain ⟨j, hj, rfl⟩ := zbr K0 hk
    have := zdb K0 h (kp (nth K0 T j).sum) (kR (nth K0 T j).sum) hj rfl
    refine ⟨⟨_, zj hj, rfl⟩, ?_⟩
    rw [← this]; exact hb
structure pP (T : List Kept) (P : List Pin) (j : Nat) : Prop where
  has : hasT T (nth P0 P j).sum
  nm : NameOk (nth P0 P j).name
  adj : 0 < j → slt (nth P0 P (j - 1)).name (nth P0 P j).name = true
theorem zml (T : List Kept) (P : List Pin) : (∀ j, 0 ≤ j → j < P.length → pP T P j) ↔ SrtP P ∧ ∀ p ∈ P, NameOk p.name ∧ hasT T p.sum := by
  rw [show SrtP P ↔ _ from zf3 P0 (R := fun a b => slt a.name b.name = true) (fun a b c h1 h2 => zb0 h1 h2) P]
  constructor
  · intro h
    refine ⟨fun j h1 h2 => (h j (by omega) h2).adj h1, fun k hk => ?_⟩
    obtain ⟨j, hj, rfl⟩ := zbr P0 hk
    have := h j (Nat.zero_le _) hj
    exact ⟨this.nm, this.has⟩
  · rintro ⟨h1, h2⟩ j h4 h5
    have := h2 _ (zj (d := P0) h5)
    exact ⟨this.2, this.1, fun h => h1 j h h5⟩
structure lP (now given : Int) (T : List Kept) (L : List Lease) (j : Nat) : Prop where
  has : hasT T (nth L0 L j).sum
  lo : 1 ≤ (nth L0 L j).number
  hi : (nth L0 L j).number ≤ given
  adj : 0 < j → (nth L0 L (j - 1)).number < (nth L0 L j).number
  t1 : now < (nth L0 L j).till
  t2 : (nth L0 L j).till ≤ now + 100000
theorem zl9 (now given : Int) (T : List Kept) (L : List Lease) : (∀ j, 0 ≤ j → j < L.length → lP now given T L j) ↔ SrtL L ∧ ∀ l ∈ L, 1 ≤ l.number ∧ l.number ≤ given ∧ hasT T l.sum ∧ now < l.till ∧ l.till ≤ now + 100000 := by
  rw [show SrtL L ↔ _ from zf3 L0 (R := fun a b => a.number < b.number) (fun a b c h1 h2 => Int.lt_trans h1 h2) L]
  constructor
  · intro h
    refine ⟨fun j h1 h2 => (h j (by omega) h2).adj h1, fun k hk => ?_⟩
    obtain ⟨j, hj, rfl⟩ := zbr L0 hk
    have := h j (Nat.zero_le _) hj
    exact ⟨this.lo, this.hi, this.has, this.t1, this.t2⟩
  · rintro ⟨h1, h2⟩ j h4 h5
    have := h2 _ (zj (d := L0) h5)
    exact ⟨this.2.2.1, this.1, this.2.1, fun h => h1 j h h5, this.2.2.2.1, this.2.2.2.2⟩
theorem zjc (s : State) : VS s ↔ (1 ≤ s.width ∧ s.width ≤ 8) ∧ (0 ≤ s.now ∧ s.now ≤ 1000000000) ∧ (0 ≤ s.given ∧ s.given ≤ 1000000000) ∧ (0 ≤ s.births ∧ s.births ≤ 1000000000) ∧ s.things.length ≤ 600 ∧ s.pins.length ≤ 100 ∧ s.leases.length ≤ 200 ∧
    (∀ j, 0 ≤ j → j < s.things.length → tP s.width s.births s.things j) ∧ (∀ j, 0 ≤ j → j < s.things.length → ∀ i, 0 ≤ i → i < (nth K0 s.things j).thing.refs.length → refIn s.things (nth K0 s.things j).born (nth .empty (nth K0 s.things j).thing.refs i)) ∧
    (∀ j, 0 ≤ j → j < s.pins.length → pP s.things s.pins j) ∧ (∀ j, 0 ≤ j → j < s.leases.length → lP s.now s.given s.things s.leases j) := by
  rw [zgb, zml, zl9]
  constructor
  · intro V
    refine ⟨V.wd, V.now, V.given, V.births, V.nT, V.nP, V.nL, ⟨V.srtT, V.okT, V.ndT⟩, fun j _ hj i _ hi => (zhn V.srtT _ _).2 (V.refs _ (zj hj) _ (zj hi)), ⟨V.srtP, V.okP⟩, ⟨V.srtL, V.okL⟩⟩
  · rintro ⟨a, b, c, d, e, f, g, ⟨h1, h2, h3⟩, i, ⟨j1, j2⟩, ⟨k1, k2⟩⟩
    refine ⟨a, b, c, d, e, f, g, h1, h2, h3, fun k hk r hr => ?_, j1, j2, k1, k2⟩
    obtain ⟨m, hm, rfl⟩ := zbr K0 hk
    obtain ⟨n, hn, rfl⟩ := zbr .empty hr
    exact (zhn h1 _ _).1 (i m (Nat.zero_le _) hm n (Nat.zero_le _) hn)
section
variable {s : State}
theorem znc (hn : 0 ≤ s.now ∧ s.now ≤ 1000000000) (hT : SrtK s.things) (nT : s.things.length ≤ 600) (nL : s.leases.length ≤ 200) : Lqb (some 30) [.l (encL s.leases), .i (s.leases.length : Int), .i 0, .i s.width, .i s.now, .i s.given, .i s.births, .l (encK s.things), .l (encP s.pins), .l (encL s.leases)]
    = if (∀ j, 0 ≤ j → j < s.leases.length → lP s.now s.given s.things s.leases j) then some [.b true] else some [.b false] := by
  refine zt (f := fun i : Nat => Lqb (some 30) [.l (encL s.leases), .i (s.leases.length : Int), .i (i : Int), .i s.width, .i s.now, .i s.given, .i s.births, .l (encK s.things), .l (encP s.pins), .l (encL s.leases)]) (fun i hi => ?_) ?_ 0 (Nat.zero_le _)
  · show (_ → Lqb _ _ = Lqb _ _) ∧ (_ → Lqb _ _ = _)
    rw [eqb_30]
    simp (disch := omega) only [push_cast, zba s.width s.now s.given s.births s.things (encP s.pins) (encL s.leases) (nth L0 s.leases i).sum hT (by omega)]
    by_cases c1 : hasT s.things (nth L0 s.leases i).sum
    rotate_left; · exact ⟨fun h => absurd h.has c1, fun _ => by simp (disch := omega) only [push_cast]⟩
    by_cases c2 : 1 ≤ (nth L0 s.leases i).number
    rotate_left; · exact ⟨fun h => absurd h.lo c2, fun _ => by simp (disch := omega) only [push_cast]⟩
    by_cases c3 : (nth L0 s.leases i).number ≤ s.given
    rotate_left; · exact ⟨fun h => absurd h.hi c3, fun _ => by simp (disch := omega) only [push_cast]⟩
    by_cases c0 : 0 < i
    · by_cases c4 : (nth L0 s.leases (i - 1)).number < (nth L0 s.leases i).number
      rotate_left; · exact ⟨fun h => absurd (h.adj c0) c4, fun _ => by simp (disch := omega) only [push_cast]⟩
      by_cases c5 : s.now < (nth L0 s.leases i).till
      rotate_left; · exact ⟨fun h => absurd h.t1 c5, fun _ => by simp (disch := omega) only [push_cast]⟩
      by_cases c6 : (nth L0 s.leases i).till ≤ s.now + 100000
      rotate_left; · exact ⟨fun h => absurd h.t2 c6, fun _ => by simp (disch := omega) only [push_cast]⟩
      exact ⟨fun _ => by simp (disch := omega) only [push_cast] <;> rfl, fun h => absurd ⟨c1, c2, c3, fun _ => c4, c5, c6⟩ h⟩
    · by_cases c5 : s.now < (nth L0 s.leases i).till
      rotate_left; · exact ⟨fun h => absurd h.t1 c5, fun _ => by simp (disch := omega) only [push_cast]⟩
      by_cases c6 : (nth L0 s.leases i).till ≤ s.now + 100000
      rotate_left; · exact ⟨fun h => absurd h.t2 c6, fun _ => by simp (disch := omega) only [push_cast]⟩
      exact ⟨fun _ => by simp (disch := omega) only [push_cast] <;> rfl, fun h => absurd ⟨c1, c2, c3, fun h => absurd h c0, c5, c6⟩ h⟩
  · show Lqb _ _ = _
    rw [eqb_30]; simp (disch := omega) only [push_cast]
theorem zph (hT : SrtK s.things) (nT : s.things.length ≤ 600) (nP : s.pins.length ≤ 100) (hN : ∀ p ∈ s.pins, p.name.size ≤ 4611686018427387904) : Lqb (some 23) [.l (encP s.pins), .i (s.pins.length : Int), .i 0, .i s.width, .i s.now, .i s.given, .i s.births, .l (encK s.things), .l (encP s.pins), .l (encL s.leases)]
    = if (∀ j, 0 ≤ j → j < s.pins.length → pP s.things s.pins j) then Lqb (some 30) [.l (encL s.leases), .i (s.leases.length : Int), .i 0, .i s.width, .i s.now, .i s.given, .i s.births, .l (encK s.things), .l (encP s.pins), .l (encL s.leases)] else some [.b false] := by
  refine zt (f := fun i : Nat => Lqb (some 23) [.l (encP s.pins), .i (s.pins.length : Int), .i (i : Int), .i s.width, .i s.now, .i s.given, .i s.births, .l (encK s.things), .l (encP s.pins), .l (encL s.leases)]) (fun i hi => ?_) ?_ 0 (Nat.zero_le _)
  · show (_ → Lqb _ _ = Lqb _ _) ∧ (_ → Lqb _ _ = _)
    rw [eqb_23]
    simp (disch := omega) only [push_cast, zba s.width s.now s.given s.births s.things (encP s.pins) (encL s.leases) (nth P0 s.pins i).sum hT (by omega), zkv (nth P0 s.pins i).name (hN _ (zj hi))]
    by_cases c1 : hasT s.things (nth P0 s.pins i).sum
    rotate_left; · exact ⟨fun h => absurd h.has c1, fun _ => by simp (disch := omega) only [push_cast]⟩
    by_cases c2 : NameOk (nth P0 s.pins i).name
    rotate_left; · exact ⟨fun h => absurd h.nm c2, fun _ => by unfold nameB; simp (disch := omega) only [push_cast]⟩
    unfold nameB
    by_cases c0 : 0 < i
    · cases c4 : slt (nth P0 s.pins (i - 1)).name (nth P0 s.pins i).name
      · exact ⟨fun h => absurd (h.adj c0) (by simp [c4]), fun _ => by simp (disch := omega) only [push_cast, c4]⟩
      · exact ⟨fun _ => by simp (disch := omega) only [push_cast, c4] <;> rfl, fun h => absurd ⟨c1, c2, fun _ => c4⟩ h⟩
    · exact ⟨fun _ => by simp (disch := omega) only [push_cast] <;> rfl, fun h => absurd ⟨c1, c2, fun h => absurd h c0⟩ h⟩
  · show Lqb _ _ = _
    rw [eqb_23]; simp (disch := omega) only [push_cast]
theorem zn2 (hT : SrtK s.things) (nT : s.things.length ≤ 600) (hR : ∀ k ∈ s.things, k.thing.refs.length ≤ 30) : Lqb (some 12) [.l (encK s.things), .i (s.things.length : Int), .i 0, .i s.width, .i s.now, .i s.given, .i s.births, .l (encK s.things), .l (encP s.pins), .l (encL s.leases)]
    = if (∀ j, 0 ≤ j → j < s.things.length → ∀ i, 0 ≤ i → i < (nth K0 s.things j).thing.refs.length → refIn s.things (nth K0 s.things j).born (nth .empty (nth K0 s.things j).thing.refs i)) then Lqb (some 23) [.l (encP s.pins), .i (s.pins.length : Int), .i 0, .i s.width, .i s.now, .i s.given, .i s.births, .l (encK s.things), .l (encP s.pins), .l (encL s.leases)] else some [.b false] := by
  refine zt (f := fun i : Nat => Lqb (some 12) [.l (encK s.things), .i (s.things.length : Int), .i (i : Int), .i s.width, .i s.now, .i s.given, .i s.births, .l (encK s.things), .l (encP s.pins), .l (encL s.leases)]) (P := fun j => ∀ i, 0 ≤ i → i < (nth K0 s.things j).thing.refs.length → refIn s.things (nth K0 s.things j).born (nth .empty (nth K0 s.things j).thing.refs i)) (fun i hi => ?_) ?_ 0 (Nat.zero_le _)
  · have hr := hR _ (zj (d := K0) hi)
    have inner := zt (f := fun j : Nat => Lqb (some 15) [.l (encK s.things), .i (s.things.length : Int), .i (i : Int), .l (encS (nth K0 s.things i).thing.refs), .i ((nth K0 s.things i).thing.refs.length : Int), .i (j : Int), .i s.width, .i s.now, .i s.given, .i s.births, .l (encK s.things), .l (encP s.pins), .l (encL s.leases), .s (nth K0 s.things i).sum, .i (nth K0 s.things i).born, .s (nth K0 s.things i).thing.text, .l (encS (nth K0 s.things i).thing.refs)])
      (P := fun j => refIn s.things (nth K0 s.things i).born (nth .empty (nth K0 s.things i).thing.refs j)) (n := (nth K0 s.things i).thing.refs.length) (T := Lqb (some 12) [.l (encK s.things), .i (s.things.length : Int), .i ((i + 1 : Nat) : Int), .i s.width, .i s.now, .i s.given, .i s.births, .l (encK s.things), .l (encP s.pins), .l (encL s.leases)]) (F := some [.b false])
      (fun j hj => by
        show (_ → Lqb _ _ = Lqb _ _) ∧ (_ → Lqb _ _ = _)
        rw [eqb_15]
        simp (disch := omega) only [push_cast, zba s.width s.now s.given s.births s.things (encP s.pins) (encL s.leases) (nth .empty (nth K0 s.things i).thing.refs j) hT (by omega)]
        by_cases c1 : hasT s.things (nth .empty (nth K0 s.things i).thing.refs j)
        rotate_left; · exact ⟨fun h => absurd h.1 c1, fun _ => by simp (disch := omega) only [push_cast]⟩
        have hl := ((zb2 hT _).1 c1).1
        by_cases c2 : (nth K0 s.things (lb (qK (nth .empty (nth K0 s.things i).thing.refs j)) s.things)).born < (nth K0 s.things i).born
        rotate_left; · exact ⟨fun h => absurd h.2 c2, fun _ => by simp (disch := omega) only [push_cast]⟩
        exact ⟨fun _ => by simp (disch := omega) only [push_cast] <;> rfl, fun h => absurd ⟨c1, c2⟩ h⟩)
      (by show Lqb _ _ = Lqb _ _; rw [eqb_15]; simp (disch := omega) only [push_cast] <;> rfl) 0 (Nat.zero_le _)
    show (_ → Lqb _ _ = Lqb _ _) ∧ (_ → Lqb _ _ = _)
    rw [eqb_12]
    simp (disch := omega) only [push_cast]
    have inner' : Lqb (some 15) [.l (encK s.things), .i (s.things.length : Int), .i (i : Int), .l (encS (nth K0 s.things i).thing.refs), .i ((nth K0 s.things i).thing.refs.length : Int), .i 0, .i s.width, .i s.now, .i s.given, .i s.births, .l (encK s.things), .l (encP s.pins), .l (encL s.leases), .s (nth K0 s.things i).sum, .i (nth K0 s.things i).born, .s (nth K0 s.things i).thing.text, .l (encS (nth K0 s.things i).thing.refs)] = _ := inner
    rw [inner']
    exact ⟨fun h => if_pos h, fun h => if_neg h⟩
  · show Lqb _ _ = _
    rw [eqb_12]; simp (disch := omega) only [push_cast]
theorem ivs_5 (nT : s.things.length ≤ 600) : Lqb (some 5) [.l (encK s.things), .i (s.things.length : Int), .i 0, .i s.width, .i s.now, .i s.given, .i s.births, .l (encK s.things), .l (encP s.pins), .l (encL s.leases), .m []]
    = if (∀ j, 0 ≤ j → j < s.things.length → tP s.width s.births s.things j) then Lqb (some 12) [.l (encK s.things), .i (s.things.length : Int), .i 0, .i s.width, .i s.now, .i s.given, .i s.births, .l (encK s.things), .l (encP s.pins), .l (encL s.leases)] else some [.b false] := by
  refine zt (f := fun i : Nat => Lqb (some 5) [.l (encK s.things), .i (s.things.length : Int), .i (i : Int), .i s.width, .i s.now, .i s.given, .i s.births, .l (encK s.things), .l (encP s.pins), .l (encL s.leases), .m (setI (bsT s.things i))]) (fun i hi => ?_) ?_ 0 (Nat.zero_le _)
  · show (_ → Lqb _ _ = Lqb _ _) ∧ (_ → Lqb _ _ = _)
    rw [eqb_5, bsT_S _ _ hi]
    by_cases c1 : ThingOk (nth K0 s.things i).thing s.width
    rotate_left
    · refine ⟨fun h => absurd h.ok c1, fun _ => ?_⟩
      have : z0 (nth K0 s.things i).thing s.width = false := decide_eq_false c1
      by_cases c0 : 0 < i
      · cases c4 : slt (nth K0 s.things (i - 1)).sum (nth K0 s.things i).sum <;> simp (disch := omega) only [push_cast, zbn, c4, this]
      · simp (disch := omega) only [push_cast, zbn, this]
    have ht : z0 (nth K0 s.things i).thing s.width = true := decide_eq_true c1
    have hz : (formM (nth K0 s.things i).thing).size ≤ 1099511627776 := by
      rw [ze1]; have := zc9 c1; omega
    by_cases c2 : (nth K0 s.things i).sum = sumM (formM (nth K0 s.things i).thing) s.width
    rotate_left
    · refine ⟨fun h => absurd h.sum c2, fun _ => ?_⟩
      by_cases c0 : 0 < i
      · cases c4 : slt (nth K0 s.things (i - 1)).sum (nth K0 s.things i).sum <;> simp (disch := omega) only [push_cast, zbn, c4, ht, zbi c1, zbv _ s.width hz]
      · simp (disch := omega) only [push_cast, zbn, ht, zbi c1, zbv _ s.width hz]
    by_cases c3 : 1 ≤ (nth K0 s.things i).born
    rotate_left
    · refine ⟨fun h => absurd h.lo c3, fun _ => ?_⟩
      by_cases c0 : 0 < i
      · cases c4 : slt (nth K0 s.things (i - 1)).sum (nth K0 s.things i).sum <;> simp (disch := omega) only [push_cast, zbn, c4, ht, zbi c1, zbv _ s.width hz]
      · simp (disch := omega) only [push_cast, zbn, ht, zbi c1, zbv _ s.width hz]
    by_cases c5 : (nth K0 s.things i).born ≤ s.births
    rotate_left
    · refine ⟨fun h => absurd h.hi c5, fun _ => ?_⟩
      by_cases c0 : 0 < i
      · cases c4 : slt (nth K0 s.things (i - 1)).sum (nth K0 s.things i).sum <;> simp (disch := omega) only [push_cast, zbn, c4, ht, zbi c1, zbv _ s.width hz]
      · simp (disch := omega) only [push_cast, zbn, ht, zbi c1, zbv _ s.width hz]
    by_cases c6 : (nth K0 s.things i).born ∈ bsT s.things i
    · refine ⟨fun h => absurd c6 h.new, fun _ => ?_⟩
      by_cases c0 : 0 < i
      · cases c4 : slt (nth K0 s.things (i - 1)).sum (nth K0 s.things i).sum <;> simp (disch := omega) only [push_cast, zbn, c4, ht, zbi c1, zbv _ s.width hz, inI]
      · simp (disch := omega) only [push_cast, zbn, ht, zbi c1, zbv _ s.width hz, inI]
    by_cases c0 : 0 < i
    · cases c4 : slt (nth K0 s.things (i - 1)).sum (nth K0 s.things i).sum
      · exact ⟨fun h => absurd (h.adj c0) (by simp [c4]), fun _ => by simp (disch := omega) only [push_cast, c4]⟩
      · exact ⟨fun _ => by simp (disch := omega) only [push_cast, zbn, c4, ht, zbi c1, zbv _ s.width hz, ← c2, inI, zf5 _ _ c6] <;> rfl, fun h => absurd ⟨fun _ => c4, c1, c2, c3, c5, c6⟩ h⟩
    · exact ⟨fun _ => by simp (disch := omega) only [push_cast, zbn, ht, zbi c1, zbv _ s.width hz, ← c2, inI, zf5 _ _ c6] <;> rfl, fun h => absurd ⟨fun h => absurd h c0, c1, c2, c3, c5, c6⟩ h⟩
  · show Lqb _ _ = _
    rw [eqb_5]; simp (disch := omega) only [push_cast]
theorem znk (s : State) (hN : ∀ p ∈ s.pins, p.name.size ≤ 4611686018427387904) : Lqb none (encSt s) = some [.b (decide (VS s))] := by
  unfold encSt
  rw [eqb_i]
  have hv := zjc s
  by_cases h1 : 1 ≤ s.width ∧ s.width ≤ 8
  rotate_left; · rw [decide_eq_false fun V : VS s => h1 V.wd]; have : zm s.width = false := by cases h : zm s.width; { rfl }; { exact absurd (z8.1 h) h1 }
                 simp (disch := omega) only [push_cast, zb1, this]
  have hw : zm s.width = true := z8.2 h1
  by_cases h2 : 0 ≤ s.now ∧ s.now ≤ 1000000000
  rotate_left; · rw [decide_eq_false fun V : VS s => h2 V.now]; simp (disch := omega) only [push_cast, zb1, hw, zbw]
  by_cases h3 : 0 ≤ s.given ∧ s.given ≤ 1000000000
  rotate_left; · rw [decide_eq_false fun V : VS s => h3 V.given]; simp (disch := omega) only [push_cast, zb1, hw, zbw]
  by_cases h4 : 0 ≤ s.births ∧ s.births ≤ 1000000000
  rotate_left; · rw [decide_eq_false fun V : VS s => h4 V.births]; simp (disch := omega) only [push_cast, zb1, hw, zbw]
  by_cases h5 : s.things.length ≤ 600
  rotate_left; · rw [decide_eq_false fun V : VS s => h5 V.nT]; simp (disch := omega) only [push_cast, zb1, hw, zbw]
  by_cases h6 : s.pins.length ≤ 100
  rotate_left; · rw [decide_eq_false fun V : VS s => h6 V.nP]; simp (disch := omega) only [push_cast, zb1, hw, zbw]
  by_cases h7 : s.leases.length ≤ 200
  rotate_left; · rw [decide_eq_false fun V : VS s => h7 V.nL]; simp (disch := omega) only [push_cast, zb1, hw, zbw]
  simp (disch := omega) only [push_cast, zb1, hw, zbw, ivs_5 h5]
  by_cases h8 : ∀ j, 0 ≤ j → j < s.things.length → tP s.width s.births s.things j
  rotate_left; · rw [if_neg h8, decide_eq_false fun V : VS s => h8 (hv.1 V).2.2.2.2.2.2.2.1]
  have hs := (zgb _ _ _).1 h8
  rw [if_pos h8, zn2 hs.1 h5 fun k hk => (hs.2.1 k hk).1.refs]
  by_cases h9 : ∀ j, 0 ≤ j → j < s.things.length → ∀ i, 0 ≤ i → i < (nth K0 s.things j).thing.refs.length → refIn s.things (nth K0 s.things j).born (nth .empty (nth K0 s.things j).thing.refs i)
  rotate_left; · rw [if_neg h9, decide_eq_false fun V : VS s => h9 (hv.1 V).2.2.2.2.2.2.2.2.1]
  rw [if_pos h9, zph hs.1 h5 h6 hN]
  by_cases h10 : ∀ j, 0 ≤ j → j < s.pins.length → pP s.things s.pins j
  rotate_left; · rw [if_neg h10, decide_eq_false fun V : VS s => h10 (hv.1 V).2.2.2.2.2.2.2.2.2.1]
  rw [if_pos h10, znc h2 hs.1 h5 h7]
  by_cases h11 : ∀ j, 0 ≤ j → j < s.leases.length → lP s.now s.given s.things s.leases j
  rotate_left; · rw [if_neg h11, decide_eq_false fun V : VS s => h11 (hv.1 V).2.2.2.2.2.2.2.2.2.2]
  rw [if_pos h11, decide_eq_true (hv.2 ⟨h1, h2, h3, h4, h5, h6, h7, h8, h9, h10, h11⟩)]
end
theorem VS.names {s : State} (V : VS s) : ∀ p ∈ s.pins, p.name.size ≤ 4611686018427387904 := fun p hp => by have := (V.okP p hp).1.hi; omega
end KV
end
section
namespace KV
open Go Go.Eng
open Classical
noncomputable def near (T : List Kept) (i : Nat) : Rw := (List.range 601).map fun b : Nat => [.b (decide ((b : Int) ∈ bsT T i))]
def farL (T : List Kept) (i : Nat) : List Int := (bsT T i).filter fun b => decide (600 < b)
def encN (l : List Int) : Rw := l.map fun n => [.i n]
@[push_cast] theorem zp3 (l : List Int) : (encN l).length = l.length := by simp [encN]
@[push_cast] theorem zp1 (l : List Int) (i : Nat) : (rd (encN l) i 0).int = nth 0 l i := by
  rcases Nat.lt_or_ge i l.length with h | h
  · rw [encN, zfr _ _ _ _ h, zn _ _ _ h]; rfl
  · rw [ze2 _ _ _ h]; unfold encN; rw [zfy _ _ _ _ h]; rfl
@[push_cast] theorem zfi (T : List Kept) (i : Nat) : (near T i).length = 601 := by simp [near]
theorem zob (T : List Kept) (i b : Nat) (h : b ≤ 600) : (rd (near T i) b 0).bool = decide ((b : Int) ∈ bsT T i) := by
  rw [near, zfr _ _ _ _ (by rw [List.length_range]; omega), List.getElem_range]; rfl
theorem zov (T : List Kept) (i b : Nat) (hi : i < T.length) (h : b ≤ 600) (hb : (nth K0 T i).born = (b : Int)) : wrs (near T i) b 0 [.b true] = near T (i + 1) := by
  have e : (near T i).getD b [] = [.b (decide ((b : Int) ∈ bsT T i))] := by
    unfold near
    rw [List.getD_eq_getElem?_getD, List.getElem?_map, List.getElem?_range (by omega)]; rfl
  have h1 : wrs (near T i) b 0 [.b true] = (near T i).set b [.b true] := by
    unfold wrs wrs wr
    rw [e]; rfl
  rw [h1]
  apply List.ext_getElem?
  intro j
  rw [List.getElem?_set]
  rcases Nat.lt_or_ge j 601 with hj | hj
  · by_cases hjb : b = j
    · subst hjb
      rw [if_pos rfl, if_pos (by rw [zfi]; exact hj)]
      unfold near
      rw [List.getElem?_map, List.getElem?_range hj, Option.map_some, bsT_S _ _ hi, hb]
      simp
    · rw [if_neg hjb]
      unfold near
      rw [List.getElem?_map, List.getElem?_map, List.getElem?_range hj, Option.map_some, Option.map_some, bsT_S _ _ hi, hb]
      have : ((j : Int) ∈ bsT T i) ↔ ((j : Int) ∈ bsT T i ++ [(b : Int)]) := by
        rw [List.mem_append, List.mem_singleton]
        exact ⟨.inl, fun h => h.elim id fun h => absurd (by omega : b = j) hjb⟩
      rw [decide_eq_decide.2 this]
  · rw [if_neg (by omega), List.getElem?_eq_none (by rw [zfi]; exact hj), List.getElem?_eq_none (by rw [zfi]; exact hj)]
theorem far_S (T : List Kept) (i : Nat) (hi : i < T.length) : farL T (i + 1) = farL T i ++ (if 600 < (nth K0 T i).born then [(nth K0 T i).born] else []) := by
  unfold farL
  rw [bsT_S _ _ hi, List.filter_append]
  congr 1
  split
  · rename_i h; simp [h]
  · rename_i h; simp [h]
theorem zmz (T : List Kept) (i : Nat) (hi : i < T.length) (h : 600 < (nth K0 T i).born) : near T (i + 1) = near T i := by
  unfold near
  apply List.map_congr_left
  intro b hb
  rw [List.mem_range] at hb
  rw [bsT_S _ _ hi]
  have : ((b : Int) ∈ bsT T i ++ [(nth K0 T i).born]) ↔ ((b : Int) ∈ bsT T i) := by
    rw [List.mem_append, List.mem_singleton]
    exact ⟨fun h1 => h1.elim id fun h1 => absurd h1 (by omega), .inl⟩
  rw [decide_eq_decide.2 this]
theorem zm3 (T : List Kept) (i : Nat) : (farL T i).length ≤ T.length := by
  unfold farL bsT
  refine Nat.le_trans (List.length_filter_le _ _) ?_
  rw [List.length_map, List.length_take]; omega
theorem zj9 (T : List Kept) (i : Nat) {b : Int} (h : 600 < b) : b ∈ farL T i ↔ b ∈ bsT T i := by
  unfold farL; rw [List.mem_filter]; simp [h]
section
variable {s : State}
theorem zow (hT : SrtK s.things) (nT : s.things.length ≤ 600) (hR : ∀ k ∈ s.things, k.thing.refs.length ≤ 30) : Lqc (some 20) [.i 0, .i s.width, .i s.now, .i s.given, .i s.births, .l (encK s.things), .l (encP s.pins), .l (encL s.leases)]
    = if (∀ j, 0 ≤ j → j < s.things.length → ∀ i, 0 ≤ i → i < (nth K0 s.things j).thing.refs.length → refIn s.things (nth K0 s.things j).born (nth .empty (nth K0 s.things j).thing.refs i)) then some [.b true] else some [.b false] := by
  refine zt (f := fun i : Nat => Lqc (some 20) [.i (i : Int), .i s.width, .i s.now, .i s.given, .i s.births, .l (encK s.things), .l (encP s.pins), .l (encL s.leases)]) (P := fun j => ∀ i, 0 ≤ i → i < (nth K0 s.things j).thing.refs.length → refIn s.things (nth K0 s.things j).born (nth .empty (nth K0 s.things j).thing.refs i)) (fun i hi => ?_) ?_ 0 (Nat.zero_le _)
  · have hr := hR _ (zj (d := K0) hi)
    have inner := zt (f := fun j : Nat => Lqc (some 23) [.i (i : Int), .i (j : Int), .i s.width, .i s.now, .i s.given, .i s.births, .l (encK s.things), .l (encP s.pins), .l (encL s.leases)])
      (P := fun j => refIn s.things (nth K0 s.things i).born (nth .empty (nth K0 s.things i).thing.refs j)) (n := (nth K0 s.things i).thing.refs.length) (T := Lqc (some 20) [.i ((i + 1 : Nat) : Int), .i s.width, .i s.now, .i s.given, .i s.births, .l (encK s.things), .l (encP s.pins), .l (encL s.leases)]) (F := some [.b false])
      (fun j hj => by
        show (_ → Lqc _ _ = Lqc _ _) ∧ (_ → Lqc _ _ = _)
        rw [eqc_23]
        have hf := zdq (T := s.things) (x := nth .empty (nth K0 s.things i).thing.refs j)
        simp (disch := omega) only [push_cast, zcn s.width s.now s.given s.births s.things (encP s.pins) (encL s.leases) (nth .empty (nth K0 s.things i).thing.refs j) hT (by omega)]
        by_cases c1 : hasT s.things (nth .empty (nth K0 s.things i).thing.refs j)
        rotate_left; · exact ⟨fun h => absurd h.1 c1, fun _ => by have := hf.2 c1; simp (disch := omega) only [push_cast]⟩
        have hl := ((zb2 hT _).1 c1).1
        have hfi : findT s.things (nth .empty (nth K0 s.things i).thing.refs j) = (lb (qK (nth .empty (nth K0 s.things i).thing.refs j)) s.things : Int) := if_pos c1
        rw [hfi]
        by_cases c2 : (nth K0 s.things (lb (qK (nth .empty (nth K0 s.things i).thing.refs j)) s.things)).born < (nth K0 s.things i).born
        rotate_left; · exact ⟨fun h => absurd h.2 c2, fun _ => by simp (disch := omega) only [push_cast]⟩
        exact ⟨fun _ => by simp (disch := omega) only [push_cast] <;> rfl, fun h => absurd ⟨c1, c2⟩ h⟩)
      (by show Lqc _ _ = Lqc _ _; rw [eqc_23]; simp (disch := omega) only [push_cast] <;> rfl) 0 (Nat.zero_le _)
    show (_ → Lqc _ _ = Lqc _ _) ∧ (_ → Lqc _ _ = _)
    rw [eqc_20]
    simp (disch := omega) only [push_cast]
    have inner' : Lqc (some 23) [.i (i : Int), .i 0, .i s.width, .i s.now, .i s.given, .i s.births, .l (encK s.things), .l (encP s.pins), .l (encL s.leases)] = _ := inner
    rw [inner']
    exact ⟨fun h => if_pos h, fun h => if_neg h⟩
  · show Lqc _ _ = _
    rw [eqc_20]; simp (disch := omega) only [push_cast]
theorem zlr (nT : s.things.length ≤ 600) (i : Nat) (hi : i < s.things.length) (l : List Int) (hl : l.length ≤ 1000000) (nrw : Rw) (b : Int) (x y : Bs) (z : Rw) :
    Lqc (some 14) [.i (i : Int), .i 0, .i s.width, .i s.now, .i s.given, .i s.births, .l (encK s.things), .l (encP s.pins), .l (encL s.leases), .l nrw, .l (encN l), .s x, .i b, .s y, .l z] =
      if b ∈ l then some [.b false] else Lqc (some 4) [.i ((i + 1 : Nat) : Int), .i s.width, .i s.now, .i s.given, .i s.births, .l (encK s.things), .l (encP s.pins), .l (encL s.leases), .l nrw, .l (encN (l ++ [b]))] := by
  have := zbx (f := fun j : Nat => Lqc (some 14) [.i (i : Int), .i (j : Int), .i s.width, .i s.now, .i s.given, .i s.births, .l (encK s.things), .l (encP s.pins), .l (encL s.leases), .l nrw, .l (encN l), .s x, .i b, .s y, .l z]) (0 : Int) (l := l) (p := fun r => r = b) (T := some [.b false])
    (E := Lqc (some 4) [.i ((i + 1 : Nat) : Int), .i s.width, .i s.now, .i s.given, .i s.births, .l (encK s.things), .l (encP s.pins), .l (encL s.leases), .l nrw, .l (encN (l ++ [b]))]) (fun j hj => by
    show Lqc _ _ = cond _ _ (Lqc _ _)
    rw [eqc_14, mostE]; simp (disch := omega) only [push_cast]) (by
    show Lqc _ _ = Lqc _ _
    have : encN (l ++ [b]) = encN l ++ [[.i b]] := by simp [encN]
    rw [eqc_14, mostE, this]; simp (disch := omega) only [push_cast])
  refine Eq.trans this ?_
  by_cases h : b ∈ l
  · rw [if_pos h, if_pos ⟨b, h, rfl⟩]
  · rw [if_neg h, if_neg (by rintro ⟨r, hr, rfl⟩; exact h hr)]
theorem sto_4 (nT : s.things.length ≤ 600) (hb : 0 ≤ s.births ∧ s.births ≤ 1000000000) : Lqc (some 4) [.i 0, .i s.width, .i s.now, .i s.given, .i s.births, .l (encK s.things), .l (encP s.pins), .l (encL s.leases), .l (near s.things 0), .l (encN (farL s.things 0))]
    = if (∀ j, 0 ≤ j → j < s.things.length → tP s.width s.births s.things j) then Lqc (some 20) [.i 0, .i s.width, .i s.now, .i s.given, .i s.births, .l (encK s.things), .l (encP s.pins), .l (encL s.leases)] else some [.b false] := by
  refine zt (f := fun i : Nat => Lqc (some 4) [.i (i : Int), .i s.width, .i s.now, .i s.given, .i s.births, .l (encK s.things), .l (encP s.pins), .l (encL s.leases), .l (near s.things i), .l (encN (farL s.things i))]) (fun i hi => ?_) ?_ 0 (Nat.zero_le _)
  · show (_ → Lqc _ _ = Lqc _ _) ∧ (_ → Lqc _ _ = _)
    have hfl := zm3 s.things i
    rw [eqc_4]
    by_cases c1 : ThingOk (nth K0 s.things i).thing s.width
    rotate_left
    · refine ⟨fun h => absurd h.ok c1, fun _ => ?_⟩
      have : z0 (nth K0 s.things i).thing s.width = false := decide_eq_false c1
      simp (disch := omega) only [push_cast, zc7, this]
    have ht : z0 (nth K0 s.things i).thing s.width = true := decide_eq_true c1
    have hz : (formM (nth K0 s.things i).thing).size ≤ 1099511627776 := by
      rw [ze1]; have := zc9 c1; omega
    have hft : formT (nth K0 s.things i).thing s.width = formM (nth K0 s.things i).thing := if_pos ht
    by_cases c2 : (nth K0 s.things i).sum = sumM (formM (nth K0 s.things i).thing) s.width
    rotate_left
    · refine ⟨fun h => absurd h.sum c2, fun _ => ?_⟩
      simp (disch := omega) only [push_cast, zc7, ht, zej, hft, zez _ s.width hz]
    have tail : ∀ X : Option Lv, X = (Lqx none [.i (nth K0 s.things i).born, .i 1, .i s.births]).bind (fun y4 =>
         cond (!(g y4 0).bool) (some [.b false]) (
         cond (decide ((nth K0 s.things i).born ≤ 600)) (
          cond (inb ((nth K0 s.things i).born) (near s.things i).length) (
           cond ((rd (near s.things i) (((nth K0 s.things i).born).toNat) 0).bool) (some [.b false]) (
            cond (inb ((nth K0 s.things i).born) (near s.things i).length) (
             Lqc (some 4) [.i ((i + 1 : Nat) : Int), .i s.width, .i s.now, .i s.given, .i s.births, .l (encK s.things), .l (encP s.pins), .l (encL s.leases), .l (wrs (near s.things i) (((nth K0 s.things i).born).toNat) 0 ([.b true] : List C)), .l (encN (farL s.things i))]) (none))) (none)) (
          Lqc (some 14) [.i (i : Int), .i 0, .i s.width, .i s.now, .i s.given, .i s.births, .l (encK s.things), .l (encP s.pins), .l (encL s.leases), .l (near s.things i), .l (encN (farL s.things i)), .s (nth K0 s.things i).sum, .i (nth K0 s.things i).born, .s (nth K0 s.things i).thing.text, .l (encS (nth K0 s.things i).thing.refs)]))) →
        (0 < i → slt (nth K0 s.things (i - 1)).sum (nth K0 s.things i).sum = true) →
        (tP s.width s.births s.things i → X = Lqc (some 4) [.i ((i + 1 : Nat) : Int), .i s.width, .i s.now, .i s.given, .i s.births, .l (encK s.things), .l (encP s.pins), .l (encL s.leases), .l (near s.things (i + 1)), .l (encN (farL s.things (i + 1)))]) ∧ (¬ tP s.width s.births s.things i → X = some [.b false]) := by
      rintro X rfl hadj
      by_cases c3 : 1 ≤ (nth K0 s.things i).born ∧ (nth K0 s.things i).born ≤ s.births
      rotate_left; · exact ⟨fun h => absurd ⟨h.lo, h.hi⟩ c3, fun _ => by simp (disch := omega) only [push_cast, zl]⟩
      by_cases c5 : (nth K0 s.things i).born ≤ 600
      · obtain ⟨b, hbb⟩ : ∃ b : Nat, (nth K0 s.things i).born = b := ⟨((nth K0 s.things i).born).toNat, by omega⟩
        have hrd := zob s.things i b (by omega)
        by_cases c6 : (nth K0 s.things i).born ∈ bsT s.things i
        · refine ⟨fun h => absurd c6 h.new, fun _ => ?_⟩
          rw [hbb] at c6
          simp (disch := omega) only [push_cast, zl, hbb, hrd, decide_eq_true c6]
        · refine ⟨fun _ => ?_, fun h => absurd ⟨hadj, c1, c2, c3.1, c3.2, c6⟩ h⟩
          have hw := zov s.things i b hi (by omega) hbb
          rw [far_S _ _ hi, if_neg (by omega), List.append_nil]
          rw [hbb] at c6
          simp (disch := omega) only [push_cast, zl, hbb, hrd, decide_eq_false c6, hw]
      · have h14 := zlr nT i hi (farL s.things i) (by omega) (near s.things i) (nth K0 s.things i).born (nth K0 s.things i).sum (nth K0 s.things i).thing.text (encS (nth K0 s.things i).thing.refs)
        by_cases c6 : (nth K0 s.things i).born ∈ bsT s.things i
        · refine ⟨fun h => absurd c6 h.new, fun _ => ?_⟩
          rw [if_pos ((zj9 _ _ (by omega)).2 c6)] at h14
          simp (disch := omega) only [push_cast, zl]
          exact h14
        · refine ⟨fun _ => ?_, fun h => absurd ⟨hadj, c1, c2, c3.1, c3.2, c6⟩ h⟩
          rw [if_neg (fun h => c6 ((zj9 _ _ (by omega)).1 h))] at h14
          rw [far_S _ _ hi, if_pos (by omega), zmz _ _ hi (by omega)]
          simp (disch := omega) only [push_cast, zl]
          exact h14
    by_cases c0 : 0 < i
    · cases c4 : slt (nth K0 s.things (i - 1)).sum (nth K0 s.things i).sum
      · exact ⟨fun h => absurd (h.adj c0) (by simp [c4]), fun _ => by simp (disch := omega) only [push_cast, zc7, ht, zej, hft, zez _ s.width hz, ← c2, c4]⟩
      · refine tail _ ?_ (fun _ => c4)
        simp (disch := omega) only [push_cast, zc7, ht, zej, hft, zez _ s.width hz, ← c2, c4]
    · refine tail _ ?_ (fun h => absurd h c0)
      simp (disch := omega) only [push_cast, zc7, ht, zej, hft, zez _ s.width hz, ← c2]
  · show Lqc _ _ = _
    rw [eqc_4]; simp (disch := omega) only [push_cast]
theorem znb (hn : 0 ≤ s.now ∧ s.now ≤ 1000000000) (hT : SrtK s.things) (nT : s.things.length ≤ 600) (nL : s.leases.length ≤ 200) : Lqf (some 11) [.i 0, .i s.width, .i s.now, .i s.given, .i s.births, .l (encK s.things), .l (encP s.pins), .l (encL s.leases)]
    = if (∀ j, 0 ≤ j → j < s.leases.length → lP s.now s.given s.things s.leases j) then some [.b true] else some [.b false] := by
  refine zt (f := fun i : Nat => Lqf (some 11) [.i (i : Int), .i s.width, .i s.now, .i s.given, .i s.births, .l (encK s.things), .l (encP s.pins), .l (encL s.leases)]) (fun i hi => ?_) ?_ 0 (Nat.zero_le _)
  · show (_ → Lqf _ _ = Lqf _ _) ∧ (_ → Lqf _ _ = _)
    rw [eqf_11]
    have hf := zdq (T := s.things) (x := (nth L0 s.leases i).sum)
    have hfe := zcn s.width s.now s.given s.births s.things (encP s.pins) (encL s.leases) (nth L0 s.leases i).sum hT (by omega)
    by_cases c2 : 1 ≤ (nth L0 s.leases i).number ∧ (nth L0 s.leases i).number ≤ s.given
    rotate_left; · exact ⟨fun h => absurd ⟨h.lo, h.hi⟩ c2, fun _ => by simp (disch := omega) only [push_cast, zl]⟩
    by_cases c0 : 0 < i
    · by_cases c4 : (nth L0 s.leases (i - 1)).number < (nth L0 s.leases i).number
      rotate_left; · exact ⟨fun h => absurd (h.adj c0) c4, fun _ => by simp (disch := omega) only [push_cast, zl]⟩
      by_cases c1 : hasT s.things (nth L0 s.leases i).sum
      rotate_left; · exact ⟨fun h => absurd h.has c1, fun _ => by have := hf.2 c1; simp (disch := omega) only [push_cast, zl, hfe]⟩
      have c1' : ¬ findT s.things (nth L0 s.leases i).sum < 0 := fun h => hf.1 h c1
      by_cases c5 : s.now < (nth L0 s.leases i).till
      rotate_left; · exact ⟨fun h => absurd h.t1 c5, fun _ => by simp (disch := omega) only [push_cast, zl, hfe]⟩
      by_cases c6 : (nth L0 s.leases i).till ≤ s.now + 100000
      rotate_left; · exact ⟨fun h => absurd h.t2 c6, fun _ => by simp (disch := omega) only [push_cast, zl, hfe]⟩
      exact ⟨fun _ => by simp (disch := omega) only [push_cast, zl, hfe] <;> rfl, fun h => absurd ⟨c1, c2.1, c2.2, fun _ => c4, c5, c6⟩ h⟩
    · by_cases c1 : hasT s.things (nth L0 s.leases i).sum
      rotate_left; · exact ⟨fun h => absurd h.has c1, fun _ => by have := hf.2 c1; simp (disch := omega) only [push_cast, zl, hfe]⟩
      have c1' : ¬ findT s.things (nth L0 s.leases i).sum < 0 := fun h => hf.1 h c1
      by_cases c5 : s.now < (nth L0 s.leases i).till
      rotate_left; · exact ⟨fun h => absurd h.t1 c5, fun _ => by simp (disch := omega) only [push_cast, zl, hfe]⟩
      by_cases c6 : (nth L0 s.leases i).till ≤ s.now + 100000
      rotate_left; · exact ⟨fun h => absurd h.t2 c6, fun _ => by simp (disch := omega) only [push_cast, zl, hfe]⟩
      exact ⟨fun _ => by simp (disch := omega) only [push_cast, zl, hfe] <;> rfl, fun h => absurd ⟨c1, c2.1, c2.2, fun h => absurd h c0, c5, c6⟩ h⟩
  · show Lqf _ _ = _
    rw [eqf_11]; simp (disch := omega) only [push_cast]
theorem svs_6 (hT : SrtK s.things) (nT : s.things.length ≤ 600) (nP : s.pins.length ≤ 100) (hN : ∀ p ∈ s.pins, p.name.size ≤ 4611686018427387904) : Lqf (some 6) [.i 0, .i s.width, .i s.now, .i s.given, .i s.births, .l (encK s.things), .l (encP s.pins), .l (encL s.leases)]
    = if (∀ j, 0 ≤ j → j < s.pins.length → pP s.things s.pins j) then Lqf (some 11) [.i 0, .i s.width, .i s.now, .i s.given, .i s.births, .l (encK s.things), .l (encP s.pins), .l (encL s.leases)] else some [.b false] := by
  refine zt (f := fun i : Nat => Lqf (some 6) [.i (i : Int), .i s.width, .i s.now, .i s.given, .i s.births, .l (encK s.things), .l (encP s.pins), .l (encL s.leases)]) (fun i hi => ?_) ?_ 0 (Nat.zero_le _)
  · show (_ → Lqf _ _ = Lqf _ _) ∧ (_ → Lqf _ _ = _)
    rw [eqf_6]
    have hf := zdq (T := s.things) (x := (nth P0 s.pins i).sum)
    have hfe := zcn s.width s.now s.given s.births s.things (encP s.pins) (encL s.leases) (nth P0 s.pins i).sum hT (by omega)
    have hne := znz (nth P0 s.pins i).name (hN _ (zj hi))
    unfold nameB at hne
    by_cases c2 : NameOk (nth P0 s.pins i).name
    rotate_left; · exact ⟨fun h => absurd h.nm c2, fun _ => by simp (disch := omega) only [push_cast, hne]⟩
    by_cases c0 : 0 < i
    · cases c4 : slt (nth P0 s.pins (i - 1)).name (nth P0 s.pins i).name
      · exact ⟨fun h => absurd (h.adj c0) (by simp [c4]), fun _ => by simp (disch := omega) only [push_cast, hne, c4]⟩
      · by_cases c1 : hasT s.things (nth P0 s.pins i).sum
        rotate_left; · exact ⟨fun h => absurd h.has c1, fun _ => by have := hf.2 c1; simp (disch := omega) only [push_cast, hne, c4, hfe]⟩
        have c1' : ¬ findT s.things (nth P0 s.pins i).sum < 0 := fun h => hf.1 h c1
        exact ⟨fun _ => by simp (disch := omega) only [push_cast, hne, c4, hfe] <;> rfl, fun h => absurd ⟨c1, c2, fun _ => c4⟩ h⟩
    · by_cases c1 : hasT s.things (nth P0 s.pins i).sum
      rotate_left; · exact ⟨fun h => absurd h.has c1, fun _ => by have := hf.2 c1; simp (disch := omega) only [push_cast, hne, hfe]⟩
      have c1' : ¬ findT s.things (nth P0 s.pins i).sum < 0 := fun h => hf.1 h c1
      exact ⟨fun _ => by simp (disch := omega) only [push_cast, hne, hfe] <;> rfl, fun h => absurd ⟨c1, c2, fun h => absurd h c0⟩ h⟩
  · show Lqf _ _ = _
    rw [eqf_6]; simp (disch := omega) only [push_cast]
theorem zlo (T : List Kept) : List.replicate 601 ([.b false] : List C) = near T 0 := by
  unfold near bsT
  simp only [List.take_zero, List.map_nil, List.not_mem_nil, decide_false]
  rw [List.map_const', List.length_range]
theorem zn5 (s : State) (hN : ∀ p ∈ s.pins, p.name.size ≤ 4611686018427387904) : Lqf none (encSt s) = some [.b (decide (VS s))] := by
  unfold encSt
  rw [eqf_i]
  have hv := zjc s
  by_cases h1 : 1 ≤ s.width ∧ s.width ≤ 8
  rotate_left; · rw [decide_eq_false fun V : VS s => h1 V.wd]; have : zm s.width = false := by cases h : zm s.width; { rfl }; { exact absurd (z8.1 h) h1 }
                 simp (disch := omega) only [push_cast, zbl, this]
  have hw : zm s.width = true := z8.2 h1
  by_cases h2 : 0 ≤ s.now ∧ s.now ≤ 1000000000
  rotate_left; · rw [decide_eq_false fun V : VS s => h2 V.now]; simp (disch := omega) only [push_cast, zbl, hw, zl]
  by_cases h3 : 0 ≤ s.given ∧ s.given ≤ 1000000000
  rotate_left; · rw [decide_eq_false fun V : VS s => h3 V.given]; simp (disch := omega) only [push_cast, zbl, hw, zl]
  by_cases h4 : 0 ≤ s.births ∧ s.births ≤ 1000000000
  rotate_left; · rw [decide_eq_false fun V : VS s => h4 V.births]; simp (disch := omega) only [push_cast, zbl, hw, zl]
  by_cases h5 : s.things.length ≤ 600
  rotate_left; · rw [decide_eq_false fun V : VS s => h5 V.nT]; simp (disch := omega) only [push_cast, zbl, hw, zl]
  by_cases h6 : s.pins.length ≤ 100
  rotate_left; · rw [decide_eq_false fun V : VS s => h6 V.nP]; simp (disch := omega) only [push_cast, zbl, hw, zl]
  by_cases h7 : s.leases.length ≤ 200
  rotate_left; · rw [decide_eq_false fun V : VS s => h7 V.nL]; simp (disch := omega) only [push_cast, zbl, hw, zl]
  have hto : Lqc none [.i s.width, .i s.now, .i s.given, .i s.births, .l (encK s.things), .l (encP s.pins), .l (encL s.leases)] = _ := (eqc_i _ _ _ _ _ _ _).trans ((by rw [zlo s.things]; rfl : _ = Lqc (some 4) [.i 0, .i s.width, .i s.now, .i s.given, .i s.births, .l (encK s.things), .l (encP s.pins), .l (encL s.leases), .l (near s.things 0), .l (encN (farL s.things 0))]).trans (sto_4 h5 h4))
  by_cases h8 : ∀ j, 0 ≤ j → j < s.things.length → tP s.width s.births s.things j
  rotate_left; · rw [if_neg h8] at hto; rw [decide_eq_false fun V : VS s => h8 (hv.1 V).2.2.2.2.2.2.2.1]; simp (disch := omega) only [push_cast, zbl, hw, zl, hto]
  have hs := (zgb _ _ _).1 h8
  rw [if_pos h8, zow hs.1 h5 fun k hk => (hs.2.1 k hk).1.refs] at hto
  by_cases h9 : ∀ j, 0 ≤ j → j < s.things.length → ∀ i, 0 ≤ i → i < (nth K0 s.things j).thing.refs.length → refIn s.things (nth K0 s.things j).born (nth .empty (nth K0 s.things j).thing.refs i)
  rotate_left; · rw [if_neg h9] at hto; rw [decide_eq_false fun V : VS s => h9 (hv.1 V).2.2.2.2.2.2.2.2.1]; simp (disch := omega) only [push_cast, zbl, hw, zl, hto]
  rw [if_pos h9] at hto
  simp (disch := omega) only [push_cast, zbl, hw, zl, hto, svs_6 hs.1 h5 h6 hN]
  by_cases h10 : ∀ j, 0 ≤ j → j < s.pins.length → pP s.things s.pins j
  rotate_left; · rw [if_neg h10, decide_eq_false fun V : VS s => h10 (hv.1 V).2.2.2.2.2.2.2.2.2.1]
  rw [if_pos h10, znb h2 hs.1 h5 h7]
  by_cases h11 : ∀ j, 0 ≤ j → j < s.leases.length → lP s.now s.given s.things s.leases j
  rotate_left; · rw [if_neg h11, decide_eq_false fun V : VS s => h11 (hv.1 V).2.2.2.2.2.2.2.2.2.2]
  rw [if_pos h11, decide_eq_true (hv.2 ⟨h1, h2, h3, h4, h5, h6, h7, h8, h9, h10, h11⟩)]
end
end KV
end
section
namespace KV
open Go Go.Eng
open Classical
inductive Rch (T : List Kept) (F : List Bs) : Bs → Prop where
  | base (x : Bs) (h : x ∈ F) : Rch T F x
  | ref (k : Kept) (x : Bs) (hk : k ∈ T) (h : Rch T F k.sum) (hx : x ∈ k.thing.refs) : Rch T F x
def Liv (s : State) (x : Bs) : Prop := Rch s.things (zbe s) x
end KV
end
section
namespace KV
open Go Go.Eng
open Classical
theorem zlh {s : State} {x : Bs} : x ∈ zbe s ↔ held s x := by
  unfold zbe held
  rw [zh1, zh1]
  simp only [List.mem_map, List.not_mem_nil, false_or]
structure CR (s : State) (r : Round) : Prop where
  t1 : ∀ x, held s x → x ∈ r.marked ∨ x ∈ r.queue
  t2 : ∀ k ∈ s.things, k.sum ∈ r.marked → ∀ y ∈ k.thing.refs, y ∈ r.marked ∨ y ∈ r.queue
  t3 : ∀ k ∈ s.things, r.at_ ≤ k.born → k.sum ∈ r.marked ∨ k.sum ∈ r.queue
  lm : ∀ x ∈ r.marked, Liv s x
  lq : ∀ x ∈ r.queue, Liv s x
theorem CR.all {s : State} {r : Round} (h : CR s r) (hq : r.queue = []) (V : VS s) {x : Bs} (hx : Liv s x) : x ∈ r.marked := by
  induction hx with
  | base x hx => have := h.t1 x (zlh.1 hx); rw [hq] at this; exact this.resolve_right (fun h => nomatch h)
  | ref k x hk h1 hx ih => have := h.t2 k hk ih x hx; rw [hq] at this; exact this.resolve_right (fun h => nomatch h)
structure UK (s s' : State) : Prop where
  ints : s'.width = s.width ∧ s'.births = s.births ∧ s'.now = s.now ∧ s'.given = s.given
  pins : s'.pins = s.pins
  leases : s'.leases = s.leases
  sub : s'.things.Sublist s.things
  liv : ∀ x, Liv s' x ↔ Liv s x
theorem UK.trans {a b c : State} (h : UK a b) (k : UK b c) : UK a c := by
  obtain ⟨a1, a2, a3, a4⟩ := h.ints
  obtain ⟨b1, b2, b3, b4⟩ := k.ints
  exact ⟨⟨b1.trans a1, b2.trans a2, b3.trans a3, b4.trans a4⟩, k.pins.trans h.pins, k.leases.trans h.leases, k.sub.trans h.sub, fun x => (k.liv x).trans (h.liv x)⟩
end KV
end
