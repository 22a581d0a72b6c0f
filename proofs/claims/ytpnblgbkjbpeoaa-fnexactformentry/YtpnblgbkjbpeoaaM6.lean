/- Part 6 of the proof of FnExactFormEntrySaid: what it leans on. -/
import Derived.Test.YtpnblgbkjbpeoaaM1
import Derived.Test.YtpnblgbkjbpeoaaM2
import Derived.Test.YtpnblgbkjbpeoaaM3
import Derived.Test.YtpnblgbkjbpeoaaM4
import Derived.Test.YtpnblgbkjbpeoaaM5

/- Plain laws of ReadThing: the program's and the reference's come to one function. -/
namespace Go.Proofs.Ytpnblgbkjbpeoaa.Q
open Go.RowKit Go.Proofs.Ytpnblgbkjbpeoaa.P Go.Proofs.YtpnblgbkjbpeoaaW.PrintWords Go.Proofs.YtpnblgbkjbpeoaaW.PrintLast Go.Proofs.YtpnblgbkjbpeoaaW.PrintMore
set_option linter.unusedVariables false

theorem dl (s : ByteArray) : s.data.toList.length = s.size := Array.length_toList
theorem get_data (s : ByteArray) (i : Nat) (h : i < s.data.toList.length) : s.get! i = s.data.toList[i] := by
  cases s with | mk a => 
  show a[i]! = a.toList[i]
  rw [getElem!_pos a i (by simpa using h)]; simp
theorem toList_data (s : ByteArray) : s.toList = s.data.toList := by
  have key : ∀ (n i : Nat) (r : List UInt8), s.size - i = n → i ≤ s.size → ByteArray.toList.loop s i r = r.reverse ++ s.data.toList.drop i := by
    intro n
    induction n with
    | zero =>
      intro i r hn hi
      unfold ByteArray.toList.loop
      rw [if_neg (by omega), List.drop_of_length_le (by rw [dl]; omega), List.append_nil]
    | succ n ih =>
      intro i r hn hi
      have hlt : i < s.size := by omega
      have hl : i < s.data.toList.length := by rw [dl]; exact hlt
      unfold ByteArray.toList.loop
      rw [if_pos hlt, ih (i + 1) _ (by omega) (by omega), List.drop_eq_getElem_cons hl, get_data s i hl, List.reverse_cons, List.append_assoc]; rfl
  have := key s.size 0 [] (by omega) (by omega)
  rw [List.drop_zero] at this
  exact this
theorem toList_nil {s : ByteArray} : s.toList = [] ↔ s.size = 0 := by
  rw [toList_data, ← dl s]
  exact List.length_eq_zero_iff.symm
theorem ext_size (s : ByteArray) (a : Nat) : (s.extract a s.size).size = s.size - a := by
  rw [ByteArray.size_extract]; omega
theorem ext_ext (s : ByteArray) (a b c : Nat) (h : a + c ≤ s.size) : (s.extract a s.size).extract b c = s.extract (a + b) (a + c) := by
  apply ByteArray.ext; simp only [ByteArray.data_extract, Array.extract_extract]; congr 1; omega
theorem ext_tail (s : ByteArray) (a b : Nat) (h : a + b ≤ s.size) : (s.extract a s.size).extract b (s.extract a s.size).size = s.extract (a + b) s.size := by
  rw [ext_size s a, ext_ext s a b (s.size - a) (by omega)]; congr 1; omega
/-- n pieces of W bytes, from place p on. -/
def pieces (s : ByteArray) (W : Nat) : Nat → Nat → List ByteArray
  | 0, _ => []
  | n + 1, p => s.extract p (p + W) :: pieces s W n (p + W)
def noT : ByteArray × List ByteArray × Bool := (⟨#[]⟩, [], false)
def endT (t : ByteArray) (l : List ByteArray) (w : Int) : ByteArray × List ByteArray × Bool := if thingB t l w = true then (t, l, true) else noT
def readT (s : ByteArray) (w : Int) : ByteArray × List ByteArray × Bool :=
  if widB w = true then (if s.size = 0 then noT else if (s.size : Int) < 1 + bt s 0 * w then noT else
    endT (s.extract (1 + (bt s 0).toNat * w.toNat) s.size) (pieces s w.toNat (bt s 0).toNat 1) w) else noT
theorem pieces_length (s : ByteArray) (W n : Nat) : ∀ p, (pieces s W n p).length = n := by
  induction n with
  | zero => intro p; rfl
  | succ n ih => intro p; simp [pieces, ih]
theorem mul_le (i n W : Nat) (h : i ≤ n) (hn : n ≤ 255) (hW : W ≤ 8) : i * W ≤ n * W ∧ n * W ≤ 2040 := ⟨Nat.mul_le_mul_right W h, Nat.mul_le_mul hn hW⟩
theorem iRT_loop (s : ByteArray) (w : Int) (W : Nat) (hw : w = (W : Int)) (hW : 1 ≤ W ∧ W ≤ 8) (hs : s.size ≤ 140737488351232) (t : ByteArray) (n : Nat) : ∀ (p : Nat) (acc : List ByteArray), n ≤ 255 → acc.length + n ≤ 255 → p + n * W ≤ s.size →
    Ev (fun k => impl_ReadThing.l0 k (s.extract p s.size) w (n : Int) t acc) (endT (s.extract (p + n * W) s.size) (acc ++ pieces s W n p) w) := by
  induction n with
  | zero =>
    intro p acc hn ha hp
    simp only [Nat.zero_mul, Nat.add_zero, pieces, List.append_nil]
    refine Ev.step (f := fun k => (impl_thingOk.f k (s.extract p s.size) acc w).bind fun t' => if t' = true then some (s.extract p s.size, acc, true) else some ((⟨#[]⟩ : ByteArray), ([] : List ByteArray), false)) (fun k => ?_) ?_
    · simp only [impl_ReadThing.l0]; rw [if_neg (by omega)]
    · refine Ev.bind (iOk_ev _ _ _ (by omega)) ?_
      unfold endT
      split
      · rename_i c; exact Ev.now _
      · rename_i c; exact Ev.now _
  | succ n ih =>
    intro p acc hn ha hp
    have e : (n + 1) * W = n * W + W := Nat.succ_mul n W
    have := ih (p + W) (acc ++ [s.extract p (p + W)]) (by omega) (by simp; omega) (by omega)
    have e2 : p + W + n * W = p + (n + 1) * W := by omega
    rw [e2] at this
    have e3 : (acc ++ [s.extract p (p + W)]) ++ pieces s W n (p + W) = acc ++ pieces s W (n + 1) p := by simp [pieces]
    rw [e3] at this
    have e4 : wrap64 (((n + 1 : Nat) : Int) - 1) = (n : Int) := by unfold wrap64; omega
    have e5 : (s.extract p s.size).size = s.size - p := ext_size s p
    have e6 : (s.extract p s.size).extract 0 w.toNat = s.extract p (p + W) := by rw [hw, Int.toNat_natCast, ext_ext s p 0 W (by omega)]; rfl
    have e7 : (s.extract p s.size).extract w.toNat (s.extract p s.size).size = s.extract (p + W) s.size := by rw [hw, Int.toNat_natCast, ext_tail s p W (by omega)]
    refine Ev.step (fun k => ?_) this
    simp only [impl_ReadThing.l0]; rw [if_pos (by omega), if_pos (by omega), if_pos (by omega), if_pos (by omega), e4, e6, e7]
theorem bt_nat (s : ByteArray) (i : Int) : ∃ n : Nat, bt s i = (n : Int) ∧ n ≤ 255 := ⟨(bt s i).toNat, by have := bt_range s i; omega⟩
theorem w64_small {x : Int} (h0 : 0 ≤ x) (h : x ≤ 9223372036854775807) : wrap64 x = x := by unfold wrap64; omega
theorem iRT_ev (s : ByteArray) (w : Int) (hs : s.size ≤ 140737488351232) : Ev (fun k => impl_ReadThing.f k s w) (readT s w) := by
  have hT : Ev (fun k => impl_ReadThing.j0 k s w true) noT := by
    refine Ev.step (f := fun _ => some noT) (fun k => ?_) (Ev.now _)
    simp only [impl_ReadThing.j0]; rfl
  unfold readT
  by_cases c : widB w = true
  · rw [if_pos c]
    by_cases c1 : s.size = 0
    · rw [if_pos c1]
      exact Ev.congr (fun k => by unfold impl_ReadThing.f; rw [wOk, Option.bind_some, if_pos c, if_pos (toList_nil.2 c1)]) hT
    · rw [if_neg c1]
      obtain ⟨W, hW⟩ : ∃ W : Nat, w = (W : Int) := ⟨w.toNat, by have := widB_iff.1 c; omega⟩
      have hWr : 1 ≤ W ∧ W ≤ 8 := by have := widB_iff.1 c; omega
      obtain ⟨n, hn, hn5⟩ := bt_nat s 0
      have hm := mul_le n n W (Nat.le_refl _) hn5 hWr.2
      have hp : (n : Int) * w = ((n * W : Nat) : Int) := by rw [hW, Int.natCast_mul]
      have e1 : wrap64 (wrap64 (bt s 0) * w) = ((n * W : Nat) : Int) := by rw [hn, w64_small (x := (n : Int)) (by omega) (by omega), hp, w64_small (by omega) (by omega)]
      have e2 : wrap64 (1 + wrap64 (wrap64 (bt s 0) * w)) = 1 + ((n * W : Nat) : Int) := by rw [e1, w64_small (by omega) (by omega)]
      have e3 : bt s 0 * w = ((n * W : Nat) : Int) := by rw [hn, hp]
      have hf : ∀ k, impl_ReadThing.f k s w = impl_ReadThing.j0 k s w (decide ((s.size : Int) < 1 + ((n * W : Nat) : Int))) := fun k => by
        unfold impl_ReadThing.f; rw [wOk, Option.bind_some, if_pos c, if_neg (fun h => c1 (toList_nil.1 h)), if_pos (by omega), e2]
      rw [e3]
      by_cases c2 : (s.size : Int) < 1 + ((n * W : Nat) : Int)
      · rw [if_pos c2]
        exact Ev.congr (fun k => by rw [hf, decide_eq_true c2]) hT
      · rw [if_neg c2]
        have := iRT_loop s w W hW hWr hs (⟨#[]⟩ : ByteArray) n 1 [] hn5 (by simpa using hn5) (by omega)
        have e5 : (bt s 0).toNat = n := by omega
        have e6 : w.toNat = W := by omega
        rw [e5, e6]
        rw [List.nil_append] at this
        refine Ev.congr (g := _) (f := fun k => impl_ReadThing.j0 k s w false) (fun k => by rw [hf, decide_eq_false c2]) (Ev.step (fun k => ?_) this)
        simp only [impl_ReadThing.j0]; rw [if_neg (by simp), if_pos (by omega), if_pos (by omega), hn, w64_small (by omega) (by omega)]
  · rw [if_neg c]
    exact Ev.congr (fun k => by unfold impl_ReadThing.f; rw [wOk, Option.bind_some, if_neg c]) hT
theorem sRT_loop (s : ByteArray) (w : Int) (W : Nat) (hw : w = (W : Int)) (hW : 1 ≤ W ∧ W ≤ 8) (hs : s.size ≤ 140737488351232) (t : ByteArray) (N : Nat) (hN : N ≤ 255) (hp : 1 + N * W ≤ s.size) (n : Nat) : ∀ (i : Nat) (acc : List ByteArray), i + n = N → acc.length = i →
    Ev (fun k => spec_ReadThing.l0 k s w (N : Int) (i : Int) t acc) (endT t (acc ++ pieces s W n (1 + i * W)) w) := by
  induction n with
  | zero =>
    intro i acc hn ha
    simp only [pieces, List.append_nil]
    refine Ev.step (f := fun k => (spec_l1ThingOk.f k t acc w).bind fun t' => if t' = true then some (t, acc, true) else some ((⟨#[]⟩ : ByteArray), ([] : List ByteArray), false)) (fun k => ?_) ?_
    · simp only [spec_ReadThing.l0]; rw [if_neg (by omega)]
    · refine Ev.bind (sOk_ev _ _ _ (by omega)) ?_
      unfold endT
      split
      · exact Ev.now _
      · exact Ev.now _
  | succ n ih =>
    intro i acc hn ha
    have e : (i + 1) * W = i * W + W := Nat.succ_mul i W
    have hm := mul_le (i + 1) N W (by omega) hN hW.2
    have := ih (i + 1) (acc ++ [s.extract (1 + i * W) (1 + i * W + W)]) (by omega) (by simp [ha])
    have e3 : (acc ++ [s.extract (1 + i * W) (1 + i * W + W)]) ++ pieces s W n (1 + (i + 1) * W) = acc ++ pieces s W (n + 1) (1 + i * W) := by
      have e4 : 1 + (i + 1) * W = 1 + i * W + W := by omega
      rw [e4]; simp [pieces]
    rw [e3] at this
    have hp1 : (i : Int) * w = ((i * W : Nat) : Int) := by rw [hw, Int.natCast_mul]
    have e5 : wrap64 (1 + wrap64 ((i : Int) * w)) = ((1 + i * W : Nat) : Int) := by rw [hp1, w64_small (x := ((i * W : Nat) : Int)) (by omega) (by omega), w64_small (by omega) (by omega)]; omega
    have e6 : wrap64 (((1 + i * W : Nat) : Int) + w) = ((1 + i * W + W : Nat) : Int) := by rw [w64_small (by omega) (by omega)]; omega
    refine Ev.step (fun k => ?_) this
    simp only [spec_ReadThing.l0]; rw [if_pos (by omega), e5, e6, if_pos (by omega), if_pos (by omega), if_pos (by omega), if_pos (by omega), wsucc (show i < 255 by omega) (by omega), Int.toNat_natCast, Int.toNat_natCast]
theorem sRT_ev (s : ByteArray) (w : Int) (hs : s.size ≤ 140737488351232) : Ev (fun k => spec_ReadThing.f k s w) (readT s w) := by
  have hT : Ev (fun k => spec_ReadThing.j0 k s w true) noT := by
    refine Ev.step (f := fun _ => some noT) (fun k => ?_) (Ev.now _)
    simp only [spec_ReadThing.j0]; rfl
  unfold readT
  by_cases c : widB w = true
  · rw [if_pos c]
    by_cases c1 : s.size = 0
    · rw [if_pos c1]
      exact Ev.congr (fun k => by unfold spec_ReadThing.f; rw [l1W, Option.bind_some, if_pos c, if_pos (by omega)]) hT
    · rw [if_neg c1]
      obtain ⟨W, hW⟩ : ∃ W : Nat, w = (W : Int) := ⟨w.toNat, by have := widB_iff.1 c; omega⟩
      have hWr : 1 ≤ W ∧ W ≤ 8 := by have := widB_iff.1 c; omega
      obtain ⟨n, hn, hn5⟩ := bt_nat s 0
      have hm := mul_le n n W (Nat.le_refl _) hn5 hWr.2
      have hp : (n : Int) * w = ((n * W : Nat) : Int) := by rw [hW, Int.natCast_mul]
      have e1 : wrap64 (wrap64 (bt s 0) * w) = ((n * W : Nat) : Int) := by rw [hn, w64_small (x := (n : Int)) (by omega) (by omega), hp, w64_small (by omega) (by omega)]
      have e2 : wrap64 (1 + wrap64 (wrap64 (bt s 0) * w)) = ((1 + n * W : Nat) : Int) := by rw [e1, w64_small (by omega) (by omega)]; omega
      have e3 : bt s 0 * w = ((n * W : Nat) : Int) := by rw [hn, hp]
      have hf : ∀ k, spec_ReadThing.f k s w = spec_ReadThing.j0 k s w (decide ((s.size : Int) < ((1 + n * W : Nat) : Int))) := fun k => by
        unfold spec_ReadThing.f; rw [l1W, Option.bind_some, if_pos c, if_neg (by omega), if_pos (by omega), e2]
      rw [e3]
      by_cases c2 : (s.size : Int) < 1 + ((n * W : Nat) : Int)
      · rw [if_pos c2]
        exact Ev.congr (fun k => by rw [hf, decide_eq_true (by omega)]) hT
      · rw [if_neg c2]
        have := sRT_loop s w W hW hWr hs (s.extract (1 + n * W) s.size) n hn5 (by omega) n 0 [] (by omega) rfl
        have e5 : (bt s 0).toNat = n := by omega
        have e6 : w.toNat = W := by omega
        rw [e5, e6]
        simp only [Nat.zero_mul, Nat.add_zero, List.nil_append] at this
        refine Ev.congr (g := _) (f := fun k => spec_ReadThing.j0 k s w false) (fun k => by rw [hf, decide_eq_false (by omega)]) (Ev.step (fun k => ?_) this)
        simp only [spec_ReadThing.j0]; rw [if_neg (by simp), if_pos (by omega), e2, if_pos (by omega), if_pos (by omega), hn, w64_small (by omega) (by omega), Int.toNat_natCast]; rfl
  · rw [if_neg c]
    exact Ev.congr (fun k => by unfold spec_ReadThing.f; rw [l1W, Option.bind_some, if_neg c]) hT
end Go.Proofs.Ytpnblgbkjbpeoaa.Q

/- Plain laws of entries: valid, and their forms: the program's and the reference's come to one function. -/
namespace Go.Proofs.Ytpnblgbkjbpeoaa.Q
open Go.RowKit Go.Proofs.Ytpnblgbkjbpeoaa.P Go.Proofs.YtpnblgbkjbpeoaaW.PrintWords Go.Proofs.YtpnblgbkjbpeoaaW.PrintLast Go.Proofs.YtpnblgbkjbpeoaaW.PrintMore
set_option linter.unusedVariables false

theorem Ev.ite' {α : Type} {c : Prop} [Decidable c] {g f : Nat → Option α} {r : α} (h1 : c → Ev g r) (h2 : ¬ c → Ev f r) : Ev (fun k => if c then g k else f k) r := by
  by_cases h : c
  · exact Ev.congr (fun k => if_pos h) (h1 h)
  · exact Ev.congr (fun k => if_neg h) (h2 h)
theorem Ev.ret {α : Type} {a r : α} (h : a = r) : Ev (fun _ => some a) r := by rw [h]; exact Ev.now r
theorem Ev.pos {α : Type} {c : Prop} [Decidable c] {g f : Nat → Option α} {r : α} (h : c) (e : Ev g r) : Ev (fun k => if c then g k else f k) r := Ev.congr (fun _ => if_pos h) e
theorem Ev.neg {α : Type} {c : Prop} [Decidable c] {g f : Nat → Option α} {r : α} (h : ¬ c) (e : Ev f r) : Ev (fun k => if c then g k else f k) r := Ev.congr (fun _ => if_neg h) e
/-! ### names -/
def nameFrom (s : ByteArray) : Nat → Nat → Bool
  | 0, _ => decide (1 ≤ s.size ∧ s.size ≤ 40)
  | n + 1, i => if bt s (i : Int) < 33 then false else if bt s (i : Int) > 126 then false else nameFrom s n (i + 1)
def nameB (s : ByteArray) : Bool := nameFrom s s.size 0
theorem nameEnd (s : ByteArray) : (if (s.size : Int) ≥ 1 then some (decide ((s.size : Int) ≤ 40)) else some false) = some (decide (1 ≤ s.size ∧ s.size ≤ 40)) := by
  by_cases h : (s.size : Int) ≥ 1
  · rw [if_pos h]; congr 1; rw [Bool.eq_iff_iff, decide_eq_true_eq, decide_eq_true_eq]; omega
  · rw [if_neg h]; congr 1; symm; rw [decide_eq_false_iff_not]; omega
theorem sName_loop (s : ByteArray) (hs : s.size ≤ 140737488351232) (n : Nat) : ∀ (i : Nat), s.size - i = n → i ≤ s.size → Ev (fun k => spec_l3NameOk.l0 k s (i : Int)) (nameFrom s n i) := by
  induction n with
  | zero =>
    intro i hn hi
    refine Ev.step (f := fun _ => some (nameFrom s 0 i)) (fun k => ?_) (Ev.now _)
    simp only [spec_l3NameOk.l0]; rw [if_neg (by omega), nameEnd]; rfl
  | succ n ih =>
    intro i hn hi
    have hlt : i < s.size := by omega
    refine Ev.step (fun k => by simp only [spec_l3NameOk.l0]; rw [if_pos (by omega), if_pos (by omega), wsucc hlt hs]) ?_
    unfold nameFrom
    refine Ev.ite' (fun h => ?_) (fun h => ?_)
    · rw [if_pos h]; exact Ev.now _
    · rw [if_neg h]
      refine Ev.ite' (fun h2 => ?_) (fun h2 => ?_)
      · rw [if_pos h2]; exact Ev.now _
      · rw [if_neg h2]; exact ih (i + 1) (by omega) (by omega)
theorem sName_ev (s : ByteArray) (hs : s.size ≤ 140737488351232) : Ev (fun k => spec_l3NameOk.f k s) (nameB s) :=
  Ev.congr (fun k => by unfold spec_l3NameOk.f; rfl) (sName_loop s hs s.size 0 (by omega) (by omega))
theorem iName_loop (s : ByteArray) (hs : s.size ≤ 140737488351232) (n : Nat) : ∀ (i : Nat), s.size - i = n → i ≤ s.size → Ev (fun k => impl_nameOk.l0 k s (s.size : Int) (i : Int)) (nameFrom s n i) := by
  induction n with
  | zero =>
    intro i hn hi
    refine Ev.step (f := fun _ => some (nameFrom s 0 i)) (fun k => ?_) (Ev.now _)
    simp only [impl_nameOk.l0]; rw [if_neg (by omega), nameEnd]; rfl
  | succ n ih =>
    intro i hn hi
    have hlt : i < s.size := by omega
    refine Ev.step (fun k => by simp only [impl_nameOk.l0]; rw [if_pos (by omega), if_pos (by omega), if_pos (by omega), wsucc hlt hs]) ?_
    unfold nameFrom
    refine Ev.ite' (fun h => ?_) (fun h => ?_)
    · rw [if_pos h]; exact Ev.now _
    · rw [if_neg h]
      refine Ev.ite' (fun h2 => ?_) (fun h2 => ?_)
      · rw [if_pos h2]; exact Ev.now _
      · rw [if_neg h2]; exact ih (i + 1) (by omega) (by omega)
theorem iName_ev (s : ByteArray) (hs : s.size ≤ 140737488351232) : Ev (fun k => impl_nameOk.f k s) (nameB s) :=
  Ev.congr (fun k => by unfold impl_nameOk.f; rfl) (iName_loop s hs s.size 0 (by omega) (by omega))
/-! ### valid entries -/
def uS (k : Int) : Bool := if k = 2 then true else if k = 4 then true else k == 7
def uN (k : Int) : Bool := if k = 2 then true else k == 3
def numB (k n : Int) : Bool := if k = 1 ∨ k = 4 ∨ k = 6 then decide (1 ≤ n ∧ n ≤ 100000) else if k = 5 then decide (1 ≤ n ∧ n ≤ 1000000000) else n == 0
def sumOkB (k : Int) (s : ByteArray) (w : Int) : Bool := if uS k = true then decide ((s.size : Int) = w) else decide (s.size = 0)
def nmOkB (k : Int) (s : ByteArray) : Bool := if uN k = true then nameB s else decide (s.size = 0)
def thOkB (b : Bool) (t : ByteArray) (l : List ByteArray) (w : Int) : Bool := if b = true then thingB t l w else decide (t.size = 0 ∧ l.length = 0)
def entB (k : Int) (s n : ByteArray) (m : Int) (t : ByteArray) (l : List ByteArray) (w : Int) : Bool :=
  if widB w = true then (if 1 ≤ k ∧ k ≤ 7 then (if sumOkB k s w = true then (if numB k m = true then (if nmOkB k n = true then thOkB (k == 1) t l w else false) else false) else false) else false) else false
theorem nil_b {s : ByteArray} : (s.toList != ([] : List UInt8)) = !decide (s.size = 0) := by
  by_cases h : s.size = 0
  · rw [toList_nil.2 h, decide_eq_true h]; rfl
  · have h2 : s.toList ≠ [] := fun e => h (toList_nil.1 e)
    rw [decide_eq_false h]; simpa using h2
theorem endB (t : ByteArray) (l : List ByteArray) : (if t.toList = ([] : List UInt8) then some ((l.length : Int) == 0) else some false) = some (decide (t.size = 0 ∧ l.length = 0)) := by
  by_cases h : t.size = 0
  · rw [if_pos (toList_nil.2 h)]; congr 1; rw [Bool.eq_iff_iff]; simp [h]
  · rw [if_neg (fun e => h (toList_nil.1 e))]; congr 1; simp [h]
section
theorem sOk2 (w : Int) (b x : Bool) (a0 : Int) (a1 a2 : ByteArray) (a3 : Int) (t : ByteArray) (l : List ByteArray) (hl : l.length ≤ 140737488351232) :
    Ev (fun k => spec_l3Ok.j2 k w b x a0 a1 a2 a3 t l) (if x = true then false else thOkB b t l w) := by
  refine Ev.step (fun k => by simp only [spec_l3Ok.j2]; rfl) ?_
  refine Ev.ite' (fun h => by rw [if_pos h]; exact Ev.now _) (fun h => ?_)
  rw [if_neg h]
  unfold thOkB
  refine Ev.ite' (fun h2 => ?_) (fun h2 => ?_)
  · rw [if_pos h2]; exact Ev.bind (sOk_ev t l w hl) (Ev.now _)
  · rw [if_neg h2]; exact Ev.congr (fun k => endB t l) (Ev.now _)
theorem sOk1 (w : Int) (c b x : Bool) (a0 : Int) (a1 a2 : ByteArray) (a3 : Int) (t : ByteArray) (l : List ByteArray) (hl : l.length ≤ 140737488351232) (h2 : a2.size ≤ 140737488351232) :
    Ev (fun k => spec_l3Ok.j1 k w c b x a0 a1 a2 a3 t l) (if x = true then false else if (if c = true then nameB a2 else decide (a2.size = 0)) = true then thOkB b t l w else false) := by
  refine Ev.step (fun k => by simp only [spec_l3Ok.j1]; rfl) ?_
  refine Ev.ite' (fun h => by rw [if_pos h]; exact Ev.now _) (fun h => ?_)
  rw [if_neg h]
  refine Ev.ite' (fun hc => ?_) (fun hc => ?_)
  · rw [if_pos hc]
    refine Ev.bind (sName_ev a2 h2) (Ev.ite' (fun hn => ?_) (fun hn => ?_))
    · rw [if_pos hn]; exact sOk2 w b false a0 a1 a2 a3 t l hl
    · rw [if_neg hn]; exact sOk2 w b true a0 a1 a2 a3 t l hl
  · rw [if_neg hc, nil_b]
    have := sOk2 w b (!decide (a2.size = 0)) a0 a1 a2 a3 t l hl
    cases hd : decide (a2.size = 0) <;> rw [hd] at this <;> exact this
theorem sNum (k m : Int) : ∃ a b c d, spec_l3Uses.f k = some (a, b, c, d) ∧ (1 ≤ k → k ≤ 7 → a = uS k ∧ b = uN k ∧ d = (k == 1) ∧ spec_l3NumberOk.f m c = some (numB k m)) ∧ ∃ q, spec_l3NumberOk.f m c = some q := by
  have hq : ∀ c, ∃ q, spec_l3NumberOk.f m c = some q := fun c => by unfold spec_l3NumberOk.f; repeat (first | exact ⟨_, rfl⟩ | split)
  have e1 : (if m ≥ 1 then some (decide (m ≤ 100000)) else some false) = some (decide (1 ≤ m ∧ m ≤ 100000)) := by
    by_cases h : m ≥ 1
    · rw [if_pos h]; congr 1; rw [Bool.eq_iff_iff, decide_eq_true_eq, decide_eq_true_eq]; omega
    · rw [if_neg h]; congr 1; symm; rw [decide_eq_false_iff_not]; omega
  have e2 : (if m ≥ 1 then some (decide (m ≤ 1000000000)) else some false) = some (decide (1 ≤ m ∧ m ≤ 1000000000)) := by
    by_cases h : m ≥ 1
    · rw [if_pos h]; congr 1; rw [Bool.eq_iff_iff, decide_eq_true_eq, decide_eq_true_eq]; omega
    · rw [if_neg h]; congr 1; symm; rw [decide_eq_false_iff_not]; omega
  unfold spec_l3Uses.f
  by_cases h1 : k = 1
  · subst h1; exact ⟨_, _, _, _, rfl, fun _ _ => ⟨rfl, rfl, rfl, by unfold spec_l3NumberOk.f numB; rw [if_pos rfl, e1, if_pos (.inl rfl)]⟩, hq _⟩
  by_cases h2 : k = 2
  · subst h2; exact ⟨_, _, _, _, rfl, fun _ _ => ⟨rfl, rfl, rfl, by unfold spec_l3NumberOk.f numB; rw [if_neg (by omega), if_neg (by omega), if_neg (by omega), if_neg (by omega)]⟩, hq _⟩
  by_cases h3 : k = 3
  · subst h3; exact ⟨_, _, _, _, rfl, fun _ _ => ⟨rfl, rfl, rfl, by unfold spec_l3NumberOk.f numB; rw [if_neg (by omega), if_neg (by omega), if_neg (by omega), if_neg (by omega)]⟩, hq _⟩
  by_cases h4 : k = 4
  · subst h4; exact ⟨_, _, _, _, rfl, fun _ _ => ⟨rfl, rfl, rfl, by unfold spec_l3NumberOk.f numB; rw [if_pos rfl, e1, if_pos (by omega)]⟩, hq _⟩
  by_cases h5 : k = 5
  · subst h5; exact ⟨_, _, _, _, rfl, fun _ _ => ⟨rfl, rfl, rfl, by unfold spec_l3NumberOk.f numB; rw [if_neg (by omega), if_pos rfl, e2, if_neg (by omega), if_pos rfl]⟩, hq _⟩
  by_cases h6 : k = 6
  · subst h6; exact ⟨_, _, _, _, rfl, fun _ _ => ⟨rfl, rfl, rfl, by unfold spec_l3NumberOk.f numB; rw [if_pos rfl, e1, if_pos (by omega)]⟩, hq _⟩
  by_cases h7 : k = 7
  · subst h7; exact ⟨_, _, _, _, rfl, fun _ _ => ⟨rfl, rfl, rfl, by unfold spec_l3NumberOk.f numB; rw [if_neg (by omega), if_neg (by omega), if_neg (by omega), if_neg (by omega)]⟩, hq _⟩
  rw [if_neg h1, if_neg h2, if_neg h3, if_neg h4, if_neg h5, if_neg h6, if_neg h7]
  exact ⟨_, _, _, _, rfl, fun _ _ => by omega, hq _⟩
theorem sOk0 (w : Int) (x : Bool) (a0 : Int) (a1 a2 : ByteArray) (a3 : Int) (t : ByteArray) (l : List ByteArray) (hl : l.length ≤ 140737488351232) (h2 : a2.size ≤ 140737488351232) (hx : x = false → 1 ≤ a0 ∧ a0 ≤ 7) :
    Ev (fun k => spec_l3Ok.j0 k w x a0 a1 a2 a3 t l) (if x = true then false else if sumOkB a0 a1 w = true then (if numB a0 a3 = true then (if nmOkB a0 a2 = true then thOkB (a0 == 1) t l w else false) else false) else false) := by
  refine Ev.step (fun k => by simp only [spec_l3Ok.j0]; rfl) ?_
  refine Ev.ite' (fun h => by rw [if_pos h]; exact Ev.now _) (fun h => ?_)
  rw [if_neg h]
  obtain ⟨a, b, c, d, hu, hk, _⟩ := sNum a0 a3
  have hr := hx (by simpa using h)
  obtain ⟨rfl, rfl, rfl, hn⟩ := hk hr.1 hr.2
  refine Ev.bind (g := fun _ => spec_l3Uses.f a0) (a := (uS a0, uN a0, c, (a0 == 1))) (Ev.congr (fun _ => hu) (Ev.now _)) ?_
  have key : ∀ y : Bool, Ev (fun k => spec_l3Ok.j1 k w (uN a0) (a0 == 1) y a0 a1 a2 a3 t l) (if y = true then false else if nmOkB a0 a2 = true then thOkB (a0 == 1) t l w else false) := fun y => sOk1 w _ _ y a0 a1 a2 a3 t l hl h2
  unfold sumOkB
  refine Ev.ite' (fun hs => ?_) (fun hs => ?_)
  · rw [if_pos hs]
    refine Ev.ite' (fun hz => ?_) (fun hz => ?_)
    · rw [if_pos (decide_eq_true hz)]
      refine Ev.bind (g := fun _ => spec_l3NumberOk.f a3 c) (Ev.congr (fun _ => hn) (Ev.now _)) ?_
      have := key (!numB a0 a3)
      cases hb : numB a0 a3 <;> rw [hb] at this <;> exact this
    · rw [if_neg (by simpa using hz)]; exact key true
  · rw [if_neg hs]
    refine Ev.ite' (fun hz => ?_) (fun hz => ?_)
    · rw [if_pos (decide_eq_true (toList_nil.1 hz))]
      refine Ev.bind (g := fun _ => spec_l3NumberOk.f a3 c) (Ev.congr (fun _ => hn) (Ev.now _)) ?_
      have := key (!numB a0 a3)
      cases hb : numB a0 a3 <;> rw [hb] at this <;> exact this
    · rw [if_neg (by simpa using fun e => hz (toList_nil.2 e))]; exact key true
theorem sEnt_ev (a0 : Int) (a1 a2 : ByteArray) (a3 : Int) (t : ByteArray) (l : List ByteArray) (w : Int) (hl : l.length ≤ 140737488351232) (h2 : a2.size ≤ 140737488351232) :
    Ev (fun k => spec_l3Ok.f k a0 a1 a2 a3 t l w) (entB a0 a1 a2 a3 t l w) := by
  unfold entB
  refine Ev.bind (g := fun _ => spec_l1Width.f w) (Ev.congr (fun _ => l1W w) (Ev.now _)) (Ev.ite' (fun hw => ?_) (fun hw => ?_))
  · rw [if_pos hw]
    refine Ev.ite' (fun h1 => ?_) (fun h1 => ?_)
    · rw [if_neg (by omega)]; exact sOk0 w true a0 a1 a2 a3 t l hl h2 (fun h => by cases h)
    · by_cases h7 : a0 > 7
      · rw [if_neg (by omega)]; exact Ev.congr (fun k => by rw [decide_eq_true h7]) (sOk0 w true a0 a1 a2 a3 t l hl h2 (fun h => by cases h))
      · rw [if_pos (by omega)]; exact Ev.congr (fun k => by rw [decide_eq_false h7]) (sOk0 w false a0 a1 a2 a3 t l hl h2 (fun h => by omega))
  · rw [if_neg hw]; exact sOk0 w true a0 a1 a2 a3 t l hl h2 (fun h => by cases h)
/-! the program's -/
theorem iUS (k : Int) : impl_usesSum.f k = some (uS k) := by unfold impl_usesSum.f uS; split <;> (try rfl); split <;> rfl
theorem iUN (k : Int) : impl_usesName.f k = some (uN k) := by unfold impl_usesName.f uN; split <;> rfl
theorem iOk5 (w : Int) (x : Bool) (a0 : Int) (a1 a2 : ByteArray) (a3 : Int) (t : ByteArray) (l : List ByteArray) (hl : l.length ≤ 140737488351232) :
    Ev (fun k => impl_entryOk.j5 k w x a0 a1 a2 a3 t l) (if x = true then false else thOkB (a0 == 1) t l w) := by
  refine Ev.step (fun k => by simp only [impl_entryOk.j5]; rfl) ?_
  refine Ev.ite' (fun h => by rw [if_pos h]; exact Ev.now _) (fun h => ?_)
  rw [if_neg h]
  unfold thOkB
  refine Ev.ite' (fun h2 => ?_) (fun h2 => ?_)
  · rw [if_pos (show (a0 == 1) = true by simpa using h2)]; exact Ev.bind (iOk_ev t l w hl) (Ev.now _)
  · rw [if_neg (show ¬ ((a0 == 1) = true) by simpa using h2)]; exact Ev.congr (fun k => endB t l) (Ev.now _)
theorem iOk4 (w lo hi : Int) (a0 : Int) (a1 a2 : ByteArray) (a3 : Int) (t : ByteArray) (l : List ByteArray) (hl : l.length ≤ 140737488351232) :
    Ev (fun k => impl_entryOk.j4 k w lo hi a0 a1 a2 a3 t l) (if lo ≤ a3 ∧ a3 ≤ hi then thOkB (a0 == 1) t l w else false) := by
  refine Ev.step (fun k => by simp only [impl_entryOk.j4]; rfl) ?_
  refine Ev.ite' (fun h => ?_) (fun h => ?_)
  · rw [if_neg (by omega)]; exact iOk5 w true a0 a1 a2 a3 t l hl
  · by_cases h2 : a3 > hi
    · rw [if_neg (by omega)]; exact Ev.congr (fun k => by rw [decide_eq_true h2]) (iOk5 w true a0 a1 a2 a3 t l hl)
    · rw [if_pos (by omega)]; exact Ev.congr (fun k => by rw [decide_eq_false h2]) (iOk5 w false a0 a1 a2 a3 t l hl)
theorem iOk3 (w : Int) (a0 : Int) (b : Bool) (a1 a2 : ByteArray) (a3 : Int) (t : ByteArray) (l : List ByteArray) (hl : l.length ≤ 140737488351232) (hb : b = decide (a0 = 1 ∨ a0 = 4 ∨ a0 = 6)) :
    Ev (fun k => impl_entryOk.j3 k w 0 0 a0 b a0 a1 a2 a3 t l) (if numB a0 a3 = true then thOkB (a0 == 1) t l w else false) := by
  refine Ev.step (fun k => by simp only [impl_entryOk.j3]; rfl) ?_
  unfold numB
  refine Ev.ite' (fun h => ?_) (fun h => ?_)
  · have h' : a0 = 1 ∨ a0 = 4 ∨ a0 = 6 := of_decide_eq_true (hb ▸ h)
    rw [if_pos h']
    have := iOk4 w 1 100000 a0 a1 a2 a3 t l hl
    simpa using this
  · have h' : ¬ (a0 = 1 ∨ a0 = 4 ∨ a0 = 6) := fun e => h (by rw [hb]; exact decide_eq_true e)
    rw [if_neg h']
    refine Ev.ite' (fun h5 => ?_) (fun h5 => ?_)
    · rw [if_pos h5]
      have := iOk4 w 1 1000000000 a0 a1 a2 a3 t l hl
      simpa using this
    · rw [if_neg h5]
      have := iOk4 w 0 0 a0 a1 a2 a3 t l hl
      have e : (0 ≤ a3 ∧ a3 ≤ 0) ↔ (a3 == 0) = true := by rw [beq_iff_eq]; omega
      simp only [e] at this
      exact this
theorem iOk2 (w : Int) (x : Bool) (a0 : Int) (a1 a2 : ByteArray) (a3 : Int) (t : ByteArray) (l : List ByteArray) (hl : l.length ≤ 140737488351232) :
    Ev (fun k => impl_entryOk.j2 k w x a0 a1 a2 a3 t l) (if x = true then false else if numB a0 a3 = true then thOkB (a0 == 1) t l w else false) := by
  refine Ev.step (fun k => by simp only [impl_entryOk.j2]; rfl) ?_
  refine Ev.ite' (fun h => by rw [if_pos h]; exact Ev.now _) (fun h => ?_)
  rw [if_neg h]
  refine Ev.ite' (fun h1 => ?_) (fun h1 => Ev.ite' (fun h4 => ?_) (fun h4 => ?_))
  · exact iOk3 w a0 _ a1 a2 a3 t l hl (by rw [Bool.eq_iff_iff]; simp [h1])
  · exact iOk3 w a0 _ a1 a2 a3 t l hl (by rw [Bool.eq_iff_iff]; simp [h4])
  · exact iOk3 w a0 _ a1 a2 a3 t l hl (by rw [Bool.eq_iff_iff]; simp [h1, h4])
theorem iOk1 (w : Int) (x : Bool) (a0 : Int) (a1 a2 : ByteArray) (a3 : Int) (t : ByteArray) (l : List ByteArray) (hl : l.length ≤ 140737488351232) (hz : a2.size ≤ 140737488351232) :
    Ev (fun k => impl_entryOk.j1 k w x a0 a1 a2 a3 t l) (if x = true then false else if nmOkB a0 a2 = true then (if numB a0 a3 = true then thOkB (a0 == 1) t l w else false) else false) := by
  refine Ev.step (fun k => by simp only [impl_entryOk.j1]; rfl) ?_
  refine Ev.ite' (fun h => by rw [if_pos h]; exact Ev.now _) (fun h => ?_)
  rw [if_neg h]
  have key := fun y => iOk2 w y a0 a1 a2 a3 t l hl
  have eu : Ev (fun _ => impl_usesName.f a0) (uN a0) := Ev.congr (fun _ => iUN a0) (Ev.now _)
  unfold nmOkB
  refine Ev.bind eu (Ev.ite' (fun hu => ?_) (fun hu => ?_))
  · rw [if_pos hu]
    refine Ev.bind (iName_ev a2 hz) (Ev.ite' (fun hn => ?_) (fun hn => ?_))
    · rw [if_pos hn]; exact Ev.bind eu (Ev.ite' (fun _ => key false) (fun h => absurd hu h))
    · rw [if_neg hn]; exact key true
  · rw [if_neg hu]
    refine Ev.bind eu (Ev.ite' (fun h => absurd h hu) (fun _ => ?_))
    have := key (!decide (a2.size = 0))
    cases hd : decide (a2.size = 0) <;> rw [hd] at this <;> rw [nil_b, hd] <;> exact this
theorem iOk0 (w : Int) (x : Bool) (a0 : Int) (a1 a2 : ByteArray) (a3 : Int) (t : ByteArray) (l : List ByteArray) (hl : l.length ≤ 140737488351232) (hz : a2.size ≤ 140737488351232) :
    Ev (fun k => impl_entryOk.j0 k w x a0 a1 a2 a3 t l) (if x = true then false else if sumOkB a0 a1 w = true then (if nmOkB a0 a2 = true then (if numB a0 a3 = true then thOkB (a0 == 1) t l w else false) else false) else false) := by
  refine Ev.step (fun k => by simp only [impl_entryOk.j0]; rfl) ?_
  refine Ev.ite' (fun h => by rw [if_pos h]; exact Ev.now _) (fun h => ?_)
  rw [if_neg h]
  have key := fun y => iOk1 w y a0 a1 a2 a3 t l hl hz
  have eu : Ev (fun _ => impl_usesSum.f a0) (uS a0) := Ev.congr (fun _ => iUS a0) (Ev.now _)
  unfold sumOkB
  refine Ev.bind eu (Ev.ite' (fun hu => ?_) (fun hu => ?_))
  · rw [if_pos hu]
    refine Ev.ite' (fun hs => ?_) (fun hs => ?_)
    · rw [if_pos (decide_eq_true hs)]; exact Ev.bind eu (Ev.ite' (fun _ => key false) (fun h => absurd hu h))
    · rw [if_neg (by simpa using hs)]; exact key true
  · rw [if_neg hu]
    refine Ev.bind eu (Ev.ite' (fun h => absurd h hu) (fun _ => ?_))
    have := key (!decide (a1.size = 0))
    cases hd : decide (a1.size = 0) <;> rw [hd] at this <;> rw [nil_b, hd] <;> exact this
theorem swapB (a b c d : Bool) : (if a = true then (if b = true then (if c = true then d else false) else false) else false) = (if a = true then (if c = true then (if b = true then d else false) else false) else false) := by
  cases a <;> cases b <;> cases c <;> cases d <;> rfl
theorem iEnt_ev (a0 : Int) (a1 a2 : ByteArray) (a3 : Int) (t : ByteArray) (l : List ByteArray) (w : Int) (hl : l.length ≤ 140737488351232) (h2 : a2.size ≤ 140737488351232) :
    Ev (fun k => impl_entryOk.f k a0 a1 a2 a3 t l w) (entB a0 a1 a2 a3 t l w) := by
  have key := fun y => iOk0 w y a0 a1 a2 a3 t l hl h2
  unfold entB
  rw [swapB]
  have ef : ∀ b : Bool, (if b = true then (false : Bool) else false) = false := fun b => by cases b <;> rfl
  refine Ev.ite' (fun h1 => ?_) (fun h1 => Ev.ite' (fun h7 => ?_) (fun h7 => ?_))
  · rw [if_neg (show ¬ (1 ≤ a0 ∧ a0 ≤ 7) by omega), ef]; exact key true
  · rw [if_neg (show ¬ (1 ≤ a0 ∧ a0 ≤ 7) by omega), ef]; exact key true
  · rw [if_pos (show 1 ≤ a0 ∧ a0 ≤ 7 by omega)]
    refine Ev.bind (g := fun _ => impl_widthOk.f w) (Ev.congr (fun _ => wOk w) (Ev.now _)) ?_
    have := key (!widB w)
    cases hb : widB w <;> rw [hb] at this <;> exact this
end
/-! ### entries' forms -/
def head6 (k m n : Int) : List Int := [k % 256, m / 16777216 % 256, m / 65536 % 256, m / 256 % 256, m % 256, n % 256]
def formE (k : Int) (s n : ByteArray) (m : Int) (t : ByteArray) (l : List ByteArray) (w : Int) : ByteArray :=
  if entB k s n m t l w = true then (if k = 1 then strOfNums (head6 k m (n.size : Int)) ++ n ++ s ++ formB t l else strOfNums (head6 k m (n.size : Int)) ++ n ++ s) else ⟨#[]⟩
theorem entB_le {k : Int} {s n : ByteArray} {m : Int} {t : ByteArray} {l : List ByteArray} {w : Int} (h : entB k s n m t l w = true) :
    1 ≤ k ∧ k ≤ 7 ∧ 0 ≤ m ∧ m ≤ 1000000000 ∧ s.size ≤ 8 ∧ n.size ≤ 40 ∧ 1 ≤ w ∧ w ≤ 8 ∧ (k = 1 → thingB t l w = true) := by
  unfold entB at h
  split at h
  · rename_i hw
    have hw' := widB_iff.1 hw
    split at h
    · rename_i hk
      split at h
      · rename_i hs
        split at h
        · rename_i hm
          split at h
          · rename_i hn
            refine ⟨hk.1, hk.2, ?_, ?_, ?_, ?_, hw'.1, hw'.2, fun e => ?_⟩
            · unfold numB at hm; split at hm
              · have := of_decide_eq_true hm; omega
              · split at hm
                · have := of_decide_eq_true hm; omega
                · have := beq_iff_eq.1 hm; omega
            · unfold numB at hm; split at hm
              · have := of_decide_eq_true hm; omega
              · split at hm
                · have := of_decide_eq_true hm; omega
                · have := beq_iff_eq.1 hm; omega
            · unfold sumOkB at hs; split at hs
              · have := of_decide_eq_true hs; omega
              · have := of_decide_eq_true hs; omega
            · unfold nmOkB at hn; split at hn
              · have key : ∀ j i, nameFrom n j i = true → n.size ≤ 40 := by
                  intro j
                  induction j with
                  | zero => intro i h; exact (of_decide_eq_true h).2
                  | succ j ih =>
                    intro i h
                    unfold nameFrom at h
                    split at h
                    · cases h
                    · split at h
                      · cases h
                      · exact ih _ h
                exact key _ _ hn
              · have := of_decide_eq_true hn; omega
            · subst e
              have : thOkB true t l w = true := h
              unfold thOkB at this
              rwa [if_pos rfl] at this
          · cases h
        · cases h
      · cases h
    · cases h
  · cases h
theorem form_size {t : ByteArray} {l : List ByteArray} {w : Int} (h : thingB t l w = true) : (formB t l).size ≤ 2241 := by
  have hs := thing_small h
  have h1 : (headB l.length).size = 1 := by unfold headB; rw [son_size]; rfl
  unfold formB
  rw [ByteArray.size_append, ByteArray.size_append, h1, catB_size]
  omega
theorem sFE_ev (k : Int) (s n : ByteArray) (m : Int) (t : ByteArray) (l : List ByteArray) (w : Int) (hl : l.length ≤ 140737488351232) (h2 : n.size ≤ 140737488351232) : Ev (fun f => spec_FormEntry.f f k s n m t l w) (formE k s n m t l w) := by
  refine Ev.bind (sEnt_ev k s n m t l w hl h2) ?_
  unfold formE
  by_cases c : entB k s n m t l w = true
  · obtain ⟨k1, k7, m0, m9, hs, hn, _, _, hT⟩ := entB_le c
    have e1 : wrap64 (Int.tdiv m 16777216) % 256 = m / 16777216 % 256 := by rw [Int.tdiv_eq_ediv_of_nonneg m0, w64_small (by omega) (by omega)]
    have e2 : Int.tmod (wrap64 (Int.tdiv m 65536)) 256 % 256 = m / 65536 % 256 := by rw [Int.tdiv_eq_ediv_of_nonneg m0, w64_small (by omega) (by omega), Int.tmod_eq_emod_of_nonneg (by omega)]; omega
    have e3 : Int.tmod (wrap64 (Int.tdiv m 256)) 256 % 256 = m / 256 % 256 := by rw [Int.tdiv_eq_ediv_of_nonneg m0, w64_small (by omega) (by omega), Int.tmod_eq_emod_of_nonneg (by omega)]; omega
    have e4 : Int.tmod m 256 % 256 = m % 256 := by rw [Int.tmod_eq_emod_of_nonneg m0]; omega
    rw [if_pos c]
    refine Ev.pos c (Ev.bind (Ev.now _) (Ev.pos (by simp; omega) (Ev.bind (Ev.now _) (Ev.pos (by simp [bytes_length]; omega) (Ev.bind (Ev.now _) (Ev.ite' (fun hk => ?_) (fun hk => ?_)))))))
    · rw [if_pos hk]
      have hf : formT t l w = formB t l := by unfold formT; rw [if_pos (hT hk)]
      refine Ev.bind (sFormT_ev t l w hl) ?_
      rw [hf]
      have := form_size (hT hk)
      refine Ev.pos (by simp [bytes_length]; omega) (Ev.ret ?_)
      simp only [son_append, son_bytes, e1, e2, e3, e4]; rfl
    · rw [if_neg hk]
      refine Ev.ret ?_
      simp only [son_append, son_bytes, e1, e2, e3, e4]; rfl
  · rw [if_neg c]
    exact Ev.congr (fun f => if_neg c) (Ev.now _)
theorem iFE_ev (k : Int) (s n : ByteArray) (m : Int) (t : ByteArray) (l : List ByteArray) (w : Int) (hl : l.length ≤ 140737488351232) (h2 : n.size ≤ 140737488351232) : Ev (fun f => impl_FormEntry.f f k s n m t l w) (formE k s n m t l w) := by
  refine Ev.bind (iEnt_ev k s n m t l w hl h2) ?_
  unfold formE
  by_cases c : entB k s n m t l w = true
  · obtain ⟨k1, k7, m0, m9, hs, hn, _, _, hT⟩ := entB_le c
    have e1 : m % 4294967296 = m := by omega
    have ea : binary_bigEndian_AppendUint32.f [k % 256] m = some [k % 256, m / 16777216 % 256, m / 65536 % 256, m / 256 % 256, m % 256] := by
      unfold binary_bigEndian_AppendUint32.f; simp only [Option.bind_some]; rw [if_pos (by simp)]; rfl
    rw [if_pos c]
    refine Ev.pos c (Ev.bind (g := fun _ => binary_bigEndian_AppendUint32.f [k % 256] (m % 4294967296)) (Ev.congr (fun _ => by rw [e1]; exact ea) (Ev.now _)) (Ev.pos (by simp) (Ev.bind (Ev.now _) (Ev.pos (by rw [son_size]; simp; omega) (Ev.pos (by rw [ByteArray.size_append, son_size]; simp; omega) (Ev.ite' (fun hk => ?_) (fun hk => ?_)))))))
    · rw [if_pos hk]
      have hz := form_size (hT hk)
      have ht := thing_small (hT hk)
      refine Ev.bind (iForm_ev t l hl (by omega)) (Ev.pos (by rw [ByteArray.size_append, ByteArray.size_append, son_size]; simp; omega) (Ev.ret rfl))
    · rw [if_neg hk]
      exact Ev.ret rfl
  · rw [if_neg c]
    exact Ev.congr (fun f => if_neg c) (Ev.now _)
end Go.Proofs.Ytpnblgbkjbpeoaa.Q

namespace Go.Proofs.Ytpnblgbkjbpeoaa.P
open Go.RowKit Go.Proofs.YtpnblgbkjbpeoaaW.PrintWords Go.Proofs.YtpnblgbkjbpeoaaW.PrintLast Go.Proofs.YtpnblgbkjbpeoaaW.PrintMore
attribute [local go_sem] max2_int min2_int max_two min_two max_three min_three max_four min_four   -- for this text's walks alone
set_option linter.unusedVariables false
set_option linter.unusedSimpArgs false

/-! ### laws_markText: function 84 -/
def laws_markText.l0 : Nat → Int → ByteArray → Option (ByteArray)
  | 0, _, _ => none
  | k + 1, x0, x3 => if x0 > 0 then ((some (([(wrap64 (48 + (Int.tmod x0 10))) % 256] : List Int) : List Int)).bind fun y248 => (if (strOfNums y248).size + x3.size ≤ 9223372036854775807 then (laws_markText.l0 k (wrap64 (Int.tdiv x0 10)) ((strOfNums y248) ++ x3)) else (none))) else (if 1 + x3.size ≤ 9223372036854775807 then (some ((⟨#[109]⟩ : ByteArray) ++ x3)) else (none))
def laws_markText.f (k : Nat) (a0 : Int) : Option (ByteArray) := if a0 ≤ 0 then (some (⟨#[109, 48]⟩ : ByteArray)) else (laws_markText.l0 k a0 (⟨#[]⟩ : ByteArray))
theorem laws_markText.mono_l : ∀ k, (∀ y0 y1, LeO (laws_markText.l0 k y0 y1) (laws_markText.l0 (k + 1) y0 y1))
  | 0 => fun _ _ r h => by simp [laws_markText.l0] at h
  | k + 1 => by
    have ih0 := laws_markText.mono_l k
    · intro y0 y1
      unfold laws_markText.l0
      repeat' first
      | (with_reducible exact ih0 _ _)
      | (with_reducible exact LeO.refl _)
      | (with_reducible exact LeO.none _)
      | (with_reducible refine LeO.ite ?_ ?_)
      | (with_reducible refine LeO.bind ?_ (fun _ => ?_))
      | exact ih0 _ _
      | exact LeO.none _
      | refine LeO.ite ?_ ?_
      | refine LeO.bind ?_ (fun _ => ?_)
theorem laws_markText.mono : ∀ a0 k, LeO (laws_markText.f k a0) (laws_markText.f (k + 1) a0) := by
  intro a0 k
  have ih0 := laws_markText.mono_l k
  unfold laws_markText.f
  repeat' first
      | (with_reducible exact ih0 _ _)
      | (with_reducible exact LeO.refl _)
      | (with_reducible exact LeO.none _)
      | (with_reducible refine LeO.ite ?_ ?_)
      | (with_reducible refine LeO.bind ?_ (fun _ => ?_))
      | exact ih0 _ _
      | exact LeO.none _
      | refine LeO.ite ?_ ?_
      | refine LeO.bind ?_ (fun _ => ?_)
set_option maxHeartbeats 8000000 in
set_option maxRecDepth 100000 in
theorem laws_markText.calls (k : Nat) (a0 : Int) (r : ByteArray) (w : World) (h : laws_markText.f k a0 = some r) :
    Calls Try.prog 84 #[.int .i64 a0] w fun e w' => e = .returned (.string r) ∧ Below w.heap.size w w' := by
  have HB := Aside0.mk (Below.refl w.heap.size w)
  have H : (if a0 ≤ 0 then (some (⟨#[109, 48]⟩ : ByteArray)) else (laws_markText.l0 k a0 (⟨#[]⟩ : ByteArray))) = some r := h
  clear h
  by_cases c2 : a0 ≤ 0
  · rw [if_pos c2] at H
    have c2b0 : decide (a0 ≤ 0) = true := decide_eq_true c2
    clear c2
    obtain rfl := Option.some.inj H
    go_enter Try.func84, Try.ntmps84
    go_wp2
    go_ret
    exact ⟨by first | rfl | (simp [errW_none, errW_some] <;> rfl) | (simp [*, errW_none, errW_some] <;> rfl), by repeat (first | (with_reducible first | exact HB.out | apply below_alloc | apply pw_below_drewN | apply below_drew1) | exact HB.out)⟩
  · rw [if_neg c2] at H
    have c2b0 : decide (a0 ≤ 0) = false := decide_eq_false c2
    clear c2
    have H' := Aside0.mk H
    clear H
    go_enter Try.func84, Try.ntmps84
    go_wp2
    go_loopg [0, 3] k (fun kq v0 v3 w' => ∃ (x0_1 : Int) (x3_1 : ByteArray), v0 = .int .i64 x0_1 ∧ v3 = .string x3_1 ∧ Aside0 (laws_markText.l0 kq x0_1 x3_1 = some r) ∧ Aside0 (kq ≤ k) ∧ Aside0 (Below w.heap.size w w'))
    case atStart => exact ⟨(a0), ((⟨#[]⟩ : ByteArray)), (by first | rfl | (simp; done) | (simp [*]; done) | (simp; exact nil_isE _) | (simp; exact (nil_isE _).symm)), (by first | rfl | (simp; done) | (simp [*]; done) | (simp; exact nil_isE _) | (simp; exact (nil_isE _).symm)), H', ⟨Nat.le_refl _⟩, ⟨by repeat (first | (with_reducible first | exact HB.out | apply below_alloc | apply pw_below_drewN | apply below_drew1) | exact HB.out)⟩⟩
    case round =>
      clear H'
      try clear c2
      try clear c2b0
      try clear p2
      obtain ⟨x0_1, x3_1, rfl, rfl, HA, HK1, HB⟩ := hrel
      cases gk with
      | zero => exact absurd HA.out (by simp [laws_markText.l0])
      | succ k1 =>
        have H := HA.out
        clear HA
        simp only [laws_markText.l0] at H
        by_cases c3 : x0_1 > 0
        · rw [if_pos c3] at H
          have c3b0 : decide (0 < x0_1) = true := decide_eq_true c3
          clear c3
          obtain ⟨y248, hy248⟩ : ∃ y_ : List Int, y_ = (([(wrap64 (48 + (Int.tmod x0_1 10))) % 256] : List Int)) := ⟨_, rfl⟩
          replace H : (if (strOfNums y248).size + x3_1.size ≤ 9223372036854775807 then (laws_markText.l0 k1 (wrap64 (Int.tdiv x0_1 10)) ((strOfNums y248) ++ x3_1)) else (none)) = some r := by first | (rw [hy248]; with_reducible exact H) | (have H2_ := (Option.bind_some _ _).symm.trans H; rw [hy248]; with_reducible exact H2_) | (have H2_ := (Option.bind_some _ _).symm.trans H; with_reducible exact H2_) | with_reducible exact H | (rw [hy248]; exact H) | exact H
          have Ny248 := Aside0.mk hy248
          clear hy248
          by_cases c4 : (strOfNums y248).size + x3_1.size ≤ 9223372036854775807
          · rw [if_pos c4] at H
            have c4b0 := eq_true c4
            have c4b1 : decide ((strOfNums y248).size + x3_1.size ≤ 9223372036854775807) = true := decide_eq_true c4
            try have c4b2 : (9223372036854775807 < (strOfNums y248).size + x3_1.size) = False := eq_false (Nat.not_lt.2 c4)
            have H' := Aside0.mk H
            clear H
            go_wp2_with (first | ((with_reducible refine gate_dst (N := 12) rfl ?_); refine Kd.R_lit (Kd.int .u8) _ 5 ?hg (N := 12) ?hd (xs := ([(wrap64 (48 + (Int.tmod x0_1 10))) % 256] : List Int)) (inner := [.int .u8 ((wrap64 (48 + (Int.tmod x0_1 10))) % 256)]) (ok := fun _ => True) (okp := fun _ => True) ?hr ?hp (fun _ hk => hk) trivial (Below.refl _ _) (Nat.le_refl _) (by simp) ?_; (case hd => rfl); (case hg => rfl); (case hr => first | (go_simp; done) | (go_simp; rfl)); (case hp => exact (Reps.one (show Kd.M (Kd.int .u8) _ _ _ ((wrap64 (48 + (Int.tmod x0_1 10))) % 256) [.int .u8 ((wrap64 (48 + (Int.tmod x0_1 10))) % 256)] from rfl) (Reps.none _ _))); intro v249 w5 ho6 hb hg_ hnew_; clear hg_ hnew_; (first | rw [← Ny248.out] at ho6 | (simp only [Int.reduceToNat] at ho6; rw [← Ny248.out] at ho6)); have n0_ := Aside0.mk (Kd.R_lower ho6 (below_size (by repeat (first | (with_reducible first | exact HB.out | apply below_alloc | apply pw_below_drewN | apply below_drew1) | exact HB.out)))); have n1_ := Aside0.mk (below_step (by repeat (first | (with_reducible first | exact HB.out | apply below_alloc | apply pw_below_drewN | apply below_drew1) | exact HB.out)) hb); clear HB; have HO250 := n0_; have HB := n1_; clear n0_ n1_; clear hb ho6; have hcv7 := own_string (P := Try.prog) Try.underlying52 Try.underlying5 Try.underlying9 (Kd.own_of_R HO250.out)))
            go_roundg k1
            case measure => have := HK1.out; omega
            case rel => exact ⟨(wrap64 (Int.tdiv x0_1 10)), ((strOfNums y248) ++ x3_1), (by first | rfl | (simp; done) | (simp [*]; done) | (simp; exact nil_isE _) | (simp; exact (nil_isE _).symm)), (by first | rfl | (simp; done) | (simp [*]; done) | (simp; exact nil_isE _) | (simp; exact (nil_isE _).symm)), H', ⟨by have := HK1.out; omega⟩, ⟨by repeat (first | (with_reducible first | exact HB.out | apply below_alloc | apply pw_below_drewN | apply below_drew1) | exact HB.out)⟩⟩
          · rw [if_neg c4] at H
            exact absurd H (by simp)
        · rw [if_neg c3] at H
          have c3b0 : decide (0 < x0_1) = false := decide_eq_false c3
          clear c3
          by_cases c8 : 1 + x3_1.size ≤ 9223372036854775807
          · rw [if_pos c8] at H
            have c8b0 := eq_true c8
            have c8b1 : decide (1 + x3_1.size ≤ 9223372036854775807) = true := decide_eq_true c8
            try have c8b2 : (9223372036854775807 < 1 + x3_1.size) = False := eq_false (Nat.not_lt.2 c8)
            obtain rfl := Option.some.inj H
            go_wp2
            go_ret
            exact ⟨by first | rfl | (simp [errW_none, errW_some] <;> rfl) | (simp [*, errW_none, errW_some] <;> rfl), by repeat (first | (with_reducible first | exact HB.out | apply below_alloc | apply pw_below_drewN | apply below_drew1) | exact HB.out)⟩
          · rw [if_neg c8] at H
            exact absurd H (by simp)

end Go.Proofs.Ytpnblgbkjbpeoaa.P

namespace Go.Proofs.Ytpnblgbkjbpeoaa.P
open Go.RowKit Go.Proofs.YtpnblgbkjbpeoaaW.PrintWords Go.Proofs.YtpnblgbkjbpeoaaW.PrintLast Go.Proofs.YtpnblgbkjbpeoaaW.PrintMore
attribute [local go_sem] max2_int min2_int max_two min_two max_three min_three max_four min_four   -- for this text's walks alone
set_option linter.unusedVariables false
set_option linter.unusedSimpArgs false

/-! ### laws_markStringS: function 65 -/
def laws_markStringS.l0 : Nat → List ByteArray → Int → Int → Option (Int × List ByteArray)
  | 0, _, _, _ => none
  | k + 1, x0, x1, x5 => if x5 < (x0.length : Int) then ((laws_markText.f k x1).bind fun t251 => (if 0 ≤ x5 then (laws_markStringS.l0 k (x0.set (x5 : Int).toNat t251) (wrap64 (x1 + 1)) (wrap64 (x5 + 1))) else (none))) else (some (x1, x0))
def laws_markStringS.f (k : Nat) (l0 : List ByteArray) (a1 : Int) : Option (Int × List ByteArray) := laws_markStringS.l0 k l0 a1 0
theorem laws_markStringS.mono_l : ∀ k, (∀ y0 y1 y2, LeO (laws_markStringS.l0 k y0 y1 y2) (laws_markStringS.l0 (k + 1) y0 y1 y2))
  | 0 => fun _ _ _ r h => by simp [laws_markStringS.l0] at h
  | k + 1 => by
    have ih0 := laws_markStringS.mono_l k
    · intro y0 y1 y2
      unfold laws_markStringS.l0
      repeat' first
      | (with_reducible exact ih0 _ _ _)
      | (with_reducible exact laws_markText.mono _ _)
      | (with_reducible exact LeO.refl _)
      | (with_reducible exact LeO.none _)
      | (with_reducible refine LeO.ite ?_ ?_)
      | (with_reducible refine LeO.bind ?_ (fun _ => ?_))
      | exact ih0 _ _ _
      | exact laws_markText.mono _ _
      | exact LeO.none _
      | refine LeO.ite ?_ ?_
      | refine LeO.bind ?_ (fun _ => ?_)
theorem laws_markStringS.mono : ∀ a0 a1 k, LeO (laws_markStringS.f k a0 a1) (laws_markStringS.f (k + 1) a0 a1) := by
  intro a0 a1 k
  have ih0 := laws_markStringS.mono_l k
  unfold laws_markStringS.f
  repeat' first
      | (with_reducible exact ih0 _ _ _)
      | (with_reducible exact laws_markText.mono _ _)
      | (with_reducible exact LeO.refl _)
      | (with_reducible exact LeO.none _)
      | (with_reducible refine LeO.ite ?_ ?_)
      | (with_reducible refine LeO.bind ?_ (fun _ => ?_))
      | exact ih0 _ _ _
      | exact laws_markText.mono _ _
      | exact LeO.none _
      | refine LeO.ite ?_ ?_
      | refine LeO.bind ?_ (fun _ => ?_)
set_option maxHeartbeats 8000000 in
set_option maxRecDepth 100000 in
theorem laws_markStringS.calls (k : Nat) (P0_ : Nat → Prop) (u9000_ : Value) (l0 : List ByteArray) (a1 : Int) (r1 : Int) (r2 : List ByteArray) (w0 w : World) (hB : Below w0.heap.size w0 w) (ho0 : Kd.R Kd.string 9 w w0.heap.size P0_ u9000_ l0) (h : laws_markStringS.f k l0 a1 = some (r1, r2)) :
    Calls Try.prog 65 #[u9000_, .int .i64 a1] w fun e w' => e = .returned (.int .i64 r1) ∧ Kd.R Kd.string 9 w' w0.heap.size (fun k_ => (P0_ k_ ∨ w.heap.size ≤ k_)) u9000_ r2 ∧ Below w0.heap.size w0 w' ∧ Kept w w' (fun k_ => P0_ k_) := by
  have HO0 := Aside0.mk (show Kd.R Kd.string 9 w w0.heap.size (fun k_ => (P0_ k_ ∨ w.heap.size ≤ k_)) u9000_ l0 from Kd.R_mono ho0 (fun k_ hk => (.inl hk)))
  have HK := Aside0.mk (Kept.refl w (fun k_ => P0_ k_))
  have HW0 := Aside0.mk hB.size
  have HB := Aside0.mk hB
  clear hB
  have H : (laws_markStringS.l0 k l0 a1 0) = some (r1, r2) := h
  clear h
  have H' := Aside0.mk H
  clear H
  go_enter Try.func65, Try.ntmps65
  go_wp2
  go_loopg [1, 5] k (fun kq v1 v5 w' => ∃ (x0_1 : List ByteArray) (x1_1 : Int) (x5_1 : Int), v1 = .int .i64 x1_1 ∧ v5 = .int .i64 x5_1 ∧ Aside0 (laws_markStringS.l0 kq x0_1 x1_1 x5_1 = some (r1, r2)) ∧ Aside0 (kq ≤ k) ∧ Aside0 (Kd.R Kd.string 9 w' w0.heap.size (fun k_ => (P0_ k_ ∨ w.heap.size ≤ k_)) u9000_ x0_1) ∧ Aside0 (Kept w w' (fun k_ => P0_ k_)) ∧ Aside0 (Below w0.heap.size w0 w'))
  case atStart => exact ⟨(l0), (a1), (0), (by first | rfl | (simp; done) | (simp [*]; done) | (simp; exact nil_isE _) | (simp; exact (nil_isE _).symm)), (by first | rfl | (simp; done) | (simp [*]; done) | (simp; exact nil_isE _) | (simp; exact (nil_isE _).symm)), H', ⟨Nat.le_refl _⟩, ⟨by (with_reducible repeat (first | apply Kd.R_alloc | apply Kd.R_drewN | apply Kd.R_drew)); exact HO0.out⟩, ⟨by repeat (first | (with_reducible first | exact HK.out | apply Kept.alloc | apply Kept.drewN | apply Kept.drew) | exact HK.out)⟩, ⟨by repeat (first | (with_reducible first | exact HB.out | apply below_alloc | apply pw_below_drewN | apply below_drew1) | exact HB.out)⟩⟩
  case round =>
    clear H'
    try clear p2
    obtain ⟨x0_1, x1_1, x5_1, rfl, rfl, HA, HK1, HO_0, HK, HB⟩ := hrel
    cases gk with
    | zero => exact absurd HA.out (by simp [laws_markStringS.l0])
    | succ k1 =>
      have H := HA.out
      clear HA
      simp only [laws_markStringS.l0] at H
      by_cases c3 : x5_1 < (x0_1.length : Int)
      · rw [if_pos c3] at H
        have c3b0 : decide (x5_1 < (x0_1.length : Int)) = true := decide_eq_true c3
        clear c3
        replace H := Option.bind_eq_some_iff.mp H
        obtain ⟨t251, A40, H⟩ := H
        replace H : (if 0 ≤ x5_1 then (laws_markStringS.l0 k1 (x0_1.set (x5_1 : Int).toNat t251) (wrap64 (x1_1 + 1)) (wrap64 (x5_1 + 1))) else (none)) = some (r1, r2) := H
        have A4 := Aside0.mk A40
        clear A40
        by_cases c5 : 0 ≤ x5_1
        · rw [if_pos c5] at H
          have c5b0 : decide (0 ≤ x5_1) = true := decide_eq_true c5
          clear c5
          obtain ⟨y252, hy252⟩ : ∃ y_ : List ByteArray, y_ = (x0_1.set (x5_1 : Int).toNat t251) := ⟨_, rfl⟩
          replace H : (laws_markStringS.l0 k1 y252 (wrap64 (x1_1 + 1)) (wrap64 (x5_1 + 1))) = some (r1, r2) := by first | (rw [hy252]; with_reducible exact H) | (have H2_ := (Option.bind_some _ _).symm.trans H; rw [hy252]; with_reducible exact H2_) | (have H2_ := (Option.bind_some _ _).symm.trans H; with_reducible exact H2_) | with_reducible exact H | (rw [hy252]; exact H) | exact H
          have Ny252 := Aside0.mk hy252
          clear hy252
          have H' := Aside0.mk H
          clear H
          obtain ⟨Ao7, co7, eo7⟩ := Kd.R_slice HO_0.out
          subst eo7
          go_wp2_with (first | ((with_reducible refine gate_callee (f := 84) rfl ?_); refine goesL_ (some 15) rfl rfl Try.func84 (by kernel_rfl) rfl #[.int .i64 x1_1] rfl (by (try simp only [List.map_toArray, List.map_cons, List.map_nil]); first | done | rfl | (simp only [List.length_drop, List.length_take]; rfl)) ?_; (with_reducible refine (laws_markText.calls k1 x1_1 t251 _ A4.out).mono ?_); rintro e w8 ⟨rfl, hb⟩; refine ⟨_, rfl, ?_⟩; have n0_ := Aside0.mk (Kd.R_below (by (with_reducible repeat (first | apply Kd.R_alloc | apply Kd.R_drewN | apply Kd.R_drew)); exact HO_0.out) hb); have n1_ := Aside0.mk (Kept.below (S := (fun k_ => P0_ k_)) (by repeat (first | (with_reducible first | exact HK.out | apply Kept.alloc | apply Kept.drewN | apply Kept.drew) | exact HK.out)) hb); have n2_ := Aside0.mk (below_step (by repeat (first | (with_reducible first | exact HB.out | apply below_alloc | apply pw_below_drewN | apply below_drew1) | exact HB.out)) hb); clear HO_0; clear HK; clear HB; have HO_0 := n0_; have HK := n1_; have HB := n2_; clear n0_ n1_ n2_; (try clear hb); (try clear hb2); (try clear hk); (try clear hi); have p6 : 0 ≤ (x5_1 : Int) := of_decide_eq_true (by first | (with_reducible assumption) | assumption); have q6 : (x5_1 : Int) < ((x0_1.length : Int) : Int) := of_decide_eq_true (by first | (with_reducible assumption) | assumption); obtain ⟨go6, co6, eo6, gb6, gl6, cl6, HG6⟩ := Kd.R_form HO_0.out (by omega); (first | cases eo6 | (injection eo6 with ea_ en_ ec_; (first | subst ea_ | (injection ea_ with ea_; subst ea_)); subst ec_; clear en_)); have GB6 := Aside0.mk gb6; have GG6 := Aside0.mk HG6; clear gb6 gl6 HG6; have HMgo6 := Aside0.mk (show (P0_ go6 ∨ w.heap.size ≤ go6) from (HO_0.out.1 _ rfl)); obtain ⟨hx6_0, hf6_0⟩ := Kd.R_celln (⟨#[]⟩ : ByteArray) HO_0.out (x5_1 : Int) p6 q6; replace p6 := eq_true p6; replace q6 := eq_true q6; obtain ⟨hy9_, hz9_⟩ := Kd.R_celln (⟨#[]⟩ : ByteArray) HO_0.out (x5_1 : Int) (of_decide_eq_true (by first | (with_reducible assumption) | assumption)) (of_decide_eq_true (by first | (with_reducible assumption) | assumption)); have HP9 := Kd.R_putg HO_0.out (x5_1 : Int) t251) | ((with_reducible refine gate_store (t := 9) (p := 16) rfl ?_); refine store_event (t := 9) (p := 16) (v := ?vo_w10) (w1 := (w8.setCell ⟨go6, (x5_1 : Int).toNat, none⟩ (.string t251))) ?hg ?ho ?hn ?hr ?_; (case ho => rfl); (case hg => rfl); (case hn => rfl); (case hr => first | (go_simp; done) | (go_simp; rfl)); intro w10 hw; have hg : w8.grownBy w10 (some go6) := (by rw [hw]; exact HP9.2); have hp_ : Kd.R Kd.string 9 w10 w0.heap.size (fun k_ => (P0_ k_ ∨ w.heap.size ≤ k_)) (.slice (some ⟨go6, 0, none⟩) x0_1.length co7) y252 := (by rw [hw, Ny252.out]; exact HP9.1); clear HP9; have n0_ := Aside0.mk (hp_); have n1_ := Aside0.mk ((by rw [hw]; exact below_set (HB.out) GB6.out : Below w0.heap.size w0 w10)); have n2_ := Aside0.mk (Kept.of_grown (S := (fun k_ => P0_ k_)) hg (by repeat (first | (with_reducible first | exact HK.out | apply Kept.alloc | apply Kept.drewN | apply Kept.drew) | exact HK.out)) (fun k_ e_ => (HO_0.out.1 k_ e_))); clear HO_0; clear HB; clear HK; have HO_0 := n0_; have HB := n1_; have HK := n2_; clear n0_ n1_ n2_; clear hg hw hp_))
          go_roundg k1
          case measure => have := HK1.out; omega
          case rel => exact ⟨(y252), (wrap64 (x1_1 + 1)), (wrap64 (x5_1 + 1)), (by first | rfl | (simp; done) | (simp [*]; done) | (simp; exact nil_isE _) | (simp; exact (nil_isE _).symm)), (by first | rfl | (simp; done) | (simp [*]; done) | (simp; exact nil_isE _) | (simp; exact (nil_isE _).symm)), H', ⟨by have := HK1.out; omega⟩, ⟨by (with_reducible repeat (first | apply Kd.R_alloc | apply Kd.R_drewN | apply Kd.R_drew)); exact HO_0.out⟩, ⟨by repeat (first | (with_reducible first | exact HK.out | apply Kept.alloc | apply Kept.drewN | apply Kept.drew) | exact HK.out)⟩, ⟨by repeat (first | (with_reducible first | exact HB.out | apply below_alloc | apply pw_below_drewN | apply below_drew1) | exact HB.out)⟩⟩
        · rw [if_neg c5] at H
          exact absurd H (by simp)
      · rw [if_neg c3] at H
        have c3b0 : decide (x5_1 < (x0_1.length : Int)) = false := decide_eq_false c3
        clear c3
        simp only [Option.some.injEq, Prod.mk.injEq] at H
        obtain ⟨rfl, rfl⟩ := H
        obtain ⟨Ao11, co11, eo11⟩ := Kd.R_slice HO_0.out
        subst eo11
        go_wp2
        go_ret
        exact ⟨by first | rfl | (simp [errW_none, errW_some] <;> rfl) | (simp [*, errW_none, errW_some] <;> rfl), by (with_reducible repeat (first | apply Kd.R_alloc | apply Kd.R_drewN | apply Kd.R_drew)); exact HO_0.out, by repeat (first | (with_reducible first | exact HB.out | apply below_alloc | apply pw_below_drewN | apply below_drew1) | exact HB.out), by repeat (first | (with_reducible first | exact HK.out | apply Kept.alloc | apply Kept.drewN | apply Kept.drew) | exact HK.out)⟩

end Go.Proofs.Ytpnblgbkjbpeoaa.P

namespace Go.Proofs.Ytpnblgbkjbpeoaa.P
open Go.RowKit Go.Proofs.YtpnblgbkjbpeoaaW.PrintWords Go.Proofs.YtpnblgbkjbpeoaaW.PrintLast Go.Proofs.YtpnblgbkjbpeoaaW.PrintMore
attribute [local go_sem] max2_int min2_int max_two min_two max_three min_three max_four min_four   -- for this text's walks alone
set_option linter.unusedVariables false
set_option linter.unusedSimpArgs false

/-! ### laws_heldStringS: function 66 -/
def laws_heldStringS.l0 : Nat → List ByteArray → Int → Int → Option (Int)
  | 0, _, _, _ => none
  | k + 1, x0, x1, x5 => if x5 < (x0.length : Int) then (if 0 ≤ x5 then ((laws_markText.f k x1).bind fun t257 => (if (rdOf ByteArray.empty x0 x5).toList = t257.toList then (laws_heldStringS.l0 k x0 (wrap64 (x1 + 1)) (wrap64 (x5 + 1))) else (some (-1)))) else (none)) else (some x1)
def laws_heldStringS.f (k : Nat) (l0 : List ByteArray) (a1 : Int) : Option (Int) := laws_heldStringS.l0 k l0 a1 0
theorem laws_heldStringS.mono_l : ∀ k, (∀ y0 y1 y2, LeO (laws_heldStringS.l0 k y0 y1 y2) (laws_heldStringS.l0 (k + 1) y0 y1 y2))
  | 0 => fun _ _ _ r h => by simp [laws_heldStringS.l0] at h
  | k + 1 => by
    have ih0 := laws_heldStringS.mono_l k
    · intro y0 y1 y2
      unfold laws_heldStringS.l0
      repeat' first
      | (with_reducible exact ih0 _ _ _)
      | (with_reducible exact laws_markText.mono _ _)
      | (with_reducible exact LeO.refl _)
      | (with_reducible exact LeO.none _)
      | (with_reducible refine LeO.ite ?_ ?_)
      | (with_reducible refine LeO.bind ?_ (fun _ => ?_))
      | exact ih0 _ _ _
      | exact laws_markText.mono _ _
      | exact LeO.none _
      | refine LeO.ite ?_ ?_
      | refine LeO.bind ?_ (fun _ => ?_)
theorem laws_heldStringS.mono : ∀ a0 a1 k, LeO (laws_heldStringS.f k a0 a1) (laws_heldStringS.f (k + 1) a0 a1) := by
  intro a0 a1 k
  have ih0 := laws_heldStringS.mono_l k
  unfold laws_heldStringS.f
  repeat' first
      | (with_reducible exact ih0 _ _ _)
      | (with_reducible exact laws_markText.mono _ _)
      | (with_reducible exact LeO.refl _)
      | (with_reducible exact LeO.none _)
      | (with_reducible refine LeO.ite ?_ ?_)
      | (with_reducible refine LeO.bind ?_ (fun _ => ?_))
      | exact ih0 _ _ _
      | exact laws_markText.mono _ _
      | exact LeO.none _
      | refine LeO.ite ?_ ?_
      | refine LeO.bind ?_ (fun _ => ?_)
set_option maxHeartbeats 8000000 in
set_option maxRecDepth 100000 in
theorem laws_heldStringS.calls (k : Nat) (A0 : Option Addr) (c0 : Nat) (l0 : List ByteArray) (a1 : Int) (r : Int) (w : World) (hr0 : Kd.C Kd.string w A0 l0.length l0) (hc0 : l0.length ≤ c0) (h : laws_heldStringS.f k l0 a1 = some r) :
    Calls Try.prog 66 #[.slice A0 l0.length c0, .int .i64 a1] w fun e w' => e = .returned (.int .i64 r) ∧ Below w.heap.size w w' := by
  have HR0 := Aside0.mk hr0
  have HC0 := Aside0.mk hc0
  clear hr0 hc0
  have HB := Aside0.mk (Below.refl w.heap.size w)
  have H : (laws_heldStringS.l0 k l0 a1 0) = some r := h
  clear h
  have H' := Aside0.mk H
  clear H
  go_enter Try.func66, Try.ntmps66
  go_wp2
  go_loopg [1, 5] k (fun kq v1 v5 w' => ∃ (x1_1 : Int) (x5_1 : Int), v1 = .int .i64 x1_1 ∧ v5 = .int .i64 x5_1 ∧ Aside0 (laws_heldStringS.l0 kq l0 x1_1 x5_1 = some r) ∧ Aside0 (kq ≤ k) ∧ Aside0 (Below w.heap.size w w'))
  case atStart => exact ⟨(a1), (0), (by first | rfl | (simp; done) | (simp [*]; done) | (simp; exact nil_isE _) | (simp; exact (nil_isE _).symm)), (by first | rfl | (simp; done) | (simp [*]; done) | (simp; exact nil_isE _) | (simp; exact (nil_isE _).symm)), H', ⟨Nat.le_refl _⟩, ⟨by repeat (first | (with_reducible first | exact HB.out | apply below_alloc | apply pw_below_drewN | apply below_drew1) | exact HB.out)⟩⟩
  case round =>
    clear H'
    try clear p2
    obtain ⟨x1_1, x5_1, rfl, rfl, HA, HK1, HB⟩ := hrel
    cases gk with
    | zero => exact absurd HA.out (by simp [laws_heldStringS.l0])
    | succ k1 =>
      have H := HA.out
      clear HA
      simp only [laws_heldStringS.l0] at H
      by_cases c3 : x5_1 < (l0.length : Int)
      · rw [if_pos c3] at H
        have c3b0 : decide (x5_1 < (l0.length : Int)) = true := decide_eq_true c3
        clear c3
        by_cases c4 : 0 ≤ x5_1
        · rw [if_pos c4] at H
          have c4b0 : decide (0 ≤ x5_1) = true := decide_eq_true c4
          clear c4
          replace H := Option.bind_eq_some_iff.mp H
          obtain ⟨t257, A50, H⟩ := H
          replace H : (if (rdOf ByteArray.empty l0 x5_1).toList = t257.toList then (laws_heldStringS.l0 k1 l0 (wrap64 (x1_1 + 1)) (wrap64 (x5_1 + 1))) else (some (-1))) = some r := H
          have A5 := Aside0.mk A50
          clear A50
          by_cases c6 : (rdOf ByteArray.empty l0 x5_1).toList = t257.toList
          · rw [if_pos c6] at H
            have c6b0 : ((rdOf ByteArray.empty l0 x5_1).toList == t257.toList) = true := beq_iff_eq.mpr c6
            have c6b1 : ((rdOf ByteArray.empty l0 x5_1).toList != t257.toList) = false := bne_eq_false_iff_eq.mpr c6
            clear c6
            have H' := Aside0.mk H
            clear H
            try go_wp2
            have n0_ := Aside0.mk (below_drew1 HB.out)
            clear HB
            have HB := n0_
            clear n0_
            have p256 : 0 ≤ (x5_1 : Int) := of_decide_eq_true (by first | (with_reducible assumption) | assumption)
            have q256 : x5_1 < (l0.length : Int) := of_decide_eq_true (by first | (with_reducible assumption) | assumption)
            obtain ⟨ad256, e256, hx256_0⟩ := Kd.at_string HR0.out x5_1 p256 q256
            have hw256_0 := hx256_0
            cases e256
            try replace hx256_0 := (HB.out.cell (World.block_lt_of_cell? w _ hx256_0)).trans hx256_0
            replace p256 := eq_true p256
            replace q256 := eq_true q256
            refine start_ (n := 7) (S := fun w' => w'.cell? (ad256.add (x5_1).toNat) = some (.string (rdOf ByteArray.empty l0 x5_1))) (ds := []) #[false, false, false, false, false, false, false] (by kernel_rfl) rfl rfl (((HB.out.cell (World.block_lt_of_cell? w _ hw256_0)).trans hw256_0)) (fun hHeld => ?_)
            generalize wr.drew = w7 at HB hx256_0 hHeld ⊢
            refine pure_ (i := 0) (N := some 12) (v := ?_) (a' := ?_) #[true, false, false, false, false, false, false] rfl rfl (by kernel_rfl) (fun _ _ _ h => h) (Or.inl ⟨by rfl, ?_⟩) ?_ ?_
            rotate_left
            · intro w'
              go_simp
              with_reducible rfl
            rotate_left
            · simp only [Act.put, List.setIfInBounds_toArray, List.set_cons_zero, List.set_cons_succ, i64_w, i32_w]
              rfl
            refine pure_ (i := 1) (N := some 13) (v := ?_) (a' := ?_) #[true, true, false, false, false, false, false] rfl rfl (by kernel_rfl) (fun _ _ _ h => h) (Or.inl ⟨by rfl, ?_⟩) ?_ ?_
            rotate_left
            · intro w'
              go_simp
              with_reducible rfl
            rotate_left
            · simp only [Act.put, List.setIfInBounds_toArray, List.set_cons_zero, List.set_cons_succ, i64_w, i32_w]
              rfl
            refine pure_ (i := 2) (N := some 14) (v := ?_) (a' := ?_) #[true, true, true, false, false, false, false] rfl rfl (by kernel_rfl) (fun _ _ _ h => h) (Or.inl ⟨by rfl, ?_⟩) ?_ ?_
            rotate_left
            · intro w'
              go_simp
              with_reducible rfl
            rotate_left
            · simp only [Act.put, List.setIfInBounds_toArray, List.set_cons_zero, List.set_cons_succ, i64_w, i32_w]
              rfl
            refine pure_ (i := 4) (N := some 16) (v := ?_) (a' := ?_) #[true, true, true, false, true, false, false] rfl rfl (by kernel_rfl) (fun _ _ _ h => h) (Or.inl ⟨by rfl, ?_⟩) ?_ ?_
            rotate_left
            · intro w'
              go_simp
              with_reducible rfl
            rotate_left
            · simp only [Act.put, List.setIfInBounds_toArray, List.set_cons_zero, List.set_cons_succ, i64_w, i32_w]
              rfl
            refine take_ (i := 3) (N := some 15) (v := ?_) (a' := ?_) #[true, true, true, true, true, false, false] rfl rfl (by kernel_rfl) (fun _ _ _ h => h) (Or.inl ⟨by rfl, ?_⟩) hHeld ?_ ?_
            rotate_left
            · intro w' s0
              go_simp
              with_reducible rfl
            rotate_left
            · simp only [Act.put, List.setIfInBounds_toArray, List.set_cons_zero, List.set_cons_succ, i64_w, i32_w]
              rfl
            refine one_ (i := 5) (N := some 17) #[true, true, true, true, true, true, false] rfl rfl (by kernel_rfl) (by decide) (fun K hK => ?_)
            refine goes_ Try.func84 (by kernel_rfl) rfl #[.int .i64 x1_1] (by rfl) rfl rfl (by (try simp only [List.map_toArray, List.map_cons, List.map_nil]); first | done | rfl | (simp only [List.length_drop, List.length_take]; rfl)) ?_
            with_reducible refine (laws_markText.calls k1 x1_1 t257 _ A5.out).mono ?_
            rintro e w8 ⟨rfl, hb⟩
            refine ⟨_, rfl, ?_⟩
            have n0_ := Aside0.mk (below_step (by repeat (first | (with_reducible first | exact HB.out | apply below_alloc | apply pw_below_drewN | apply below_drew1) | exact HB.out)) hb)
            clear HB
            have HB := n0_
            clear n0_
            (try clear hb)
            (try clear hb2)
            (try clear hk)
            (try clear hi)
            refine hK.out _ _ (((HB.out.cell (World.block_lt_of_cell? w _ hw256_0)).trans hw256_0)) (fun hHeld => ?_)
            clear hK K
            refine norm_ (a' := ?_) ?_ ?_
            rotate_left
            · show Act.put _ (some 17) _ = _
              simp only [Act.put, List.setIfInBounds_toArray, List.set_cons_zero, List.set_cons_succ, i64_w, i32_w]
              rfl
            refine pure_ (i := 6) (N := some 18) (v := ?_) (a' := ?_) #[true, true, true, true, true, true, true] rfl rfl (by kernel_rfl) (fun _ _ _ h => h) (Or.inl ⟨by rfl, ?_⟩) ?_ ?_
            rotate_left
            · intro w'
              go_simp
              with_reducible rfl
            rotate_left
            · simp only [Act.put, List.setIfInBounds_toArray, List.set_cons_zero, List.set_cons_succ, i64_w, i32_w]
              rfl
            refine done_ (by kernel_rfl) ?_
            try go_wp2
            go_roundg k1
            case measure => have := HK1.out; omega
            case rel => exact ⟨(wrap64 (x1_1 + 1)), (wrap64 (x5_1 + 1)), (by first | rfl | (simp; done) | (simp [*]; done) | (simp; exact nil_isE _) | (simp; exact (nil_isE _).symm)), (by first | rfl | (simp; done) | (simp [*]; done) | (simp; exact nil_isE _) | (simp; exact (nil_isE _).symm)), H', ⟨by have := HK1.out; omega⟩, ⟨by repeat (first | (with_reducible first | exact HB.out | apply below_alloc | apply pw_below_drewN | apply below_drew1) | exact HB.out)⟩⟩
          · rw [if_neg c6] at H
            have c6b0 : ((rdOf ByteArray.empty l0 x5_1).toList == t257.toList) = false := beq_eq_false_iff_ne.mpr c6
            have c6b1 : ((rdOf ByteArray.empty l0 x5_1).toList != t257.toList) = true := bne_iff_ne.mpr c6
            obtain rfl := Option.some.inj H
            try go_wp2
            have n0_ := Aside0.mk (below_drew1 HB.out)
            clear HB
            have HB := n0_
            clear n0_
            have p256 : 0 ≤ (x5_1 : Int) := of_decide_eq_true (by first | (with_reducible assumption) | assumption)
            have q256 : x5_1 < (l0.length : Int) := of_decide_eq_true (by first | (with_reducible assumption) | assumption)
            obtain ⟨ad256, e256, hx256_0⟩ := Kd.at_string HR0.out x5_1 p256 q256
            have hw256_0 := hx256_0
            cases e256
            try replace hx256_0 := (HB.out.cell (World.block_lt_of_cell? w _ hx256_0)).trans hx256_0
            replace p256 := eq_true p256
            replace q256 := eq_true q256
            refine start_ (n := 7) (S := fun w' => w'.cell? (ad256.add (x5_1).toNat) = some (.string (rdOf ByteArray.empty l0 x5_1))) (ds := []) #[false, false, false, false, false, false, false] (by kernel_rfl) rfl rfl (((HB.out.cell (World.block_lt_of_cell? w _ hw256_0)).trans hw256_0)) (fun hHeld => ?_)
            generalize wr.drew = w9 at HB hx256_0 hHeld ⊢
            refine pure_ (i := 0) (N := some 12) (v := ?_) (a' := ?_) #[true, false, false, false, false, false, false] rfl rfl (by kernel_rfl) (fun _ _ _ h => h) (Or.inl ⟨by rfl, ?_⟩) ?_ ?_
            rotate_left
            · intro w'
              go_simp
              with_reducible rfl
            rotate_left
            · simp only [Act.put, List.setIfInBounds_toArray, List.set_cons_zero, List.set_cons_succ, i64_w, i32_w]
              rfl
            refine pure_ (i := 1) (N := some 13) (v := ?_) (a' := ?_) #[true, true, false, false, false, false, false] rfl rfl (by kernel_rfl) (fun _ _ _ h => h) (Or.inl ⟨by rfl, ?_⟩) ?_ ?_
            rotate_left
            · intro w'
              go_simp
              with_reducible rfl
            rotate_left
            · simp only [Act.put, List.setIfInBounds_toArray, List.set_cons_zero, List.set_cons_succ, i64_w, i32_w]
              rfl
            refine pure_ (i := 2) (N := some 14) (v := ?_) (a' := ?_) #[true, true, true, false, false, false, false] rfl rfl (by kernel_rfl) (fun _ _ _ h => h) (Or.inl ⟨by rfl, ?_⟩) ?_ ?_
            rotate_left
            · intro w'
              go_simp
              with_reducible rfl
            rotate_left
            · simp only [Act.put, List.setIfInBounds_toArray, List.set_cons_zero, List.set_cons_succ, i64_w, i32_w]
              rfl
            refine pure_ (i := 4) (N := some 16) (v := ?_) (a' := ?_) #[true, true, true, false, true, false, false] rfl rfl (by kernel_rfl) (fun _ _ _ h => h) (Or.inl ⟨by rfl, ?_⟩) ?_ ?_
            rotate_left
            · intro w'
              go_simp
              with_reducible rfl
            rotate_left
            · simp only [Act.put, List.setIfInBounds_toArray, List.set_cons_zero, List.set_cons_succ, i64_w, i32_w]
              rfl
            refine take_ (i := 3) (N := some 15) (v := ?_) (a' := ?_) #[true, true, true, true, true, false, false] rfl rfl (by kernel_rfl) (fun _ _ _ h => h) (Or.inl ⟨by rfl, ?_⟩) hHeld ?_ ?_
            rotate_left
            · intro w' s0
              go_simp
              with_reducible rfl
            rotate_left
            · simp only [Act.put, List.setIfInBounds_toArray, List.set_cons_zero, List.set_cons_succ, i64_w, i32_w]
              rfl
            refine one_ (i := 5) (N := some 17) #[true, true, true, true, true, true, false] rfl rfl (by kernel_rfl) (by decide) (fun K hK => ?_)
            refine goes_ Try.func84 (by kernel_rfl) rfl #[.int .i64 x1_1] (by rfl) rfl rfl (by (try simp only [List.map_toArray, List.map_cons, List.map_nil]); first | done | rfl | (simp only [List.length_drop, List.length_take]; rfl)) ?_
            with_reducible refine (laws_markText.calls k1 x1_1 t257 _ A5.out).mono ?_
            rintro e w10 ⟨rfl, hb⟩
            refine ⟨_, rfl, ?_⟩
            have n0_ := Aside0.mk (below_step (by repeat (first | (with_reducible first | exact HB.out | apply below_alloc | apply pw_below_drewN | apply below_drew1) | exact HB.out)) hb)
            clear HB
            have HB := n0_
            clear n0_
            (try clear hb)
            (try clear hb2)
            (try clear hk)
            (try clear hi)
            refine hK.out _ _ (((HB.out.cell (World.block_lt_of_cell? w _ hw256_0)).trans hw256_0)) (fun hHeld => ?_)
            clear hK K
            refine norm_ (a' := ?_) ?_ ?_
            rotate_left
            · show Act.put _ (some 17) _ = _
              simp only [Act.put, List.setIfInBounds_toArray, List.set_cons_zero, List.set_cons_succ, i64_w, i32_w]
              rfl
            refine pure_ (i := 6) (N := some 18) (v := ?_) (a' := ?_) #[true, true, true, true, true, true, true] rfl rfl (by kernel_rfl) (fun _ _ _ h => h) (Or.inl ⟨by rfl, ?_⟩) ?_ ?_
            rotate_left
            · intro w'
              go_simp
              with_reducible rfl
            rotate_left
            · simp only [Act.put, List.setIfInBounds_toArray, List.set_cons_zero, List.set_cons_succ, i64_w, i32_w]
              rfl
            refine done_ (by kernel_rfl) ?_
            try go_wp2
            go_ret
            exact ⟨by first | rfl | (simp [errW_none, errW_some] <;> rfl) | (simp [*, errW_none, errW_some] <;> rfl), by repeat (first | (with_reducible first | exact HB.out | apply below_alloc | apply pw_below_drewN | apply below_drew1) | exact HB.out)⟩
        · rw [if_neg c4] at H
          exact absurd H (by simp)
      · rw [if_neg c3] at H
        have c3b0 : decide (x5_1 < (l0.length : Int)) = false := decide_eq_false c3
        clear c3
        obtain rfl := Option.some.inj H
        go_wp2
        go_ret
        exact ⟨by first | rfl | (simp [errW_none, errW_some] <;> rfl) | (simp [*, errW_none, errW_some] <;> rfl), by repeat (first | (with_reducible first | exact HB.out | apply below_alloc | apply pw_below_drewN | apply below_drew1) | exact HB.out)⟩

end Go.Proofs.Ytpnblgbkjbpeoaa.P

/- Plain laws of the marks: what a list of texts holds behind markStringS, heldStringS finds. -/
namespace Go.Proofs.Ytpnblgbkjbpeoaa.Q
open Go.RowKit Go.Proofs.Ytpnblgbkjbpeoaa.P Go.Proofs.YtpnblgbkjbpeoaaW.PrintWords Go.Proofs.YtpnblgbkjbpeoaaW.PrintLast Go.Proofs.YtpnblgbkjbpeoaaW.PrintMore
set_option linter.unusedVariables false

theorem strOfNums_one (x : Int) : (strOfNums [x]).size = 1 := by simp [strOfNums, ByteArray.size]
theorem mt_loop (n : Nat) : ∀ (a : Int) (s : ByteArray), 0 ≤ a → a.toNat = n → (s.size : Int) + a ≤ 4503599627370496 → ∃ b, Ev (fun k => laws_markText.l0 k a s) b := by
  induction n using Nat.strongRecOn with
  | _ n ih =>
    intro a s h0 hn hb
    by_cases hp : a > 0
    · have hd : Int.tdiv a 10 = a / 10 := Int.tdiv_eq_ediv_of_nonneg h0
      have hw : wrap64 (Int.tdiv a 10) = a / 10 := by rw [hd]; unfold wrap64; omega
      have hsz : ∀ x : Int, ((strOfNums [x] ++ s).size : Int) = 1 + (s.size : Int) := fun x => by rw [ByteArray.size_append, strOfNums_one]; omega
      obtain ⟨b, hb⟩ := ih (a / 10).toNat (by omega) (a / 10) (strOfNums [(wrap64 (48 + (Int.tmod a 10))) % 256] ++ s) (by omega) rfl (by rw [hsz]; omega)
      refine ⟨b, Ev.step (f := fun k => laws_markText.l0 k (a / 10) (strOfNums [(wrap64 (48 + (Int.tmod a 10))) % 256] ++ s)) (fun k => ?_) hb⟩
      simp only [laws_markText.l0]
      rw [if_pos hp]
      simp only [Option.bind_some]
      rw [if_pos (by rw [strOfNums_one]; omega), hw]
    · refine ⟨(⟨#[109]⟩ : ByteArray) ++ s, Ev.step (f := fun _ => some ((⟨#[109]⟩ : ByteArray) ++ s)) (fun k => ?_) (Ev.now _)⟩
      simp only [laws_markText.l0]
      rw [if_neg hp, if_pos (by omega)]
theorem mt_ex (a : Int) (h : a ≤ 4503599627370496) : ∃ b, Ev (fun k => laws_markText.f k a) b := by
  by_cases hp : a ≤ 0
  · exact ⟨_, Ev.congr (fun k => by unfold laws_markText.f; rw [if_pos hp]) (Ev.now (⟨#[109, 48]⟩ : ByteArray))⟩
  · obtain ⟨b, hb⟩ := mt_loop a.toNat a (⟨#[]⟩ : ByteArray) (by omega) rfl (by have : (⟨#[]⟩ : ByteArray).size = 0 := rfl; omega)
    exact ⟨b, Ev.congr (fun k => by unfold laws_markText.f; rw [if_neg hp]) hb⟩
/-- The text of a mark. -/
noncomputable def mt (a : Int) : ByteArray := @dite _ (∃ b, Ev (fun k => laws_markText.f k a) b) (Classical.propDecidable _) (fun h => h.choose) (fun _ => ByteArray.empty)
theorem mt_ev (a : Int) (h : a ≤ 4503599627370496) : Ev (fun k => laws_markText.f k a) (mt a) := by
  unfold mt
  rw [dif_pos (mt_ex a h)]
  exact (mt_ex a h).choose_spec
/-- The marks from a on. -/
noncomputable def marks (a : Int) : Nat → List ByteArray
  | 0 => []
  | n + 1 => mt a :: marks (a + 1) n
theorem marks_length (n : Nat) : ∀ a, (marks a n).length = n := by
  induction n with
  | zero => intro a; rfl
  | succ n ih => intro a; simp [marks, ih]
theorem wadd1 {a : Int} (h0 : -9223372036854775808 ≤ a) (h : a ≤ 9223372036854775806) : wrap64 (a + 1) = a + 1 := by unfold wrap64; omega
theorem markS_loop (n : Nat) : ∀ (i : Nat) (x : List ByteArray) (a : Int), x.length ≤ 140737488351232 → x.length - i = n → i ≤ x.length → 0 ≤ a → a + (n : Int) ≤ 4503599627370496 →
    Ev (fun k => laws_markStringS.l0 k x a (i : Int)) (a + (n : Int), x.take i ++ marks a n) := by
  induction n with
  | zero =>
    intro i x a hx hn hi h0 h1
    refine Ev.step (f := fun _ => some (a, x)) (fun k => ?_) ?_
    · simp only [laws_markStringS.l0]; rw [if_neg (by omega)]
    · rw [List.take_of_length_le (by omega)]
      simp only [marks, List.append_nil]
      have e : a + ((0 : Nat) : Int) = a := by omega
      rw [e]; exact Ev.now _
  | succ n ih =>
    intro i x a hx hn hi h0 h1
    have hlt : i < x.length := by omega
    have ih2 := ih (i + 1) (x.set i (mt a)) (a + 1) (by simpa using hx) (by simp; omega) (by simp; omega) (by omega) (by omega)
    have e : ((a + 1) + (n : Int), (x.set i (mt a)).take (i + 1) ++ marks (a + 1) n) = (a + ((n + 1 : Nat) : Int), x.take i ++ marks a (n + 1)) := by
      have e1 : (a + 1) + (n : Int) = a + ((n + 1 : Nat) : Int) := by omega
      rw [e1, List.take_add_one, List.take_set_of_le (by omega), List.getElem?_set_self (by omega)]
      simp [marks]
    rw [e] at ih2
    refine Ev.step (f := fun k => (laws_markText.f k a).bind fun t => if 0 ≤ (i : Int) then laws_markStringS.l0 k (x.set ((i : Int)).toNat t) (wrap64 (a + 1)) (wrap64 ((i : Int) + 1)) else none) (fun k => ?_) (Ev.bind (mt_ev a (by omega)) (Ev.congr (fun k => ?_) ih2))
    · simp only [laws_markStringS.l0]; rw [if_pos (by omega)]
    · rw [if_pos (by omega), wsucc hlt hx, wadd1 (by omega) (by omega), Int.toNat_natCast]
theorem markS_ev (x : List ByteArray) (a : Int) (hx : x.length ≤ 140737488351232) (h0 : 0 ≤ a) (h1 : a + (x.length : Int) ≤ 4503599627370496) : Ev (fun k => laws_markStringS.f k x a) (a + (x.length : Int), marks a x.length) := by
  have := markS_loop x.length 0 x a hx (by omega) (by omega) h0 h1
  simp only [List.take_zero, List.nil_append] at this
  exact Ev.congr (fun k => by unfold laws_markStringS.f; rfl) this
theorem heldS_loop (x : List ByteArray) (hx : x.length ≤ 140737488351232) (n : Nat) : ∀ (i : Nat) (a : Int), x.length - i = n → i ≤ x.length → 0 ≤ a → a + (n : Int) ≤ 4503599627370496 → x.drop i = marks a n →
    Ev (fun k => laws_heldStringS.l0 k x a (i : Int)) (a + (n : Int)) := by
  induction n with
  | zero =>
    intro i a hn hi h0 h1 hd
    have e : a + ((0 : Nat) : Int) = a := by omega
    rw [e]
    refine Ev.step (f := fun _ => some a) (fun k => ?_) (Ev.now _)
    simp only [laws_heldStringS.l0]; rw [if_neg (by omega)]
  | succ n ih =>
    intro i a hn hi h0 h1 hd
    have hlt : i < x.length := by omega
    rw [rd_drop ByteArray.empty x i hlt] at hd
    simp only [marks, List.cons.injEq] at hd
    have ih2 := ih (i + 1) (a + 1) (by omega) (by omega) (by omega) (by omega) hd.2
    have e1 : (a + 1) + (n : Int) = a + ((n + 1 : Nat) : Int) := by omega
    rw [e1] at ih2
    refine Ev.step (f := fun k => (laws_markText.f k a).bind fun t => if (rdOf ByteArray.empty x (i : Int)).toList = t.toList then laws_heldStringS.l0 k x (wrap64 (a + 1)) (wrap64 ((i : Int) + 1)) else some (-1)) (fun k => ?_) (Ev.bind (mt_ev a (by omega)) (Ev.congr (fun k => ?_) ih2))
    · simp only [laws_heldStringS.l0]; rw [if_pos (by omega), if_pos (by omega)]
    · rw [if_pos (by rw [hd.1]), wsucc hlt hx, wadd1 (by omega) (by omega)]
theorem heldS_ev (n : Nat) (a : Int) (hn : n ≤ 140737488351232) (h0 : 0 ≤ a) (h1 : a + (n : Int) ≤ 4503599627370496) : Ev (fun k => laws_heldStringS.f k (marks a n) a) (a + (n : Int)) := by
  have := heldS_loop (marks a n) (by rw [marks_length]; exact hn) n 0 a (by rw [marks_length]; omega) (by omega) h0 h1 rfl
  exact Ev.congr (fun k => by unfold laws_heldStringS.f; rfl) this
end Go.Proofs.Ytpnblgbkjbpeoaa.Q

namespace Go.Proofs.Ytpnblgbkjbpeoaa.P
open Go.RowKit Go.Proofs.YtpnblgbkjbpeoaaW.PrintWords Go.Proofs.YtpnblgbkjbpeoaaW.PrintLast Go.Proofs.YtpnblgbkjbpeoaaW.PrintMore
attribute [local go_sem] max2_int min2_int max_two min_two max_three min_three max_four min_four   -- for this text's walks alone
set_option linter.unusedVariables false
set_option linter.unusedSimpArgs false

/-! ### laws_markThing: function 29 -/
def laws_markThing.f (k : Nat) (a0_0 : ByteArray) (l0_1 : List ByteArray) (a1 : Int) : Option (Int × List ByteArray) := (laws_markStringS.f k l0_1 a1).bind fun bt254 => (some (bt254.1, bt254.2))
theorem laws_markThing.mono : ∀ a0 a1 a2 k, LeO (laws_markThing.f k a0 a1 a2) (laws_markThing.f (k + 1) a0 a1 a2) := by
  intro a0 a1 a2 k
  unfold laws_markThing.f
  repeat' first
      | (with_reducible exact laws_markStringS.mono _ _ _)
      | (with_reducible exact LeO.refl _)
      | (with_reducible exact LeO.none _)
      | (with_reducible refine LeO.ite ?_ ?_)
      | (with_reducible refine LeO.bind ?_ (fun _ => ?_))
      | exact laws_markStringS.mono _ _ _
      | exact LeO.none _
      | refine LeO.ite ?_ ?_
      | refine LeO.bind ?_ (fun _ => ?_)
set_option maxHeartbeats 8000000 in
set_option maxRecDepth 100000 in
theorem laws_markThing.calls (k : Nat) (a0_0 : ByteArray) (P0_1_ : Nat → Prop) (u9000_ : Value) (l0_1 : List ByteArray) (a1 : Int) (r1 : Int) (r2 : List ByteArray) (w0 w : World) (hB : Below w0.heap.size w0 w) (ho0_1 : Kd.R Kd.string 9 w w0.heap.size P0_1_ u9000_ l0_1) (h : laws_markThing.f k a0_0 l0_1 a1 = some (r1, r2)) :
    Calls Try.prog 29 #[.agg #[.string a0_0, u9000_], .int .i64 a1] w fun e w' => e = .returned (.int .i64 r1) ∧ Kd.R Kd.string 9 w' w0.heap.size (fun k_ => (P0_1_ k_ ∨ w.heap.size ≤ k_)) u9000_ r2 ∧ Below w0.heap.size w0 w' ∧ Kept w w' (fun k_ => P0_1_ k_) := by
  have hu38 := Try.underlying38
  have HO0_1 := Aside0.mk (show Kd.R Kd.string 9 w w0.heap.size (fun k_ => (P0_1_ k_ ∨ w.heap.size ≤ k_)) u9000_ l0_1 from Kd.R_mono ho0_1 (fun k_ hk => (.inl hk)))
  have HK := Aside0.mk (Kept.refl w (fun k_ => P0_1_ k_))
  have HW0 := Aside0.mk hB.size
  have HB := Aside0.mk hB
  clear hB
  have H : ((laws_markStringS.f k l0_1 a1).bind fun bt254 => (some (bt254.1, bt254.2))) = some (r1, r2) := h
  clear h
  replace H := Option.bind_eq_some_iff.mp H
  obtain ⟨⟨t254, t255⟩, A30, H⟩ := H
  replace H : (some (t254, t255)) = some (r1, r2) := H
  have A3 := Aside0.mk A30
  clear A30
  simp only [Option.some.injEq, Prod.mk.injEq] at H
  obtain ⟨rfl, rfl⟩ := H
  obtain ⟨Ao4, co4, eo4⟩ := Kd.R_slice HO0_1.out
  subst eo4
  go_enter Try.func29, Try.ntmps29
  go_wp2_with (first | ((with_reducible refine gate_dst (N := 2) rfl ?_); refine box_event ?hg (N := 2) ?hd (cs := #[.string a0_0, .slice Ao4 l0_1.length co4]) (t := 38) ?hr ?_; (case hd => rfl); (case hg => rfl); (case hr => first | (go_simp; done) | (go_simp; rfl)); intro gb253 hg w5 hbox hb; have n0_ := Aside0.mk (Kd.R_below (by (with_reducible repeat (first | apply Kd.R_alloc | apply Kd.R_drewN | apply Kd.R_drew)); exact HO0_1.out) hb); have n1_ := Aside0.mk (Kept.below (S := (fun k_ => P0_1_ k_)) (by repeat (first | (with_reducible first | exact HK.out | apply Kept.alloc | apply Kept.drewN | apply Kept.drew) | exact HK.out)) hb); have n2_ := Aside0.mk (below_step (by repeat (first | (with_reducible first | exact HB.out | apply below_alloc | apply pw_below_drewN | apply below_drew1) | exact HB.out)) hb); have n3_ := Aside0.mk (hbox); have n4_ := Aside0.mk ((by rw [hg]; exact (by first | exact HK.out.1 | exact (show Kept w _ (fun k_ => P0_1_ k_) from by repeat (first | (with_reducible first | exact HK.out | apply Kept.alloc | apply Kept.drewN | apply Kept.drew) | exact HK.out)).1) : w.heap.size ≤ gb253)); have n5_ := Aside0.mk ((by rw [hg]; exact (below_size (by repeat (first | (with_reducible first | exact HB.out | apply below_alloc | apply pw_below_drewN | apply below_drew1) | exact HB.out))) : w0.heap.size ≤ gb253)); clear HO0_1; clear HK; clear HB; have HO0_1 := n0_; have HK := n1_; have HB := n2_; have BK253 := n3_; have GW253 := n4_; have GE253 := n5_; clear n0_ n1_ n2_ n3_ n4_ n5_; clear hb hbox hg; have hcz6_0 : w5.cell? ⟨gb253, 0, none⟩ = some (.string a0_0) := (blk_cell BK253.out 0).trans rfl; have hcz6_1 : w5.cell? ⟨gb253, 1, none⟩ = some (.slice Ao4 l0_1.length co4) := (blk_cell BK253.out 1).trans rfl; have hfz6_0 := blk_frozen BK253.out 0; have hfz6_1 := blk_frozen BK253.out 1) | ((with_reducible refine gate_callee (f := 65) rfl ?_); refine goesL_ (some 8) rfl rfl Try.func65 (by kernel_rfl) rfl #[.slice Ao4 l0_1.length co4, .int .i64 a1] rfl (by (try simp only [List.map_toArray, List.map_cons, List.map_nil]); first | done | rfl | (simp only [List.length_drop, List.length_take]; rfl)) ?_; (with_reducible refine (laws_markStringS.calls k (fun k_ => some k_ = (.slice Ao4 l0_1.length co4 : Value).ownBlock) (.slice Ao4 l0_1.length co4) l0_1 a1 t254 t255 w0 _ ?side1 ?side2 A3.out).mono ?_); (case side1 => repeat (first | (with_reducible first | exact HB.out | apply below_alloc | apply pw_below_drewN | apply below_drew1 | refine below_set ?_ GE253.out) | exact HB.out)); (case side2 => exact Kd.R_tight rfl HO0_1.out); rintro e w7 ⟨rfl, hy0, hb, hkp⟩; refine ⟨_, rfl, ?_⟩; have n0_ := Aside0.mk (Kd.R_reok rfl hy0 (fun k_ e_ => HO0_1.out.1 k_ e_)); have n1_ := Aside0.mk (blk_kept (by (with_reducible repeat (first | refine blk_drewN ?_ _ | refine blk_drew ?_ | refine blk_alloc ?_ _)); exact BK253.out) hkp (fun hs_ => (fun e_ => (Kd.R_ne HO0_1.out BK253.out (by decide)) e_) hs_)); have n2_ := Aside0.mk (Kept.then_ (S := (fun k_ => P0_1_ k_)) (by repeat (first | (with_reducible first | exact HK.out | apply Kept.alloc | apply Kept.drewN | apply Kept.drew | refine Kept.setCell ?_ (.inr GW253.out) _) | exact HK.out)) hkp (fun k_ hs_ => (fun e_ => (HO0_1.out.1 k_ e_.symm)) hs_)); have n3_ := Aside0.mk (hb); clear HO0_1; clear BK253; clear HK; clear HB; have HO0_1 := n0_; have BK253 := n1_; have HK := n2_; have HB := n3_; clear n0_ n1_ n2_ n3_; (try clear hb); (try clear hkp); (try clear hy0)))
  go_ret
  exact ⟨by first | rfl | (simp [errW_none, errW_some] <;> rfl) | (simp [*, errW_none, errW_some] <;> rfl), by (with_reducible repeat (first | apply Kd.R_alloc | apply Kd.R_drewN | apply Kd.R_drew)); exact HO0_1.out, by repeat (first | (with_reducible first | exact HB.out | apply below_alloc | apply pw_below_drewN | apply below_drew1 | refine below_set ?_ GE253.out) | exact HB.out), by repeat (first | (with_reducible first | exact HK.out | apply Kept.alloc | apply Kept.drewN | apply Kept.drew | refine Kept.setCell ?_ (.inr GW253.out) _) | exact HK.out)⟩

end Go.Proofs.Ytpnblgbkjbpeoaa.P

namespace Go.Proofs.Ytpnblgbkjbpeoaa.P
open Go.RowKit Go.Proofs.YtpnblgbkjbpeoaaW.PrintWords Go.Proofs.YtpnblgbkjbpeoaaW.PrintLast Go.Proofs.YtpnblgbkjbpeoaaW.PrintMore
attribute [local go_sem] max2_int min2_int max_two min_two max_three min_three max_four min_four   -- for this text's walks alone
set_option linter.unusedVariables false
set_option linter.unusedSimpArgs false

/-! ### laws_heldThing: function 30 -/
def laws_heldThing.f (k : Nat) (a0_0 : ByteArray) (l0_1 : List ByteArray) (a1 : Int) : Option (Int) := (laws_heldStringS.f k l0_1 a1).bind fun t259 => (if t259 < 0 then (some (-1)) else (some t259))
theorem laws_heldThing.mono : ∀ a0 a1 a2 k, LeO (laws_heldThing.f k a0 a1 a2) (laws_heldThing.f (k + 1) a0 a1 a2) := by
  intro a0 a1 a2 k
  unfold laws_heldThing.f
  repeat' first
      | (with_reducible exact laws_heldStringS.mono _ _ _)
      | (with_reducible exact LeO.refl _)
      | (with_reducible exact LeO.none _)
      | (with_reducible refine LeO.ite ?_ ?_)
      | (with_reducible refine LeO.bind ?_ (fun _ => ?_))
      | exact laws_heldStringS.mono _ _ _
      | exact LeO.none _
      | refine LeO.ite ?_ ?_
      | refine LeO.bind ?_ (fun _ => ?_)
set_option maxHeartbeats 8000000 in
set_option maxRecDepth 100000 in
theorem laws_heldThing.calls (k : Nat) (a0_0 : ByteArray) (A0_1 : Option Addr) (c0_1 : Nat) (l0_1 : List ByteArray) (a1 : Int) (r : Int) (w : World) (hr0_1 : Kd.C Kd.string w A0_1 l0_1.length l0_1) (hc0_1 : l0_1.length ≤ c0_1) (h : laws_heldThing.f k a0_0 l0_1 a1 = some r) :
    Calls Try.prog 30 #[.agg #[.string a0_0, .slice A0_1 l0_1.length c0_1], .int .i64 a1] w fun e w' => e = .returned (.int .i64 r) ∧ Below w.heap.size w w' := by
  have hu38 := Try.underlying38
  have HR0_1 := Aside0.mk hr0_1
  have HC0_1 := Aside0.mk hc0_1
  clear hr0_1 hc0_1
  have HB := Aside0.mk (Below.refl w.heap.size w)
  have H : ((laws_heldStringS.f k l0_1 a1).bind fun t259 => (if t259 < 0 then (some (-1)) else (some t259))) = some r := h
  clear h
  replace H := Option.bind_eq_some_iff.mp H
  obtain ⟨t259, A30, H⟩ := H
  replace H : (if t259 < 0 then (some (-1)) else (some t259)) = some r := H
  have A3 := Aside0.mk A30
  clear A30
  by_cases c4 : t259 < 0
  · rw [if_pos c4] at H
    have c4b0 : decide (t259 < 0) = true := decide_eq_true c4
    clear c4
    obtain rfl := Option.some.inj H
    go_enter Try.func30, Try.ntmps30
    go_wp2_with (first | ((with_reducible refine gate_dst (N := 2) rfl ?_); refine box_event ?hg (N := 2) ?hd (cs := #[.string a0_0, .slice A0_1 l0_1.length c0_1]) (t := 38) ?hr ?_; (case hd => rfl); (case hg => rfl); (case hr => first | (go_simp; done) | (go_simp; rfl)); intro gb258 hg w5 hbox hb; have n0_ := Aside0.mk (below_step (by repeat (first | (with_reducible first | exact HB.out | apply below_alloc | apply pw_below_drewN | apply below_drew1) | exact HB.out)) hb); have n1_ := Aside0.mk (hbox); have n2_ := Aside0.mk ((by rw [hg]; exact (below_size (by repeat (first | (with_reducible first | exact HB.out | apply below_alloc | apply pw_below_drewN | apply below_drew1) | exact HB.out))) : w.heap.size ≤ gb258)); have n3_ := Aside0.mk ((by rw [hg]; exact (below_size (by repeat (first | (with_reducible first | exact HB.out | apply below_alloc | apply pw_below_drewN | apply below_drew1) | exact HB.out))) : w.heap.size ≤ gb258)); clear HB; have HB := n0_; have BK258 := n1_; have GW258 := n2_; have GE258 := n3_; clear n0_ n1_ n2_ n3_; clear hb hbox hg; have hcz6_0 : w5.cell? ⟨gb258, 0, none⟩ = some (.string a0_0) := (blk_cell BK258.out 0).trans rfl; have hcz6_1 : w5.cell? ⟨gb258, 1, none⟩ = some (.slice A0_1 l0_1.length c0_1) := (blk_cell BK258.out 1).trans rfl; have hfz6_0 := blk_frozen BK258.out 0; have hfz6_1 := blk_frozen BK258.out 1) | ((with_reducible refine gate_callee (f := 66) rfl ?_); refine goesL_ (some 8) rfl rfl Try.func66 (by kernel_rfl) rfl #[.slice A0_1 l0_1.length c0_1, .int .i64 a1] rfl (by (try simp only [List.map_toArray, List.map_cons, List.map_nil]); first | done | rfl | (simp only [List.length_drop, List.length_take]; rfl)) ?_; (with_reducible refine (laws_heldStringS.calls k _ _ l0_1 a1 t259 _ ?side1 ?side2 A3.out).mono ?_); (case side1 => repeat (first | exact (Kd.C_below HR0_1.out HB.out) | (with_reducible refine Kd.C_alloc ?_ _) | (with_reducible refine Kd.C_drewN ?_ _) | (with_reducible refine Kd.C_drew ?_))); (case side2 => exact HC0_1.out); rintro e w7 ⟨rfl, hb⟩; refine ⟨_, rfl, ?_⟩; have n0_ := Aside0.mk (blk_below (g := gb258) (o := .cells #[.string a0_0, .slice A0_1 l0_1.length c0_1] 38 (0, 0)) (by (with_reducible repeat (first | refine blk_drewN ?_ _ | refine blk_drew ?_ | refine blk_alloc ?_ _)); exact BK258.out) hb); have n1_ := Aside0.mk (below_step (by repeat (first | (with_reducible first | exact HB.out | apply below_alloc | apply pw_below_drewN | apply below_drew1 | refine below_set ?_ GE258.out) | exact HB.out)) hb); clear BK258; clear HB; have BK258 := n0_; have HB := n1_; clear n0_ n1_; (try clear hb); (try clear hb2); (try clear hk); (try clear hi)))
    go_ret
    exact ⟨by first | rfl | (simp [errW_none, errW_some] <;> rfl) | (simp [*, errW_none, errW_some] <;> rfl), by repeat (first | (with_reducible first | exact HB.out | apply below_alloc | apply pw_below_drewN | apply below_drew1 | refine below_set ?_ GE258.out) | exact HB.out)⟩
  · rw [if_neg c4] at H
    have c4b0 : decide (t259 < 0) = false := decide_eq_false c4
    clear c4
    obtain rfl := Option.some.inj H
    go_enter Try.func30, Try.ntmps30
    go_wp2_with (first | ((with_reducible refine gate_dst (N := 2) rfl ?_); refine box_event ?hg (N := 2) ?hd (cs := #[.string a0_0, .slice A0_1 l0_1.length c0_1]) (t := 38) ?hr ?_; (case hd => rfl); (case hg => rfl); (case hr => first | (go_simp; done) | (go_simp; rfl)); intro gb258 hg w8 hbox hb; have n0_ := Aside0.mk (below_step (by repeat (first | (with_reducible first | exact HB.out | apply below_alloc | apply pw_below_drewN | apply below_drew1) | exact HB.out)) hb); have n1_ := Aside0.mk (hbox); have n2_ := Aside0.mk ((by rw [hg]; exact (below_size (by repeat (first | (with_reducible first | exact HB.out | apply below_alloc | apply pw_below_drewN | apply below_drew1) | exact HB.out))) : w.heap.size ≤ gb258)); have n3_ := Aside0.mk ((by rw [hg]; exact (below_size (by repeat (first | (with_reducible first | exact HB.out | apply below_alloc | apply pw_below_drewN | apply below_drew1) | exact HB.out))) : w.heap.size ≤ gb258)); clear HB; have HB := n0_; have BK258 := n1_; have GW258 := n2_; have GE258 := n3_; clear n0_ n1_ n2_ n3_; clear hb hbox hg; have hcz9_0 : w8.cell? ⟨gb258, 0, none⟩ = some (.string a0_0) := (blk_cell BK258.out 0).trans rfl; have hcz9_1 : w8.cell? ⟨gb258, 1, none⟩ = some (.slice A0_1 l0_1.length c0_1) := (blk_cell BK258.out 1).trans rfl; have hfz9_0 := blk_frozen BK258.out 0; have hfz9_1 := blk_frozen BK258.out 1) | ((with_reducible refine gate_callee (f := 66) rfl ?_); refine goesL_ (some 8) rfl rfl Try.func66 (by kernel_rfl) rfl #[.slice A0_1 l0_1.length c0_1, .int .i64 a1] rfl (by (try simp only [List.map_toArray, List.map_cons, List.map_nil]); first | done | rfl | (simp only [List.length_drop, List.length_take]; rfl)) ?_; (with_reducible refine (laws_heldStringS.calls k _ _ l0_1 a1 t259 _ ?side1 ?side2 A3.out).mono ?_); (case side1 => repeat (first | exact (Kd.C_below HR0_1.out HB.out) | (with_reducible refine Kd.C_alloc ?_ _) | (with_reducible refine Kd.C_drewN ?_ _) | (with_reducible refine Kd.C_drew ?_))); (case side2 => exact HC0_1.out); rintro e w10 ⟨rfl, hb⟩; refine ⟨_, rfl, ?_⟩; have n0_ := Aside0.mk (blk_below (g := gb258) (o := .cells #[.string a0_0, .slice A0_1 l0_1.length c0_1] 38 (0, 0)) (by (with_reducible repeat (first | refine blk_drewN ?_ _ | refine blk_drew ?_ | refine blk_alloc ?_ _)); exact BK258.out) hb); have n1_ := Aside0.mk (below_step (by repeat (first | (with_reducible first | exact HB.out | apply below_alloc | apply pw_below_drewN | apply below_drew1 | refine below_set ?_ GE258.out) | exact HB.out)) hb); clear BK258; clear HB; have BK258 := n0_; have HB := n1_; clear n0_ n1_; (try clear hb); (try clear hb2); (try clear hk); (try clear hi)))
    go_ret
    exact ⟨by first | rfl | (simp [errW_none, errW_some] <;> rfl) | (simp [*, errW_none, errW_some] <;> rfl), by repeat (first | (with_reducible first | exact HB.out | apply below_alloc | apply pw_below_drewN | apply below_drew1 | refine below_set ?_ GE258.out) | exact HB.out)⟩

end Go.Proofs.Ytpnblgbkjbpeoaa.P

/- What the exact laws of things share. -/
namespace Go.Proofs.Ytpnblgbkjbpeoaa.Q
open Go.RowKit Go.Proofs.Ytpnblgbkjbpeoaa.P Go.Proofs.YtpnblgbkjbpeoaaW.PrintWords Go.Proofs.YtpnblgbkjbpeoaaW.PrintLast Go.Proofs.YtpnblgbkjbpeoaaW.PrintMore
set_option linter.unusedVariables false

theorem eqT_ev (t : ByteArray) (l : List ByteArray) (hl : l.length ≤ 140737488351232) : Ev (fun k => laws_eqThing.f k t l t l) true :=
  Ev.congr (fun k => by unfold laws_eqThing.f; rw [if_pos rfl]) (Ev.bind (eqS_ev l hl) (Ev.congr (fun k => if_pos rfl) (Ev.now _)))
theorem markT_ev (t : ByteArray) (x : List ByteArray) (hx : x.length ≤ 140737488351232) : Ev (fun k => laws_markThing.f k t x 1) (1 + (x.length : Int), marks 1 x.length) :=
  Ev.bind (markS_ev x 1 hx (by omega) (by omega)) (Ev.now _)
theorem heldT_ev (t : ByteArray) (n : Nat) (hn : n ≤ 140737488351232) : Ev (fun k => laws_heldThing.f k t (marks 1 n) 1) (1 + (n : Int)) :=
  Ev.bind (heldS_ev n 1 hn (by omega) (by omega)) (Ev.congr (fun k => if_neg (by omega)) (Ev.now _))
end Go.Proofs.Ytpnblgbkjbpeoaa.Q

/- The exact law of FormEntry comes to true. -/
namespace Go.Proofs.Ytpnblgbkjbpeoaa.Q
open Go.RowKit Go.Proofs.Ytpnblgbkjbpeoaa.P Go.Proofs.YtpnblgbkjbpeoaaW.PrintWords Go.Proofs.YtpnblgbkjbpeoaaW.PrintLast Go.Proofs.YtpnblgbkjbpeoaaW.PrintMore
set_option linter.unusedVariables false

theorem szT_ev (t : ByteArray) (l : List ByteArray) (a : Int) (h0 : 0 ≤ a) (h1 : a ≤ 1048576) (ht : t.size ≤ 140737488351232) (hl : l.length ≤ 140737488351232) (hs : ∀ x ∈ l, x.size ≤ 140737488351232) :
    ∃ r, Ev (fun k => laws_szThing.f k t l a) r ∧ (r < 0 ∨ l.length ≤ 1048576) := by
  have hw : wrap64 (a - (t.size : Int)) = a - (t.size : Int) := by unfold wrap64; omega
  by_cases c : a - (t.size : Int) < 0
  · exact ⟨-1, Ev.congr (fun k => by unfold laws_szThing.f; rw [hw]) (Ev.pos c (Ev.now _)), .inl (by omega)⟩
  · have e1 := szS_ev l hl hs (a - (t.size : Int)) (by omega) (by omega)
    by_cases c2 : szS l (a - (t.size : Int)) < 0
    · exact ⟨-1, Ev.congr (fun k => by unfold laws_szThing.f; rw [hw]) (Ev.neg c (Ev.bind e1 (Ev.pos c2 (Ev.now _)))), .inl (by omega)⟩
    · have h2 := szS_le (l := l) (a := a - (t.size : Int)) (by omega)
      exact ⟨_, Ev.congr (fun k => by unfold laws_szThing.f; rw [hw]) (Ev.neg c (Ev.bind e1 (Ev.neg c2 (Ev.now _)))), .inr (by omega)⟩
theorem szEnt_ev (k : Int) (s n : ByteArray) (m : Int) (t : ByteArray) (l : List ByteArray) (hsz : s.size ≤ 140737488351232) (hn : n.size ≤ 140737488351232) (ht : t.size ≤ 140737488351232) (hl : l.length ≤ 140737488351232) (hs : ∀ x ∈ l, x.size ≤ 140737488351232) :
    ∃ r, Ev (fun f => laws_szEntry.f f k s n m t l 1048576) r ∧ (r < 0 ∨ l.length ≤ 1048576) := by
  have hw : wrap64 (1048576 - (s.size : Int)) = 1048576 - (s.size : Int) := by unfold wrap64; omega
  by_cases c : 1048576 - (s.size : Int) < 0
  · exact ⟨-1, Ev.congr (fun f => by unfold laws_szEntry.f; rw [hw]) (Ev.pos c (Ev.now _)), .inl (by omega)⟩
  · have hw2 : wrap64 (1048576 - (s.size : Int) - (n.size : Int)) = 1048576 - (s.size : Int) - (n.size : Int) := by unfold wrap64; omega
    by_cases c2 : 1048576 - (s.size : Int) - (n.size : Int) < 0
    · exact ⟨-1, Ev.congr (fun f => by unfold laws_szEntry.f; rw [hw, hw2]) (Ev.neg c (Ev.pos c2 (Ev.now _))), .inl (by omega)⟩
    · obtain ⟨r, hr, hc⟩ := szT_ev t l (1048576 - (s.size : Int) - (n.size : Int)) (by omega) (by omega) ht hl hs
      by_cases c3 : r < 0
      · exact ⟨-1, Ev.congr (fun f => by unfold laws_szEntry.f; rw [hw, hw2]) (Ev.neg c (Ev.neg c2 (Ev.bind hr (Ev.pos c3 (Ev.now _))))), .inl (by omega)⟩
      · exact ⟨r, Ev.congr (fun f => by unfold laws_szEntry.f; rw [hw, hw2]) (Ev.neg c (Ev.neg c2 (Ev.bind hr (Ev.neg c3 (Ev.now _))))), .inr (hc.resolve_left c3)⟩
theorem toEnt_ev (k : Int) (s n : ByteArray) (m : Int) (t : ByteArray) (l : List ByteArray) (hl : l.length ≤ 1048576) : Ev (fun f => laws_toEntry.f f k s n m t l) (k, s, n, m, t, l) :=
  Ev.bind (Ev.bind (toS_ev l (by omega)) (Ev.now (t, l))) (Ev.now _)
theorem eqEnt_ev (k : Int) (s n : ByteArray) (m : Int) (t : ByteArray) (l : List ByteArray) (hl : l.length ≤ 140737488351232) : Ev (fun f => laws_eqEntry.f f k s n m t l k s n m t l) true :=
  Ev.pos rfl (Ev.pos rfl (Ev.pos rfl (Ev.pos rfl (Ev.bind (eqT_ev t l hl) (Ev.pos rfl (Ev.now _))))))
theorem formEntry_all (k : Int) (s n : ByteArray) (m : Int) (t : ByteArray) (l : List ByteArray) (w : Int)
    (hz : ∀ q ∈ ([] : List Nat) ++ ([s.size] ++ ([n.size] ++ (([] : List Nat) ++ ([t.size] ++ (l.length * Try.prog.bytesOf 9 :: l.flatMap fun s : ByteArray => [s.size]))))), q ≤ 140737488351232) : Ev (fun f => laws_FnExactFormEntry.f f k s n m t l w) true := by
  have h := zS_le (P := Try.prog) (e := 9) (l := l) (of_decide_eq_true (by kernel_rfl)) fun q hq => hz q (by simp only [List.mem_append, List.nil_append]; exact .inr (.inr (.inr hq)))
  have h1 : s.size ≤ 140737488351232 := hz _ (by simp)
  have h2 : n.size ≤ 140737488351232 := hz _ (by simp)
  have h3 : t.size ≤ 140737488351232 := hz _ (by simp)
  clear hz
  obtain ⟨r, hr, hc⟩ := szEnt_ev k s n m t l h1 h2 h3 h.1 h.2
  refine Ev.bind hr (Ev.ite' (fun c => Ev.now _) (fun c => ?_))
  have hl := hc.resolve_left c
  have et := toEnt_ev k s n m t l hl
  exact Ev.bind et (Ev.bind (sFE_ev k s n m t l w h.1 h2) (Ev.bind et (Ev.bind (iFE_ev k s n m t l w h.1 h2) (Ev.pos rfl (Ev.bind et (Ev.bind (eqEnt_ev k s n m t l h.1) (Ev.pos rfl (Ev.now _))))))))
end Go.Proofs.Ytpnblgbkjbpeoaa.Q
