/- Part 5 of the proof of FnLogSaid: what it leans on. -/
import Derived.Test.YtpnblgbkjbpeoaaM1
import Derived.Test.YtpnblgbkjbpeoaaM2
import Derived.Test.YtpnblgbkjbpeoaaM3
import Derived.Test.YtpnblgbkjbpeoaaM4

namespace Go.Proofs.Ytpnblgbkjbpeoaa.P
open Go.RowKit Go.Proofs.YtpnblgbkjbpeoaaW.PrintWords Go.Proofs.YtpnblgbkjbpeoaaW.PrintLast Go.Proofs.YtpnblgbkjbpeoaaW.PrintMore
attribute [local go_sem] max2_int min2_int max_two min_two max_three min_three max_four min_four   -- for this text's walks alone
set_option linter.unusedVariables false
set_option linter.unusedSimpArgs false
/-! ### laws_toStringS: function 59 -/
end Go.Proofs.Ytpnblgbkjbpeoaa.P

namespace Go.Proofs.Ytpnblgbkjbpeoaa.P
open Go.RowKit Go.Proofs.YtpnblgbkjbpeoaaW.PrintWords Go.Proofs.YtpnblgbkjbpeoaaW.PrintLast Go.Proofs.YtpnblgbkjbpeoaaW.PrintMore
attribute [local go_sem] max2_int min2_int max_two min_two max_three min_three max_four min_four   -- for this text's walks alone
set_option linter.unusedVariables false
set_option linter.unusedSimpArgs false
/-! ### laws_eqStringS: function 61 -/
end Go.Proofs.Ytpnblgbkjbpeoaa.P

namespace Go.Proofs.Ytpnblgbkjbpeoaa.P
open Go.RowKit Go.Proofs.YtpnblgbkjbpeoaaW.PrintWords Go.Proofs.YtpnblgbkjbpeoaaW.PrintLast Go.Proofs.YtpnblgbkjbpeoaaW.PrintMore
attribute [local go_sem] max2_int min2_int max_two min_two max_three min_three max_four min_four   -- for this text's walks alone
set_option linter.unusedVariables false
set_option linter.unusedSimpArgs false
/-! ### laws_szStringS: function 58 -/
end Go.Proofs.Ytpnblgbkjbpeoaa.P

/- Plain laws of the helpers that the exact laws share: sizes, copies, equality, marks of lists of texts. No memory in sight. -/
namespace Go.Proofs.Ytpnblgbkjbpeoaa.Q
open Go.RowKit Go.Proofs.Ytpnblgbkjbpeoaa.P Go.Proofs.YtpnblgbkjbpeoaaW.PrintWords Go.Proofs.YtpnblgbkjbpeoaaW.PrintLast Go.Proofs.YtpnblgbkjbpeoaaW.PrintMore
set_option linter.unusedVariables false

theorem wsucc {i n : Nat} (h : i < n) (hn : n ≤ 140737488351232) : wrap64 ((i : Int) + 1) = ((i + 1 : Nat) : Int) := by
  unfold wrap64; omega
theorem rd_drop {α : Type} (d : α) (l : List α) (i : Nat) (h : i < l.length) : l.drop i = rdOf d l (i : Int) :: l.drop (i + 1) := by
  rw [List.drop_eq_getElem_cons h]; simp [rdOf, List.getD_eq_getElem?_getD, List.getElem?_eq_getElem h]

/-! ### toStringS: a copy -/

/-! ### eqStringS: a list equals itself -/

/-! ### szStringS: what is left of a bound -/
end Go.Proofs.Ytpnblgbkjbpeoaa.Q

namespace Go.Proofs.Ytpnblgbkjbpeoaa.P
open Go.RowKit Go.Proofs.YtpnblgbkjbpeoaaW.PrintWords Go.Proofs.YtpnblgbkjbpeoaaW.PrintLast Go.Proofs.YtpnblgbkjbpeoaaW.PrintMore
attribute [local go_sem] max2_int min2_int max_two min_two max_three min_three max_four min_four   -- for this text's walks alone
set_option linter.unusedVariables false
set_option linter.unusedSimpArgs false
/-! ### spec_Sync: function 31 -/
end Go.Proofs.Ytpnblgbkjbpeoaa.P

namespace Go.Proofs.Ytpnblgbkjbpeoaa.P
open Go.RowKit Go.Proofs.YtpnblgbkjbpeoaaW.PrintWords Go.Proofs.YtpnblgbkjbpeoaaW.PrintLast Go.Proofs.YtpnblgbkjbpeoaaW.PrintMore
attribute [local go_sem] max2_int min2_int max_two min_two max_three min_three max_four min_four   -- for this text's walks alone
set_option linter.unusedVariables false
set_option linter.unusedSimpArgs false
/-! ### spec_Crash: function 35 -/
end Go.Proofs.Ytpnblgbkjbpeoaa.P

/- Plain laws of logs: valid, Append, Sync, Crash of the program and of the reference come to one function each. -/
namespace Go.Proofs.Ytpnblgbkjbpeoaa.Q
open Go.RowKit Go.Proofs.Ytpnblgbkjbpeoaa.P Go.Proofs.YtpnblgbkjbpeoaaW.PrintWords Go.Proofs.YtpnblgbkjbpeoaaW.PrintLast Go.Proofs.YtpnblgbkjbpeoaaW.PrintMore
set_option linter.unusedVariables false

def fitB (s : ByteArray) : Bool := decide ((s.size : Int) ≤ 5000)
def logB (a b : List ByteArray) : Bool := if a.all fitB = true then (if b.all fitB = true then decide ((a.length : Int) + (b.length : Int) ≤ 4000) else false) else false
theorem all_drop (l : List ByteArray) (i : Nat) (h : i < l.length) : (l.drop i).all fitB = (fitB (rdOf ByteArray.empty l (i : Int)) && (l.drop (i + 1)).all fitB) := by
  rw [rd_drop ByteArray.empty l i h, List.all_cons]
theorem wlen {a b : List ByteArray} (ha : a.length ≤ 140737488351232) (hb : b.length ≤ 140737488351232) : wrap64 ((a.length : Int) + (b.length : Int)) = (a.length : Int) + (b.length : Int) := by unfold wrap64; omega
theorem sVL1 (a b : List ByteArray) (ha : a.length ≤ 140737488351232) (hb : b.length ≤ 140737488351232) (n : Nat) : ∀ (i : Nat), b.length - i = n → i ≤ b.length →
    Ev (fun k => spec_ValidLog.l1 k (i : Int) a b) (if (b.drop i).all fitB = true then decide ((a.length : Int) + (b.length : Int) ≤ 4000) else false) := by
  induction n with
  | zero =>
    intro i hn hi
    rw [List.drop_of_length_le (by omega)]
    refine Ev.step (f := fun _ => some (decide ((a.length : Int) + (b.length : Int) ≤ 4000))) (fun k => ?_) (Ev.now _)
    simp only [spec_ValidLog.l1]; rw [if_neg (by omega), wlen ha hb]
  | succ n ih =>
    intro i hn hi
    have hlt : i < b.length := by omega
    rw [all_drop b i hlt]
    by_cases c : fitB (rdOf ByteArray.empty b (i : Int)) = true
    · rw [c, Bool.true_and]
      refine Ev.step (fun k => ?_) (ih (i + 1) (by omega) (by omega))
      have c' := of_decide_eq_true c
      simp only [spec_ValidLog.l1]; rw [if_pos (by omega), if_pos (by omega), if_neg (by omega), wsucc hlt hb]
    · have c0 : fitB (rdOf ByteArray.empty b (i : Int)) = false := by simpa using c
      rw [c0, Bool.false_and]
      refine Ev.step (f := fun _ => some false) (fun k => ?_) (Ev.now _)
      have c' := of_decide_eq_false c0
      simp only [spec_ValidLog.l1]; rw [if_pos (by omega), if_pos (by omega), if_pos (by omega)]
theorem sVL0 (a b : List ByteArray) (ha : a.length ≤ 140737488351232) (hb : b.length ≤ 140737488351232) (n : Nat) : ∀ (i : Nat), a.length - i = n → i ≤ a.length →
    Ev (fun k => spec_ValidLog.l0 k (i : Int) a b) (if (a.drop i).all fitB = true then (if b.all fitB = true then decide ((a.length : Int) + (b.length : Int) ≤ 4000) else false) else false) := by
  induction n with
  | zero =>
    intro i hn hi
    rw [List.drop_of_length_le (by omega)]
    refine Ev.step (f := fun k => spec_ValidLog.l1 k ((0 : Nat) : Int) a b) (fun k => ?_) (sVL1 a b ha hb (b.length - 0) 0 rfl (by omega))
    simp only [spec_ValidLog.l0]; rw [if_neg (by omega)]; rfl
  | succ n ih =>
    intro i hn hi
    have hlt : i < a.length := by omega
    rw [all_drop a i hlt]
    by_cases c : fitB (rdOf ByteArray.empty a (i : Int)) = true
    · rw [c, Bool.true_and]
      refine Ev.step (fun k => ?_) (ih (i + 1) (by omega) (by omega))
      have c' := of_decide_eq_true c
      simp only [spec_ValidLog.l0]; rw [if_pos (by omega), if_pos (by omega), if_neg (by omega), wsucc hlt ha]
    · have c0 : fitB (rdOf ByteArray.empty a (i : Int)) = false := by simpa using c
      rw [c0, Bool.false_and]
      refine Ev.step (f := fun _ => some false) (fun k => ?_) (Ev.now _)
      have c' := of_decide_eq_false c0
      simp only [spec_ValidLog.l0]; rw [if_pos (by omega), if_pos (by omega), if_pos (by omega)]
theorem sVL_ev (a b : List ByteArray) (ha : a.length ≤ 140737488351232) (hb : b.length ≤ 140737488351232) : Ev (fun k => spec_ValidLog.f k a b) (logB a b) :=
  Ev.congr (fun k => by unfold spec_ValidLog.f; rfl) (sVL0 a b ha hb (a.length - 0) 0 rfl (by omega))
theorem iVL1 (o : List (List ByteArray)) (j : Int) (x a b : List ByteArray) (hx : x.length ≤ 140737488351232) (r : Bool) (hr : Ev (fun k => impl_ValidLog.l0 k o 2 (wrap64 (j + 1)) a b) r) (n : Nat) : ∀ (i : Nat), x.length - i = n → i ≤ x.length →
    Ev (fun k => impl_ValidLog.l1 k o 2 j x (x.length : Int) (i : Int) a b) (if (x.drop i).all fitB = true then r else false) := by
  induction n with
  | zero =>
    intro i hn hi
    rw [List.drop_of_length_le (by omega)]
    refine Ev.step (fun k => ?_) hr
    simp only [impl_ValidLog.l1]; rw [if_neg (by omega)]
  | succ n ih =>
    intro i hn hi
    have hlt : i < x.length := by omega
    rw [all_drop x i hlt]
    have hf : impl_entryFits.f (rdOf ByteArray.empty x (i : Int)) = some (fitB (rdOf ByteArray.empty x (i : Int))) := rfl
    by_cases c : fitB (rdOf ByteArray.empty x (i : Int)) = true
    · rw [c, Bool.true_and]
      refine Ev.step (fun k => ?_) (ih (i + 1) (by omega) (by omega))
      simp only [impl_ValidLog.l1]; rw [if_pos (by omega), if_pos (by omega), if_pos (by omega), hf, Option.bind_some, if_pos c, wsucc hlt hx]
    · have c0 : fitB (rdOf ByteArray.empty x (i : Int)) = false := by simpa using c
      rw [c0, Bool.false_and]
      refine Ev.step (f := fun _ => some false) (fun k => ?_) (Ev.now _)
      simp only [impl_ValidLog.l1]; rw [if_pos (by omega), if_pos (by omega), if_pos (by omega), hf, Option.bind_some, if_neg c]
theorem iVL_ev (a b : List ByteArray) (ha : a.length ≤ 140737488351232) (hb : b.length ≤ 140737488351232) : Ev (fun k => impl_ValidLog.f k a b) (logB a b) := by
  have h2 : Ev (fun k => impl_ValidLog.l0 k [a, b] 2 (wrap64 (1 + 1)) a b) (decide ((a.length : Int) + (b.length : Int) ≤ 4000)) := by
    refine Ev.step (f := fun _ => some (decide ((a.length : Int) + (b.length : Int) ≤ 4000))) (fun k => ?_) (Ev.now _)
    simp only [impl_ValidLog.l0]; rw [if_neg (by unfold wrap64; omega), wlen ha hb]
  have h1 : Ev (fun k => impl_ValidLog.l0 k [a, b] 2 (wrap64 (0 + 1)) a b) (if b.all fitB = true then decide ((a.length : Int) + (b.length : Int) ≤ 4000) else false) := by
    have := iVL1 [a, b] 1 b a b hb _ h2 (b.length - 0) 0 rfl (by omega)
    refine Ev.step (fun k => ?_) this
    have e : wrap64 (0 + 1) = 1 := by unfold wrap64; omega
    simp only [impl_ValidLog.l0]; rw [e, if_pos (by omega), if_pos (by omega), if_pos (by simp)]; rfl
  have h0 : Ev (fun k => impl_ValidLog.l0 k [a, b] 2 0 a b) (logB a b) := by
    have := iVL1 [a, b] 0 a a b ha _ h1 (a.length - 0) 0 rfl (by omega)
    refine Ev.step (fun k => ?_) this
    simp only [impl_ValidLog.l0]; rw [if_pos (by omega), if_pos (by omega), if_pos (by simp)]; rfl
  exact Ev.congr (fun k => by unfold impl_ValidLog.f; rfl) h0
theorem logB_le {a b : List ByteArray} (h : logB a b = true) : a.length + b.length ≤ 4000 := by
  unfold logB at h
  split at h
  · split at h
    · have := of_decide_eq_true h; omega
    · cases h
  · cases h
/-! ### Sync, Crash, Append -/
def syncL (a b : List ByteArray) : List ByteArray × List ByteArray := if logB a b = true then (a ++ b, []) else ([], [])
theorem iCopied (a : List ByteArray) (ha : a.length < 8796093022208) : impl_copied.f a = some a := by
  unfold impl_copied.f; rw [if_pos (by simpa using ha)]; rfl
theorem iSync_ev (a b : List ByteArray) (ha : a.length ≤ 140737488351232) (hb : b.length ≤ 140737488351232) : Ev (fun k => impl_Sync.f k a b) (syncL a b) := by
  refine Ev.bind (iVL_ev a b ha hb) ?_
  unfold syncL
  by_cases c : logB a b = true
  · have := logB_le c
    rw [if_pos c]
    refine Ev.congr (fun k => ?_) (Ev.now _)
    rw [if_pos c, iCopied a (by omega), Option.bind_some, if_pos (by omega)]
  · rw [if_neg c]
    refine Ev.congr (fun k => ?_) (Ev.now _)
    rw [if_neg c]
def crashL (a b : List ByteArray) (n : Int) : List ByteArray × List ByteArray := if logB a b = true then (a ++ b.take n.toNat, []) else ([], [])
theorem iCrash_ev (a b : List ByteArray) (n : Int) (ha : a.length ≤ 140737488351232) (hb : b.length ≤ 140737488351232) : Ev (fun k => impl_Crash.f k a b n) (crashL a b n) := by
  refine Ev.bind (iVL_ev a b ha hb) ?_
  unfold crashL
  by_cases c : logB a b = true
  · have hh := logB_le c
    rw [if_pos c]
    refine Ev.congr (fun k => ?_) (Ev.now _)
    have ht : ∀ m, (b.take m).length ≤ b.length := fun m => List.length_take_le' m b
    have e0 : 0 ≤ mx 0 (mn n (b.length : Int)) ∧ mx 0 (mn n (b.length : Int)) ≤ (b.length : Int) := by unfold mx mn; split <;> split <;> omega
    have e : b.take (mx 0 (mn n (b.length : Int))).toNat = b.take n.toNat := by
      by_cases c1 : n ≤ (b.length : Int)
      · have : (mx 0 (mn n (b.length : Int))).toNat = n.toNat := by unfold mx mn; split <;> split <;> omega
        rw [this]
      · have : (mx 0 (mn n (b.length : Int))).toNat = b.length := by unfold mx mn; split <;> split <;> omega
        rw [this, List.take_of_length_le (Nat.le_refl _), List.take_of_length_le (by omega)]
    rw [if_pos c, iCopied a (by omega), Option.bind_some, if_pos e0.1, if_pos e0.2, if_pos (by have := ht (mx 0 (mn n (b.length : Int))).toNat; omega), e]
  · rw [if_neg c]
    refine Ev.congr (fun k => ?_) (Ev.now _)
    rw [if_neg c]
def appL (a b : List ByteArray) (s : ByteArray) : List ByteArray × List ByteArray × Int :=
  if logB a b = true then (if fitB s = true then (if (a.length : Int) + (b.length : Int) ≥ 4000 then ([], [], 2) else (a, b ++ [s], 0)) else ([], [], 1)) else ([], [], 1)
theorem sApp_ev (a b : List ByteArray) (s : ByteArray) (ha : a.length ≤ 140737488351232) (hb : b.length ≤ 140737488351232) : Ev (fun k => spec_Append.f k a b s) (appL a b s) := by
  have hj1 : Ev (fun k => spec_Append.j0 k s true a b) (([], [], 1) : List ByteArray × List ByteArray × Int) := by
    refine Ev.step (f := fun _ => some (([], [], 1) : List ByteArray × List ByteArray × Int)) (fun k => ?_) (Ev.now _)
    simp only [spec_Append.j0]; rfl
  refine Ev.bind (sVL_ev a b ha hb) ?_
  unfold appL
  by_cases c : logB a b = true
  · have hh := logB_le c
    rw [if_pos c]
    by_cases c1 : fitB s = true
    · have c1' := of_decide_eq_true c1
      rw [if_pos c1]
      have e : decide ((s.size : Int) > 5000) = false := decide_eq_false (by omega)
      have e2 : spec_l2Log.f a b = some (a, b) := by
        unfold spec_l2Log.f; simp only [Option.bind_some, List.nil_append, List.length_nil]; rw [if_pos (by omega), if_pos (by omega)]
      refine Ev.congr (g := _) (f := fun k => spec_Append.j0 k s false a b) (fun k => by rw [if_pos c, e]) ?_
      by_cases c2 : (a.length : Int) + (b.length : Int) ≥ 4000
      · rw [if_pos c2]
        refine Ev.step (f := fun _ => some (([], [], 2) : List ByteArray × List ByteArray × Int)) (fun k => ?_) (Ev.now _)
        simp only [spec_Append.j0]; rw [if_neg (by simp), wlen ha hb, if_pos c2]
      · rw [if_neg c2]
        refine Ev.step (f := fun _ => some ((a, b ++ [s], 0) : List ByteArray × List ByteArray × Int)) (fun k => ?_) (Ev.now _)
        simp only [spec_Append.j0]; rw [if_neg (by simp), wlen ha hb, if_neg c2, e2, Option.bind_some, if_pos (by show b.length < _; omega)]
    · rw [if_neg c1]
      have c1' := of_decide_eq_false (by simpa using c1 : fitB s = false)
      have e : decide ((s.size : Int) > 5000) = true := decide_eq_true (by omega)
      exact Ev.congr (fun k => by rw [if_pos c, e]) hj1
  · rw [if_neg c]
    exact Ev.congr (fun k => by rw [if_neg c]) hj1
theorem iApp_ev (a b : List ByteArray) (s : ByteArray) (ha : a.length ≤ 140737488351232) (hb : b.length ≤ 140737488351232) : Ev (fun k => impl_Append.f k a b s) (appL a b s) := by
  have hj1 : Ev (fun k => impl_Append.j0 k s true a b) (([], [], 1) : List ByteArray × List ByteArray × Int) := by
    refine Ev.step (f := fun _ => some (([], [], 1) : List ByteArray × List ByteArray × Int)) (fun k => ?_) (Ev.now _)
    simp only [impl_Append.j0]; rfl
  have hf : impl_entryFits.f s = some (fitB s) := rfl
  refine Ev.bind (iVL_ev a b ha hb) ?_
  unfold appL
  by_cases c : logB a b = true
  · have hh := logB_le c
    rw [if_pos c]
    by_cases c1 : fitB s = true
    · rw [if_pos c1]
      refine Ev.congr (g := _) (f := fun k => impl_Append.j0 k s false a b) (fun k => by rw [if_pos c, hf, Option.bind_some, c1]; rfl) ?_
      by_cases c2 : (a.length : Int) + (b.length : Int) ≥ 4000
      · rw [if_pos c2]
        refine Ev.step (f := fun _ => some (([], [], 2) : List ByteArray × List ByteArray × Int)) (fun k => ?_) (Ev.now _)
        simp only [impl_Append.j0]; rw [if_neg (by simp), wlen ha hb, if_pos (by omega)]
      · rw [if_neg c2]
        refine Ev.step (f := fun _ => some ((a, b ++ [s], 0) : List ByteArray × List ByteArray × Int)) (fun k => ?_) (Ev.now _)
        simp only [impl_Append.j0]; rw [if_neg (by simp), wlen ha hb, if_neg (by omega), iCopied a (by omega), Option.bind_some, iCopied b (by omega), Option.bind_some, Option.bind_some, if_pos (by simp; omega)]
    · rw [if_neg c1]
      have c0 : fitB s = false := by simpa using c1
      exact Ev.congr (fun k => by rw [if_pos c, hf, Option.bind_some, c0]; rfl) hj1
  · rw [if_neg c]
    exact Ev.congr (fun k => by rw [if_neg c]) hj1
end Go.Proofs.Ytpnblgbkjbpeoaa.Q

namespace Go.Proofs.Ytpnblgbkjbpeoaa.P
open Go.RowKit Go.Proofs.YtpnblgbkjbpeoaaW.PrintWords Go.Proofs.YtpnblgbkjbpeoaaW.PrintLast Go.Proofs.YtpnblgbkjbpeoaaW.PrintMore
attribute [local go_sem] max2_int min2_int max_two min_two max_three min_three max_four min_four   -- for this text's walks alone
set_option linter.unusedVariables false
set_option linter.unusedSimpArgs false
/-! ### spec_l1Width: function 56 -/
end Go.Proofs.Ytpnblgbkjbpeoaa.P

namespace Go.Proofs.Ytpnblgbkjbpeoaa.P
open Go.RowKit Go.Proofs.YtpnblgbkjbpeoaaW.PrintWords Go.Proofs.YtpnblgbkjbpeoaaW.PrintLast Go.Proofs.YtpnblgbkjbpeoaaW.PrintMore
attribute [local go_sem] max2_int min2_int max_two min_two max_three min_three max_four min_four   -- for this text's walks alone
set_option linter.unusedVariables false
set_option linter.unusedSimpArgs false
/-! ### spec_l1ThingOk: function 62 -/
end Go.Proofs.Ytpnblgbkjbpeoaa.P

namespace Go.Proofs.Ytpnblgbkjbpeoaa.P
open Go.RowKit Go.Proofs.YtpnblgbkjbpeoaaW.PrintWords Go.Proofs.YtpnblgbkjbpeoaaW.PrintLast Go.Proofs.YtpnblgbkjbpeoaaW.PrintMore
attribute [local go_sem] max2_int min2_int max_two min_two max_three min_three max_four min_four   -- for this text's walks alone
set_option linter.unusedVariables false
set_option linter.unusedSimpArgs false
/-! ### impl_widthOk: function 57 -/
end Go.Proofs.Ytpnblgbkjbpeoaa.P

namespace Go.Proofs.Ytpnblgbkjbpeoaa.P
open Go.RowKit Go.Proofs.YtpnblgbkjbpeoaaW.PrintWords Go.Proofs.YtpnblgbkjbpeoaaW.PrintLast Go.Proofs.YtpnblgbkjbpeoaaW.PrintMore
attribute [local go_sem] max2_int min2_int max_two min_two max_three min_three max_four min_four   -- for this text's walks alone
set_option linter.unusedVariables false
set_option linter.unusedSimpArgs false
/-! ### impl_thingOk: function 63 -/
end Go.Proofs.Ytpnblgbkjbpeoaa.P

/- Plain laws of sums, things and logs: what the program and the reference come to, by one function each. -/
namespace Go.Proofs.Ytpnblgbkjbpeoaa.Q
open Go.RowKit Go.Proofs.Ytpnblgbkjbpeoaa.P Go.Proofs.YtpnblgbkjbpeoaaW.PrintWords Go.Proofs.YtpnblgbkjbpeoaaW.PrintLast Go.Proofs.YtpnblgbkjbpeoaaW.PrintMore
set_option linter.unusedVariables false

/-! ### widths, valid things -/
end Go.Proofs.Ytpnblgbkjbpeoaa.Q

namespace Go.Proofs.Ytpnblgbkjbpeoaa.P
open Go.RowKit Go.Proofs.YtpnblgbkjbpeoaaW.PrintWords Go.Proofs.YtpnblgbkjbpeoaaW.PrintLast Go.Proofs.YtpnblgbkjbpeoaaW.PrintMore
attribute [local go_sem] max2_int min2_int max_two min_two max_three min_three max_four min_four   -- for this text's walks alone
set_option linter.unusedVariables false
set_option linter.unusedSimpArgs false
/-! ### spec_Sum: function 15 -/
end Go.Proofs.Ytpnblgbkjbpeoaa.P

namespace Go.Proofs.Ytpnblgbkjbpeoaa.P
open Go.RowKit Go.Proofs.YtpnblgbkjbpeoaaW.PrintWords Go.Proofs.YtpnblgbkjbpeoaaW.PrintLast Go.Proofs.YtpnblgbkjbpeoaaW.PrintMore
attribute [local go_sem] max2_int min2_int max_two min_two max_three min_three max_four min_four   -- for this text's walks alone
set_option linter.unusedVariables false
set_option linter.unusedSimpArgs false
/-! ### impl_Sum: function 16 -/
end Go.Proofs.Ytpnblgbkjbpeoaa.P

namespace Go.Proofs.Ytpnblgbkjbpeoaa.P
open Go.RowKit Go.Proofs.YtpnblgbkjbpeoaaW.PrintWords Go.Proofs.YtpnblgbkjbpeoaaW.PrintLast Go.Proofs.YtpnblgbkjbpeoaaW.PrintMore
attribute [local go_sem] max2_int min2_int max_two min_two max_three min_three max_four min_four   -- for this text's walks alone
set_option linter.unusedVariables false
set_option linter.unusedSimpArgs false
/-! ### spec_FormThing: function 23 -/
end Go.Proofs.Ytpnblgbkjbpeoaa.P

namespace Go.Proofs.Ytpnblgbkjbpeoaa.P
open Go.RowKit Go.Proofs.YtpnblgbkjbpeoaaW.PrintWords Go.Proofs.YtpnblgbkjbpeoaaW.PrintLast Go.Proofs.YtpnblgbkjbpeoaaW.PrintMore
attribute [local go_sem] max2_int min2_int max_two min_two max_three min_three max_four min_four   -- for this text's walks alone
set_option linter.unusedVariables false
set_option linter.unusedSimpArgs false
/-! ### impl_form: function 64 -/
end Go.Proofs.Ytpnblgbkjbpeoaa.P

namespace Go.Proofs.Ytpnblgbkjbpeoaa.P
open Go.RowKit Go.Proofs.YtpnblgbkjbpeoaaW.PrintWords Go.Proofs.YtpnblgbkjbpeoaaW.PrintLast Go.Proofs.YtpnblgbkjbpeoaaW.PrintMore
attribute [local go_sem] max2_int min2_int max_two min_two max_three min_three max_four min_four   -- for this text's walks alone
set_option linter.unusedVariables false
set_option linter.unusedSimpArgs false
/-! ### impl_FormThing: function 25 -/
end Go.Proofs.Ytpnblgbkjbpeoaa.P

/- Plain laws of sums and of things' forms: the program's and the reference's come to one function each. -/
namespace Go.Proofs.Ytpnblgbkjbpeoaa.Q
open Go.RowKit Go.Proofs.Ytpnblgbkjbpeoaa.P Go.Proofs.YtpnblgbkjbpeoaaW.PrintWords Go.Proofs.YtpnblgbkjbpeoaaW.PrintLast Go.Proofs.YtpnblgbkjbpeoaaW.PrintMore
set_option linter.unusedVariables false

/-! ### Sum -/

/-! ### forms -/
theorem son_size (xs : List Int) : (strOfNums xs).size = xs.length := by simp [strOfNums, ByteArray.size]
end Go.Proofs.Ytpnblgbkjbpeoaa.Q

namespace Go.Proofs.Ytpnblgbkjbpeoaa.P
open Go.RowKit Go.Proofs.YtpnblgbkjbpeoaaW.PrintWords Go.Proofs.YtpnblgbkjbpeoaaW.PrintLast Go.Proofs.YtpnblgbkjbpeoaaW.PrintMore
attribute [local go_sem] max2_int min2_int max_two min_two max_three min_three max_four min_four   -- for this text's walks alone
set_option linter.unusedVariables false
set_option linter.unusedSimpArgs false
/-! ### spec_ReadThing: function 27 -/
end Go.Proofs.Ytpnblgbkjbpeoaa.P

namespace Go.Proofs.Ytpnblgbkjbpeoaa.P
open Go.RowKit Go.Proofs.YtpnblgbkjbpeoaaW.PrintWords Go.Proofs.YtpnblgbkjbpeoaaW.PrintLast Go.Proofs.YtpnblgbkjbpeoaaW.PrintMore
attribute [local go_sem] max2_int min2_int max_two min_two max_three min_three max_four min_four   -- for this text's walks alone
set_option linter.unusedVariables false
set_option linter.unusedSimpArgs false
/-! ### impl_ReadThing: function 28 -/
end Go.Proofs.Ytpnblgbkjbpeoaa.P

/- Plain laws of ReadThing: the program's and the reference's come to one function. -/
namespace Go.Proofs.Ytpnblgbkjbpeoaa.Q
open Go.RowKit Go.Proofs.Ytpnblgbkjbpeoaa.P Go.Proofs.YtpnblgbkjbpeoaaW.PrintWords Go.Proofs.YtpnblgbkjbpeoaaW.PrintLast Go.Proofs.YtpnblgbkjbpeoaaW.PrintMore
set_option linter.unusedVariables false

theorem w64_small {x : Int} (h0 : 0 ≤ x) (h : x ≤ 9223372036854775807) : wrap64 x = x := by unfold wrap64; omega
end Go.Proofs.Ytpnblgbkjbpeoaa.Q

namespace Go.Proofs.Ytpnblgbkjbpeoaa.P
open Go.RowKit Go.Proofs.YtpnblgbkjbpeoaaW.PrintWords Go.Proofs.YtpnblgbkjbpeoaaW.PrintLast Go.Proofs.YtpnblgbkjbpeoaaW.PrintMore
attribute [local go_sem] max2_int min2_int max_two min_two max_three min_three max_four min_four   -- for this text's walks alone
set_option linter.unusedVariables false
set_option linter.unusedSimpArgs false
/-! ### spec_l3Uses: function 85 -/
end Go.Proofs.Ytpnblgbkjbpeoaa.P

namespace Go.Proofs.Ytpnblgbkjbpeoaa.P
open Go.RowKit Go.Proofs.YtpnblgbkjbpeoaaW.PrintWords Go.Proofs.YtpnblgbkjbpeoaaW.PrintLast Go.Proofs.YtpnblgbkjbpeoaaW.PrintMore
attribute [local go_sem] max2_int min2_int max_two min_two max_three min_three max_four min_four   -- for this text's walks alone
set_option linter.unusedVariables false
set_option linter.unusedSimpArgs false
/-! ### spec_l3NumberOk: function 86 -/
end Go.Proofs.Ytpnblgbkjbpeoaa.P

namespace Go.Proofs.Ytpnblgbkjbpeoaa.P
open Go.RowKit Go.Proofs.YtpnblgbkjbpeoaaW.PrintWords Go.Proofs.YtpnblgbkjbpeoaaW.PrintLast Go.Proofs.YtpnblgbkjbpeoaaW.PrintMore
attribute [local go_sem] max2_int min2_int max_two min_two max_three min_three max_four min_four   -- for this text's walks alone
set_option linter.unusedVariables false
set_option linter.unusedSimpArgs false
/-! ### spec_l3NameOk: function 87 -/
end Go.Proofs.Ytpnblgbkjbpeoaa.P

namespace Go.Proofs.Ytpnblgbkjbpeoaa.P
open Go.RowKit Go.Proofs.YtpnblgbkjbpeoaaW.PrintWords Go.Proofs.YtpnblgbkjbpeoaaW.PrintLast Go.Proofs.YtpnblgbkjbpeoaaW.PrintMore
attribute [local go_sem] max2_int min2_int max_two min_two max_three min_three max_four min_four   -- for this text's walks alone
set_option linter.unusedVariables false
set_option linter.unusedSimpArgs false
/-! ### spec_l3Ok: function 74 -/
end Go.Proofs.Ytpnblgbkjbpeoaa.P

namespace Go.Proofs.Ytpnblgbkjbpeoaa.P
open Go.RowKit Go.Proofs.YtpnblgbkjbpeoaaW.PrintWords Go.Proofs.YtpnblgbkjbpeoaaW.PrintLast Go.Proofs.YtpnblgbkjbpeoaaW.PrintMore
attribute [local go_sem] max2_int min2_int max_two min_two max_three min_three max_four min_four   -- for this text's walks alone
set_option linter.unusedVariables false
set_option linter.unusedSimpArgs false
/-! ### spec_FormEntry: function 43 -/
end Go.Proofs.Ytpnblgbkjbpeoaa.P

namespace Go.Proofs.Ytpnblgbkjbpeoaa.P
open Go.RowKit Go.Proofs.YtpnblgbkjbpeoaaW.PrintWords Go.Proofs.YtpnblgbkjbpeoaaW.PrintLast Go.Proofs.YtpnblgbkjbpeoaaW.PrintMore
attribute [local go_sem] max2_int min2_int max_two min_two max_three min_three max_four min_four   -- for this text's walks alone
set_option linter.unusedVariables false
set_option linter.unusedSimpArgs false
/-! ### impl_usesSum: function 88 -/
end Go.Proofs.Ytpnblgbkjbpeoaa.P

namespace Go.Proofs.Ytpnblgbkjbpeoaa.P
open Go.RowKit Go.Proofs.YtpnblgbkjbpeoaaW.PrintWords Go.Proofs.YtpnblgbkjbpeoaaW.PrintLast Go.Proofs.YtpnblgbkjbpeoaaW.PrintMore
attribute [local go_sem] max2_int min2_int max_two min_two max_three min_three max_four min_four   -- for this text's walks alone
set_option linter.unusedVariables false
set_option linter.unusedSimpArgs false
/-! ### impl_usesName: function 89 -/
end Go.Proofs.Ytpnblgbkjbpeoaa.P

namespace Go.Proofs.Ytpnblgbkjbpeoaa.P
open Go.RowKit Go.Proofs.YtpnblgbkjbpeoaaW.PrintWords Go.Proofs.YtpnblgbkjbpeoaaW.PrintLast Go.Proofs.YtpnblgbkjbpeoaaW.PrintMore
attribute [local go_sem] max2_int min2_int max_two min_two max_three min_three max_four min_four   -- for this text's walks alone
set_option linter.unusedVariables false
set_option linter.unusedSimpArgs false
/-! ### impl_nameOk: function 90 -/
end Go.Proofs.Ytpnblgbkjbpeoaa.P

namespace Go.Proofs.Ytpnblgbkjbpeoaa.P
open Go.RowKit Go.Proofs.YtpnblgbkjbpeoaaW.PrintWords Go.Proofs.YtpnblgbkjbpeoaaW.PrintLast Go.Proofs.YtpnblgbkjbpeoaaW.PrintMore
attribute [local go_sem] max2_int min2_int max_two min_two max_three min_three max_four min_four   -- for this text's walks alone
set_option linter.unusedVariables false
set_option linter.unusedSimpArgs false
/-! ### impl_entryOk: function 75 -/
end Go.Proofs.Ytpnblgbkjbpeoaa.P

namespace Go.Proofs.Ytpnblgbkjbpeoaa.P
open Go.RowKit Go.Proofs.YtpnblgbkjbpeoaaW.PrintWords Go.Proofs.YtpnblgbkjbpeoaaW.PrintLast Go.Proofs.YtpnblgbkjbpeoaaW.PrintMore
attribute [local go_sem] max2_int min2_int max_two min_two max_three min_three max_four min_four   -- for this text's walks alone
set_option linter.unusedVariables false
set_option linter.unusedSimpArgs false
/-! ### binary_bigEndian_AppendUint32: function 76 -/
end Go.Proofs.Ytpnblgbkjbpeoaa.P

namespace Go.Proofs.Ytpnblgbkjbpeoaa.P
open Go.RowKit Go.Proofs.YtpnblgbkjbpeoaaW.PrintWords Go.Proofs.YtpnblgbkjbpeoaaW.PrintLast Go.Proofs.YtpnblgbkjbpeoaaW.PrintMore
attribute [local go_sem] max2_int min2_int max_two min_two max_three min_three max_four min_four   -- for this text's walks alone
set_option linter.unusedVariables false
set_option linter.unusedSimpArgs false
/-! ### impl_FormEntry: function 45 -/
end Go.Proofs.Ytpnblgbkjbpeoaa.P

/- Plain laws of entries: valid, and their forms: the program's and the reference's come to one function. -/
namespace Go.Proofs.Ytpnblgbkjbpeoaa.Q
open Go.RowKit Go.Proofs.Ytpnblgbkjbpeoaa.P Go.Proofs.YtpnblgbkjbpeoaaW.PrintWords Go.Proofs.YtpnblgbkjbpeoaaW.PrintLast Go.Proofs.YtpnblgbkjbpeoaaW.PrintMore
set_option linter.unusedVariables false

theorem Ev.ite' {α : Type} {c : Prop} [Decidable c] {g f : Nat → Option α} {r : α} (h1 : c → Ev g r) (h2 : ¬ c → Ev f r) : Ev (fun k => if c then g k else f k) r := by
  by_cases h : c
  · exact Ev.congr (fun k => if_pos h) (h1 h)
  · exact Ev.congr (fun k => if_neg h) (h2 h)
theorem Ev.ret {α : Type} {a r : α} (h : a = r) : Ev (fun _ => some a) r := by rw [h]; exact Ev.now r
theorem Ev.pos {α : Type} {c : Prop} [Decidable c] {g f : Nat → Option α} {r : α} (h : c) (e : Ev g r) : Ev (fun k => if c then g k else f k) r := Ev.congr (fun _ => if_pos h) e
theorem Ev.neg {α : Type} {c : Prop} [Decidable c] {g f : Nat → Option α} {r : α} (h : ¬ c) (e : Ev f r) : Ev (fun k => if c then g k else f k) r := Ev.congr (fun _ => if_neg h) e
/-! ### names -/
/-! ### valid entries -/
section
/-! the program's -/
end
/-! ### entries' forms -/
end Go.Proofs.Ytpnblgbkjbpeoaa.Q

/- Plain laws of draws: what a draw may come to (that it ends, and how large its parts are). -/
namespace Go.Proofs.Ytpnblgbkjbpeoaa.Q
open Go.RowKit Go.Proofs.Ytpnblgbkjbpeoaa.P Go.Proofs.YtpnblgbkjbpeoaaW.PrintWords Go.Proofs.YtpnblgbkjbpeoaaW.PrintLast Go.Proofs.YtpnblgbkjbpeoaaW.PrintMore
set_option linter.unusedVariables false

/-- It comes to something of which p holds. -/
def EP {α : Type} (g : Nat → Option α) (p : α → Prop) : Prop := ∃ r, Ev g r ∧ p r
theorem EP.ret {α : Type} {r : α} {p : α → Prop} (hp : p r) : EP (fun _ => some r) p := ⟨r, Ev.now r, hp⟩
theorem EP.bind {α β : Type} {g : Nat → Option α} {f : Nat → α → Option β} {p : α → Prop} {q : β → Prop} (h : EP g p) (hf : ∀ a, p a → EP (fun k => f k a) q) : EP (fun k => (g k).bind (f k)) q := by
  obtain ⟨a, ha, hp⟩ := h
  obtain ⟨b, hb, hq⟩ := hf a hp
  exact ⟨b, Ev.bind ha hb, hq⟩
theorem EP.pos {α : Type} {c : Prop} [Decidable c] {g f : Nat → Option α} {p : α → Prop} (h : c) (e : EP g p) : EP (fun k => if c then g k else f k) p := by
  obtain ⟨r, hr, hp⟩ := e; exact ⟨r, Ev.pos h hr, hp⟩
theorem EP.neg {α : Type} {c : Prop} [Decidable c] {g f : Nat → Option α} {p : α → Prop} (h : ¬ c) (e : EP f p) : EP (fun k => if c then g k else f k) p := by
  obtain ⟨r, hr, hp⟩ := e; exact ⟨r, Ev.neg h hr, hp⟩
theorem EP.ite {α : Type} {c : Prop} [Decidable c] {g f : Nat → Option α} {p : α → Prop} (h1 : c → EP g p) (h2 : ¬ c → EP f p) : EP (fun k => if c then g k else f k) p := by
  by_cases h : c
  · exact EP.pos h (h1 h)
  · exact EP.neg h (h2 h)
theorem EP.step {α : Type} {g f : Nat → Option α} {p : α → Prop} (hg : ∀ k, g (k + 1) = f k) (h : EP f p) : EP g p := by
  obtain ⟨r, hr, hp⟩ := h; exact ⟨r, Ev.step hg hr, hp⟩
theorem EP.mono {α : Type} {g : Nat → Option α} {p q : α → Prop} (h : EP g p) (hq : ∀ a, p a → q a) : EP g q := by
  obtain ⟨r, hr, hp⟩ := h; exact ⟨r, hr, hq r hp⟩
theorem EP.congr {α : Type} {g f : Nat → Option α} {p : α → Prop} (hg : ∀ k, g k = f k) (h : EP f p) : EP g p := by
  obtain ⟨r, hr, hp⟩ := h; exact ⟨r, Ev.congr hg hr, hp⟩
/-- A reader's bytes. -/
def okB (b : List Int) : Prop := b.length ≤ 2000 ∧ ∀ x ∈ b, 0 ≤ x ∧ x < 256
theorem okB.at_ {b : List Int} (h : okB b) (i : Int) : 0 ≤ rd b i ∧ rd b i < 256 := by
  unfold Go.Proofs.YtpnblgbkjbpeoaaW.PrintWords.rd
  rw [List.getD_eq_getElem?_getD]
  cases e : b[i.toNat]? with
  | none => simp
  | some x => exact h.2 x (List.mem_of_getElem? e)
theorem xor_i64 (a b : Int) (ha : 0 ≤ a) (ha2 : a < 4611686018427387904) (hb : 0 ≤ b) (hb2 : b < 4611686018427387904) : 0 ≤ Go.bits .xor .i64 a b ∧ Go.bits .xor .i64 a b < 4611686018427387904 := by
  obtain ⟨m, rfl⟩ : ∃ m : Nat, a = (m : Int) := ⟨a.toNat, by omega⟩
  obtain ⟨n, rfl⟩ : ∃ n : Nat, b = (n : Int) := ⟨b.toNat, by omega⟩
  have hm : m < 2 ^ 62 := by omega
  have hn : n < 2 ^ 62 := by omega
  have hx : m ^^^ n < 2 ^ 62 := Nat.xor_lt_two_pow hm hn
  have key : (BitVec.ofNat 64 m ^^^ BitVec.ofNat 64 n).toNat = m ^^^ n := by
    rw [BitVec.toNat_xor, BitVec.toNat_ofNat, BitVec.toNat_ofNat, Nat.mod_eq_of_lt (by omega), Nat.mod_eq_of_lt (by omega)]
  have e : Go.bits .xor .i64 ((m : Nat) : Int) ((n : Nat) : Int) = IntKind.i64.wrap (((BitVec.ofNat 64 m ^^^ BitVec.ofNat 64 n).toNat : Nat) : Int) := by
    unfold Go.bits
    simp only [BitVec.ofInt_natCast]
    rfl
  rw [e, key, i64_w]
  have : wrap64 ((m ^^^ n : Nat) : Int) = ((m ^^^ n : Nat) : Int) := w64_small (by omega) (by omega)
  rw [this]; omega
theorem tmod_range {x n : Int} (hx : 0 ≤ x) (hn : 0 < n) : 0 ≤ Int.tmod x n ∧ Int.tmod x n < n := by
  rw [Int.tmod_eq_emod_of_nonneg hx]; exact ⟨Int.emod_nonneg _ (by omega), Int.emod_lt_of_pos _ hn⟩
theorem tdiv_range {x n : Int} (hx : 0 ≤ x) (hn : 0 < n) : 0 ≤ Int.tdiv x n ∧ Int.tdiv x n ≤ x := by
  rw [Int.tdiv_eq_ediv_of_nonneg hx]; exact ⟨Int.ediv_nonneg hx (by omega), Int.ediv_le_self _ hx⟩
theorem pick_ep (b : List Int) (p n : Int) (hb : okB b) (hp : 0 ≤ p) (hp2 : p ≤ 1000000000) : EP (fun k => spec_l1Rd_pick.f k b p n) (fun r => 0 ≤ r.1 ∧ (r.1 < n ∨ r.1 = 0) ∧ r.2 = p + 1) := by
  have e1 : wrap64 (p + 1) = p + 1 := w64_small (by omega) (by omega)
  have hT : EP (fun k => spec_l1Rd_pick.j0 k n true b (p + 1)) (fun r => 0 ≤ r.1 ∧ (r.1 < n ∨ r.1 = 0) ∧ r.2 = p + 1) :=
    EP.step (f := fun _ => some (0, p + 1)) (fun k => by simp only [spec_l1Rd_pick.j0]; rfl) (EP.ret ⟨Int.le_refl _, .inr rfl, rfl⟩)
  unfold spec_l1Rd_pick.f
  simp only [e1]
  refine EP.ite (fun _ => hT) (fun hn => ?_)
  by_cases hz : b.length = 0
  · refine EP.congr (fun k => ?_) hT
    have : ((b.length : Int) == 0) = true := by rw [beq_iff_eq]; omega
    rw [this]
  · have hf : ((b.length : Int) == 0) = false := by rw [beq_eq_false_iff_ne]; omega
    have e2 : wrap64 (p + 1 - 1) = p := by rw [w64_small (by omega) (by omega)]; omega
    refine EP.congr (f := fun k => spec_l1Rd_pick.j0 k n false b (p + 1)) (fun k => by rw [hf]) (EP.step (fun k => by simp only [spec_l1Rd_pick.j0]; rw [if_neg (by simp)]) ?_)
    simp only [e2]
    refine EP.ite (fun h => EP.pos hp (EP.neg (by omega) (EP.ret ?_))) (fun h => ?_)
    · have hr := hb.at_ p
      have hw : wrap64 (rd b p) = rd b p := w64_small (by omega) (by omega)
      show 0 ≤ Int.tmod (wrap64 (rd b p)) n ∧ _
      rw [hw]
      have := tmod_range hr.1 (show 0 < n by omega)
      exact ⟨this.1, .inl this.2, rfl⟩
    · have hl : 0 < (b.length : Int) := by omega
      have hl2 : (b.length : Int) ≤ 2000 := by have := hb.1; omega
      have t1 := tmod_range hp hl
      have e3 : wrap64 (wrap64 (p * 7) + 3) = p * 7 + 3 := by rw [w64_small (x := p * 7) (by omega) (by omega), w64_small (by omega) (by omega)]
      have t2 := tmod_range (show 0 ≤ p * 7 + 3 by omega) hl
      simp only [e3]
      refine EP.neg (by omega) (EP.pos t1.1 (EP.pos t1.2 (EP.pos t2.1 (EP.pos t2.2 (EP.neg (by omega) (EP.ret ?_))))))
      have r1 := hb.at_ (Int.tmod p (b.length : Int))
      have r2 := hb.at_ (Int.tmod (p * 7 + 3) (b.length : Int))
      have d1 := tdiv_range hp hl
      generalize rd b (Int.tmod p (b.length : Int)) = x1 at *
      generalize rd b (Int.tmod (p * 7 + 3) (b.length : Int)) = x2 at *
      generalize Int.tdiv p (b.length : Int) = q at *
      have w1 : wrap64 x1 = x1 := w64_small (by omega) (by omega)
      have w2 : wrap64 x2 = x2 := w64_small (by omega) (by omega)
      have w3 : wrap64 q = q := w64_small (by omega) (by omega)
      have w4 : wrap64 (x1 * 131) = x1 * 131 := w64_small (by omega) (by omega)
      have w5 : wrap64 (x2 * 1117) = x2 * 1117 := w64_small (by omega) (by omega)
      have w6 : wrap64 (p * 29) = p * 29 := w64_small (by omega) (by omega)
      have w7 : wrap64 (q * 53) = q * 53 := w64_small (by omega) (by omega)
      have w8 : wrap64 (x1 * 131 + x2 * 1117) = x1 * 131 + x2 * 1117 := w64_small (by omega) (by omega)
      have w9 : wrap64 (x1 * 131 + x2 * 1117 + p * 29) = x1 * 131 + x2 * 1117 + p * 29 := w64_small (by omega) (by omega)
      have w10 : wrap64 (x1 * 131 + x2 * 1117 + p * 29 + q * 53) = x1 * 131 + x2 * 1117 + p * 29 + q * 53 := w64_small (by omega) (by omega)
      simp only [w1, w2, w3, w4, w5, w6, w7, w8, w9, w10]
      have hx0 : 0 ≤ x1 * 131 + x2 * 1117 + p * 29 + q * 53 := by omega
      have hx1 : x1 * 131 + x2 * 1117 + p * 29 + q * 53 ≤ 100000000000 := by omega
      generalize x1 * 131 + x2 * 1117 + p * 29 + q * 53 = x at *
      have d2 := tdiv_range hx0 (show (0 : Int) < 64 by omega)
      have w11 : wrap64 (Int.tdiv x 64) = Int.tdiv x 64 := w64_small (by omega) (by omega)
      rw [w11]
      have hxr := xor_i64 x (Int.tdiv x 64) hx0 (by omega) d2.1 (by omega)
      have := tmod_range hxr.1 (show 0 < n by omega)
      exact ⟨this.1, .inl this.2, by first | trivial | rfl⟩
theorem open_ep (b : List Int) (h : ∀ x ∈ b, 0 ≤ x ∧ x < 256) : EP (fun _ => spec_l1Open.f b) (fun r => okB r.1 ∧ r.2 = 0) := by
  unfold spec_l1Open.f
  refine EP.ite (fun c => EP.pos (by omega) (EP.ret ⟨⟨by rw [List.length_take]; exact Nat.min_le_left _ _, fun x hx => h x (List.mem_of_mem_take hx)⟩, rfl⟩)) (fun c => EP.ret ⟨⟨by show b.length ≤ 2000; omega, h⟩, rfl⟩)
theorem many_loop (B : Nat) (hB : B ≤ 1000000000) (m : Nat) : ∀ (n : Nat) (x y : ByteArray), n ≤ m → n ≤ 1000000000 → y.size + x.size * n ≤ B → x.size ≤ B →
    EP (fun k => spec_l1Many.l0 k x (n : Int) y) (fun r => r.size ≤ B) := by
  induction m with
  | zero =>
    intro n x y hn hn9 h1 h2
    obtain rfl : n = 0 := by omega
    exact EP.step (f := fun _ => some y) (fun k => by simp only [spec_l1Many.l0]; rw [if_neg (by omega)]) (EP.ret (by show y.size ≤ B; omega))
  | succ m ih =>
    intro n x y hn hn9 h1 h2
    by_cases hz : n = 0
    · subst hz
      exact EP.step (f := fun _ => some y) (fun k => by simp only [spec_l1Many.l0]; rw [if_neg (by omega)]) (EP.ret (by show y.size ≤ B; omega))
    · have hd : wrap64 (Int.tdiv (n : Int) 2) = ((n / 2 : Nat) : Int) := by rw [Int.tdiv_eq_ediv_of_nonneg (by omega), w64_small (by omega) (by omega)]; omega
      have hm2 : Int.tmod (n : Int) 2 = ((n % 2 : Nat) : Int) := by rw [Int.tmod_eq_emod_of_nonneg (by omega)]; omega
      have hxx : (x ++ x).size = x.size + x.size := ByteArray.size_append
      have hyx : (y ++ x).size = y.size + x.size := ByteArray.size_append
      have hn1 : x.size * 1 ≤ x.size * n := Nat.mul_le_mul_left _ (by omega)
      have hsp : x.size * n = (x.size + x.size) * (n / 2) + x.size * (n % 2) := by
        have e : n = 2 * (n / 2) + n % 2 := by omega
        have e2 : x.size * n = x.size * (2 * (n / 2) + n % 2) := by rw [← e]
        rw [e2, Nat.mul_add, ← Nat.mul_assoc]; congr 1; rw [Nat.mul_two]
      refine EP.step (fun k => by simp only [spec_l1Many.l0, hd, hm2]; rw [if_pos (by omega)]) ?_
      by_cases hx : n / 2 = 0
      · have e1 : n = 1 := by omega
        subst e1
        have := EP.step (g := fun k => spec_l1Many.l0 k (x ++ x) ((0 : Nat) : Int) (y ++ x)) (f := fun _ => some (y ++ x)) (p := fun r => r.size ≤ B) (fun k => by simp only [spec_l1Many.l0]; rw [if_neg (by omega)]) (EP.ret (by show (y ++ x).size ≤ B; omega))
        exact EP.pos (by omega) (EP.pos (by omega) (EP.pos (by omega) this))
      · have h4 : (x.size + x.size) * 1 ≤ (x.size + x.size) * (n / 2) := Nat.mul_le_mul_left _ (by omega)
        rcases Nat.mod_two_eq_zero_or_one n with e0 | e0
        · rw [e0] at hsp ⊢
          exact EP.neg (by omega) (EP.pos (by omega) (ih (n / 2) (x ++ x) y (by omega) (by omega) (by rw [hxx]; omega) (by omega)))
        · rw [e0] at hsp ⊢
          exact EP.pos (by omega) (EP.pos (by omega) (EP.pos (by omega) (ih (n / 2) (x ++ x) (y ++ x) (by omega) (by omega) (by rw [hxx, hyx]; omega) (by omega))))
theorem many_ep (x : ByteArray) (n : Nat) (B : Nat) (hB : B ≤ 1000000000) (hn : n ≤ 1000000000) (h : x.size * n ≤ B) (hx : x.size ≤ B) : EP (fun k => spec_l1Many.f k x (n : Int)) (fun r => r.size ≤ B) :=
  many_loop B hB n n x ⟨#[]⟩ (Nat.le_refl _) hn (by show 0 + x.size * n ≤ B; omega) hx
theorem text_loop (b : List Int) (hb : okB b) (m : Nat) : ∀ (i x : Int) (l : List Int) (p : Int), 0 ≤ i → x ≤ 100 → (x + 1 - i).toNat = m → (l.length : Int) ≤ i → 0 ≤ p → p + m ≤ 1000000000 →
    EP (fun k => spec_l1Text.l0 k x l i b p) (fun r => r.1.size ≤ l.length + m ∧ p ≤ r.2 ∧ r.2 ≤ p + m) := by
  induction m with
  | zero =>
    intro i x l p h0 hx hm hl hp hp2
    exact EP.step (f := fun _ => some (strOfNums l, p)) (fun k => by simp only [spec_l1Text.l0]; rw [if_neg (by omega)]) (EP.ret ⟨by show (strOfNums l).size ≤ _; rw [son_size]; omega, Int.le_refl _, by show p ≤ _; omega⟩)
  | succ m ih =>
    intro i x l p h0 hx hm hl hp hp2
    have e1 : wrap64 (i + 1) = i + 1 := w64_small (by omega) (by omega)
    refine EP.step (fun k => by simp only [spec_l1Text.l0, e1]; rw [if_pos (by omega)]) ?_
    refine EP.bind (pick_ep b p 6 hb hp (by omega)) (fun r hr => EP.pos (by omega) ?_)
    obtain ⟨x1, x2⟩ := r
    obtain ⟨h1, h2, h3⟩ := hr
    simp only at h3
    subst h3
    refine (ih (i + 1) x (l ++ [wrap64 (97 + x1) % 256]) (p + 1) (by omega) hx (by omega) (by simp; omega) (by omega) (by omega)).mono (fun r hr => ?_)
    rw [List.length_append] at hr
    simp only [List.length_cons, List.length_nil] at hr
    exact ⟨by omega, by omega, by omega⟩
theorem text_ep (b : List Int) (p : Int) (hb : okB b) (hp : 0 ≤ p) (hp2 : p ≤ 100000000) : EP (fun k => spec_l1Text.f k b p) (fun r => r.1.size ≤ 4 ∧ p ≤ r.2 ∧ r.2 ≤ p + 6) := by
  refine EP.bind (pick_ep b p 9 hb hp (by omega)) (fun r hr => ?_)
  obtain ⟨x1, x2⟩ := r
  obtain ⟨h1, h2, h3⟩ := hr
  simp only at h3
  subst h3
  refine EP.ite (fun _ => EP.ret ⟨by show (⟨#[]⟩ : ByteArray).size ≤ 4; decide, by show p ≤ p + 1; omega, by show p + 1 ≤ p + 6; omega⟩) (fun _ => EP.ite (fun _ => EP.ret ⟨by show (⟨#[97, 32, 98]⟩ : ByteArray).size ≤ 4; decide, by show p ≤ p + 1; omega, by show p + 1 ≤ p + 6; omega⟩) (fun _ => EP.ite (fun _ => EP.ret ⟨by show (⟨#[37, 45, 10]⟩ : ByteArray).size ≤ 4; decide, by show p ≤ p + 1; omega, by show p + 1 ≤ p + 6; omega⟩) (fun _ => EP.ite (fun _ => EP.ret ⟨by show (⟨#[255, 0]⟩ : ByteArray).size ≤ 4; decide, by show p ≤ p + 1; omega, by show p + 1 ≤ p + 6; omega⟩) (fun _ => ?_))))
  refine EP.bind (pick_ep b (p + 1) 4 hb (by omega) (by omega)) (fun r hr => ?_)
  obtain ⟨y1, y2⟩ := r
  obtain ⟨h4, h5, h6⟩ := hr
  simp only at h4 h5 h6
  subst h6
  refine (text_loop b hb (y1 + 1).toNat 0 y1 [] (p + 1 + 1) (by omega) (by omega) (by omega) (by simp) (by omega) (by omega)).mono (fun r hr => ?_)
  simp only [List.length_nil] at hr
  exact ⟨by omega, by omega, by omega⟩
end Go.Proofs.Ytpnblgbkjbpeoaa.Q

/- The law of the log comes to true. -/
namespace Go.Proofs.Ytpnblgbkjbpeoaa.Q
open Go.RowKit Go.Proofs.Ytpnblgbkjbpeoaa.P Go.Proofs.YtpnblgbkjbpeoaaW.PrintWords Go.Proofs.YtpnblgbkjbpeoaaW.PrintLast Go.Proofs.YtpnblgbkjbpeoaaW.PrintMore
set_option linter.unusedVariables false

theorem wL_loop (l : List ByteArray) (hl : l.length ≤ 140737488351232) (n : Nat) : ∀ (i : Nat), l.length - i = n → i ≤ l.length → Ev (fun k => laws_wList.l0 k l l (i : Int)) true := by
  induction n with
  | zero =>
    intro i hn hi
    refine Ev.step (f := fun _ => some true) (fun k => ?_) (Ev.now _)
    simp only [laws_wList.l0]; rw [if_neg (by omega)]
  | succ n ih =>
    intro i hn hi
    have hlt : i < l.length := by omega
    refine Ev.step (f := fun k => laws_wList.l0 k l l ((i + 1 : Nat) : Int)) (fun k => ?_) (ih (i + 1) (by omega) (by omega))
    simp only [laws_wList.l0]
    rw [if_pos (by omega), if_pos (by omega), if_pos (by omega), if_pos trivial, wsucc hlt hl]
theorem wL_ev (l : List ByteArray) (hl : l.length ≤ 140737488351232) : Ev (fun k => laws_wList.f k l l) true :=
  Ev.pos rfl (wL_loop l hl (l.length - 0) 0 rfl (by omega))
/-! ### the draws -/
def okL (r : List ByteArray × List ByteArray × Int) (p n : Int) : Prop := r.1.length ≤ 10000 ∧ r.2.1.length ≤ 10000 ∧ p ≤ r.2.2 ∧ r.2.2 ≤ p + n
theorem l2_fill (b : List Int) (x : Int) (hx : x ≤ 5000) (p : Int) (s2 : List ByteArray) (h2 : s2.length ≤ 100) (m : Nat) : ∀ s1 : List ByteArray, (x - (s1.length : Int) - (s2.length : Int)).toNat = m → s1.length ≤ 5100 →
    EP (fun k => spec_l2Draw.l2 k x b p s1 s2) (fun r => okL r p 0) := by
  induction m with
  | zero =>
    intro s1 hm h1
    have hw : wrap64 ((s1.length : Int) + (s2.length : Int)) = (s1.length : Int) + (s2.length : Int) := w64_small (by omega) (by omega)
    exact EP.step (f := fun _ => some (s1, s2, p)) (fun k => by simp only [spec_l2Draw.l2, hw]; rw [if_neg (by omega)]) (EP.ret ⟨by show s1.length ≤ _; omega, by show s2.length ≤ _; omega, Int.le_refl _, by show p ≤ p + 0; omega⟩)
  | succ m ih =>
    intro s1 hm h1
    have hw : wrap64 ((s1.length : Int) + (s2.length : Int)) = (s1.length : Int) + (s2.length : Int) := w64_small (by omega) (by omega)
    refine EP.step (fun k => by simp only [spec_l2Draw.l2, hw]; rw [if_pos (by omega)]) ?_
    exact EP.pos (by omega) (ih _ (by simp; omega) (by simp; omega))
theorem l2_j2 (b : List Int) (hb : okB b) (x p : Int) (hp : 0 ≤ p) (hp2 : p ≤ 1000000) (s1 s2 : List ByteArray) (h1 : s1.length ≤ 100) (h2 : s2.length ≤ 100) : EP (fun k => spec_l2Draw.j2 k x b p s1 s2) (fun r => okL r p 1) := by
  refine EP.step (fun k => by simp only [spec_l2Draw.j2]; rfl) ?_
  refine EP.ite (fun _ => ?_) (fun _ => EP.ret ⟨by show s1.length ≤ _; omega, by show s2.length ≤ _; omega, Int.le_refl _, by show p ≤ p + 1; omega⟩)
  refine EP.bind (pick_ep b p 3 hb hp (by omega)) (fun r hr => ?_)
  obtain ⟨y1, y2⟩ := r
  obtain ⟨h4, h5, h6⟩ := hr
  simp only at h4 h5 h6
  subst h6
  have hw : wrap64 (wrap64 (4000 + y1) - 1) = 4000 + y1 - 1 := by rw [w64_small (x := 4000 + y1) (by omega) (by omega), w64_small (by omega) (by omega)]
  simp only [hw]
  exact (l2_fill b _ (by omega) (p + 1) s2 h2 _ s1 rfl (by omega)).mono (fun r hr => ⟨hr.1, hr.2.1, by have := hr.2.2.1; omega, by have := hr.2.2.2; omega⟩)
theorem l2_loop1 (b : List Int) (hb : okB b) (s1 : List ByteArray) (h1 : s1.length ≤ 50) (m : Nat) : ∀ (x p : Int) (s2 : List ByteArray), x ≤ 10 → x.toNat = m → 0 ≤ p → p + 6 * m ≤ 900000 → s2.length + m ≤ 50 →
    EP (fun k => spec_l2Draw.l1 k x b p s1 s2) (fun r => okL r p (6 * m + 10)) := by
  induction m with
  | zero =>
    intro x p s2 hx hm hp hp2 hl
    refine EP.step (fun k => by simp only [spec_l2Draw.l1]; rw [if_neg (by omega)]) ?_
    refine EP.bind (pick_ep b p 14 hb hp (by omega)) (fun r hr => ?_)
    obtain ⟨y1, y2⟩ := r
    obtain ⟨h4, h5, h6⟩ := hr
    simp only at h4 h5 h6
    subst h6
    refine EP.ite (fun _ => ?_) (fun _ => ?_)
    · refine EP.bind (pick_ep b (p + 1) 2 hb (by omega) (by omega)) (fun r hr => ?_)
      obtain ⟨z1, z2⟩ := r
      obtain ⟨g4, g5, g6⟩ := hr
      simp only at g4 g5 g6
      subst g6
      have hw : wrap64 (5000 + z1) = (((5000 + z1).toNat : Nat) : Int) := by rw [w64_small (by omega) (by omega)]; omega
      simp only [hw]
      refine EP.bind (many_ep ⟨#[101]⟩ (5000 + z1).toNat 5001 (by omega) (by omega) (by show 1 * _ ≤ _; omega) (by decide)) (fun t ht => EP.pos (by omega) ?_)
      exact (l2_j2 b hb y1 (p + 1 + 1) (by omega) (by omega) s1 (s2 ++ [t]) (by omega) (by simp; omega)).mono (fun r hr => ⟨hr.1, hr.2.1, by have := hr.2.2.1; omega, by have := hr.2.2.2; omega⟩)
    · exact (l2_j2 b hb y1 (p + 1) (by omega) (by omega) s1 s2 (by omega) (by omega)).mono (fun r hr => ⟨hr.1, hr.2.1, by have := hr.2.2.1; omega, by have := hr.2.2.2; omega⟩)
  | succ m ih =>
    intro x p s2 hx hm hp hp2 hl
    have e : wrap64 (x - 1) = x - 1 := w64_small (by omega) (by omega)
    refine EP.step (fun k => by simp only [spec_l2Draw.l1, e]; rw [if_pos (by omega)]) ?_
    refine EP.bind (text_ep b p hb hp (by omega)) (fun r hr => EP.pos (by omega) ?_)
    obtain ⟨y1, y2⟩ := r
    obtain ⟨h4, h5, h6⟩ := hr
    simp only at h4 h5 h6
    exact (ih (x - 1) y2 (s2 ++ [y1]) (by omega) (by omega) (by omega) (by omega) (by simp; omega)).mono (fun r hr => ⟨hr.1, hr.2.1, by have := hr.2.2.1; omega, by have := hr.2.2.2; omega⟩)
theorem l2_loop0 (b : List Int) (hb : okB b) (m : Nat) : ∀ (x p : Int) (s1 : List ByteArray), x ≤ 10 → x.toNat = m → 0 ≤ p → p + 6 * m ≤ 800000 → s1.length + m ≤ 50 →
    EP (fun k => spec_l2Draw.l0 k x b p s1) (fun r => okL r p (6 * m + 100)) := by
  induction m with
  | zero =>
    intro x p s1 hx hm hp hp2 hl
    refine EP.step (fun k => by simp only [spec_l2Draw.l0]; rw [if_neg (by omega)]) ?_
    refine EP.bind (pick_ep b p 6 hb hp (by omega)) (fun r hr => ?_)
    obtain ⟨y1, y2⟩ := r
    obtain ⟨h4, h5, h6⟩ := hr
    simp only at h4 h5 h6
    subst h6
    exact (l2_loop1 b hb s1 (by omega) y1.toNat y1 (p + 1) [] (by omega) rfl (by omega) (by omega) (by simp; omega)).mono (fun r hr => ⟨hr.1, hr.2.1, by have := hr.2.2.1; omega, by have := hr.2.2.2; omega⟩)
  | succ m ih =>
    intro x p s1 hx hm hp hp2 hl
    have e : wrap64 (x - 1) = x - 1 := w64_small (by omega) (by omega)
    refine EP.step (fun k => by simp only [spec_l2Draw.l0, e]; rw [if_pos (by omega)]) ?_
    refine EP.bind (text_ep b p hb hp (by omega)) (fun r hr => EP.pos (by omega) ?_)
    obtain ⟨y1, y2⟩ := r
    obtain ⟨h4, h5, h6⟩ := hr
    simp only at h4 h5 h6
    exact (ih (x - 1) y2 (s1 ++ [y1]) (by omega) (by omega) (by omega) (by omega) (by simp; omega)).mono (fun r hr => ⟨hr.1, hr.2.1, by have := hr.2.2.1; omega, by have := hr.2.2.2; omega⟩)
theorem l2_ep (b : List Int) (hb : okB b) (p : Int) (hp : 0 ≤ p) (hp2 : p ≤ 100000) : EP (fun k => spec_l2Draw.f k b p) (fun r => okL r p 200) := by
  refine EP.bind (pick_ep b p 6 hb hp (by omega)) (fun r hr => ?_)
  obtain ⟨y1, y2⟩ := r
  obtain ⟨h4, h5, h6⟩ := hr
  simp only at h4 h5 h6
  subst h6
  exact (l2_loop0 b hb y1.toNat y1 (p + 1) [] (by omega) rfl (by omega) (by omega) (by simp; omega)).mono (fun r hr => ⟨hr.1, hr.2.1, by have := hr.2.2.1; omega, by have := hr.2.2.2; omega⟩)
theorem drawA_ep (l : List Int) (h : ∀ x ∈ l, 0 ≤ x ∧ x < 256) : EP (fun k => spec_DrawAppend.f k l) (fun r => r.1.length ≤ 10000 ∧ r.2.1.length ≤ 10000) := by
  refine EP.bind (open_ep l h) (fun r hr => ?_)
  obtain ⟨b, p⟩ := r
  obtain ⟨hb, hp⟩ := hr
  simp only at hb hp
  subst hp
  refine EP.bind (l2_ep b hb 0 (by omega) (by omega)) (fun r hr => ?_)
  obtain ⟨s1, s2, p⟩ := r
  obtain ⟨h1, h2, h3, h4⟩ := hr
  simp only at h1 h2 h3 h4
  refine EP.bind (pick_ep b p 10 hb (by omega) (by omega)) (fun r hr => ?_)
  obtain ⟨y1, y2⟩ := r
  obtain ⟨g4, g5, g6⟩ := hr
  simp only at g4 g5 g6
  subst g6
  refine EP.ite (fun _ => ?_) (fun _ => ?_)
  · refine EP.bind (pick_ep b (p + 1) 2 hb (by omega) (by omega)) (fun r hr => ?_)
    obtain ⟨z1, z2⟩ := r
    obtain ⟨k4, k5, k6⟩ := hr
    simp only at k4 k5 k6
    have hw : wrap64 (5000 + z1) = (((5000 + z1).toNat : Nat) : Int) := by rw [w64_small (by omega) (by omega)]; omega
    simp only [hw]
    exact EP.bind (many_ep ⟨#[101]⟩ (5000 + z1).toNat 5001 (by omega) (by omega) (by show 1 * _ ≤ _; omega) (by decide)) (fun t ht => EP.ret ⟨h1, h2⟩)
  · exact EP.bind (text_ep b (p + 1) hb (by omega) (by omega)) (fun r hr => EP.ret ⟨h1, h2⟩)
theorem drawC_ep (l : List Int) (h : ∀ x ∈ l, 0 ≤ x ∧ x < 256) : EP (fun k => spec_DrawCrash.f k l) (fun r => -1 ≤ r.2.2 ∧ r.2.2 ≤ 8) := by
  refine EP.bind (open_ep l h) (fun r hr => ?_)
  obtain ⟨b, p⟩ := r
  obtain ⟨hb, hp⟩ := hr
  simp only at hb hp
  subst hp
  refine EP.bind (l2_ep b hb 0 (by omega) (by omega)) (fun r hr => ?_)
  obtain ⟨s1, s2, p⟩ := r
  obtain ⟨h1, h2, h3, h4⟩ := hr
  simp only at h1 h2 h3 h4
  refine EP.bind (pick_ep b p 9 hb (by omega) (by omega)) (fun r hr => EP.ret ?_)
  obtain ⟨y1, y2⟩ := r
  obtain ⟨g4, g5, g6⟩ := hr
  simp only at g4 g5 g6
  have : wrap64 (y1 - 1) = y1 - 1 := by unfold wrap64; omega
  show -1 ≤ wrap64 (y1 - 1) ∧ wrap64 (y1 - 1) ≤ 8
  rw [this]; omega
/-! ### the law -/
theorem logB_intro {a b : List ByteArray} (ha : a.all fitB = true) (hb : b.all fitB = true) (h : a.length + b.length ≤ 4000) : logB a b = true := by
  unfold logB; rw [if_pos ha, if_pos hb]; exact decide_eq_true (by omega)
theorem logB_elim {a b : List ByteArray} (h : logB a b = true) : a.all fitB = true ∧ b.all fitB = true ∧ a.length + b.length ≤ 4000 := by
  have hl := logB_le h
  unfold logB at h
  split at h
  · rename_i ha
    split at h
    · rename_i hb; exact ⟨ha, hb, hl⟩
    · cases h
  · cases h
theorem log_tail' (a b x : List ByteArray) (n : Int) (hx : x.length ≤ 4000) (ha : a.length ≤ 4000) (hn : -1 ≤ n) (hn2 : n ≤ 8) :
    Ev (fun k => laws_FnLog.j2 k n (a ++ x) false a b a x (a ++ x.take n.toNat) []) true := by
  have hlen : (a ++ x.take n.toNat).length = a.length + min n.toNat x.length := by rw [List.length_append, List.length_take]
  have ht : (a ++ x).take (((a ++ x.take n.toNat).length : Int)).toNat = a ++ x.take n.toNat := by
    rw [Int.toNat_natCast, hlen, List.take_append, List.take_of_length_le (by omega)]
    congr 1
    rw [Nat.add_sub_cancel_left]
    rcases Nat.le_total n.toNat x.length with h | h
    · rw [Nat.min_eq_left h]
    · rw [Nat.min_eq_right h, List.take_of_length_le (Nat.le_refl _), List.take_of_length_le h]
  have hl2 : (a ++ x).length = a.length + x.length := List.length_append
  refine Ev.step (fun k => by simp only [laws_FnLog.j2]; rw [if_neg (by simp)]) ?_
  refine Ev.pos (by omega) (Ev.pos (by omega) ?_)
  rw [ht]
  refine Ev.bind (wL_ev _ (by omega)) (Ev.pos rfl (Ev.ite' (fun _ => Ev.now _) (fun h0 => Ev.ite' (fun _ => Ev.now _) (fun h1 => Ev.ret ?_))))
  rw [w64_small (by omega) (by omega), hlen, beq_iff_eq]
  omega
theorem log_pure (l : List Int) (h : ∀ x ∈ l, 0 ≤ x ∧ x < 256) : Ev (fun k => laws_FnLog.f k l) true := by
  refine Ev.ite' (fun _ => Ev.now _) (fun _ => ?_)
  obtain ⟨⟨a, b, e⟩, hA, h1, h2⟩ := drawA_ep l h
  obtain ⟨⟨a', b', n⟩, hC, hn, hn2⟩ := drawC_ep l h
  simp only at h1 h2 hn hn2
  refine Ev.bind hA (Ev.bind hC ?_)
  have ha : a.length ≤ 140737488351232 := by omega
  have hb : b.length ≤ 140737488351232 := by omega
  refine Ev.step (fun k => by simp only [laws_FnLog.j0]; rfl) ?_
  refine Ev.bind (iApp_ev a b e ha hb) (Ev.bind (sApp_ev a b e ha hb) (Ev.pos rfl ?_))
  have hlen : (appL a b e).1.length ≤ 20000 ∧ (appL a b e).2.1.length ≤ 20000 := by
    unfold appL
    split
    · split
      · split
        · exact ⟨Nat.zero_le _, Nat.zero_le _⟩
        · exact ⟨by show a.length ≤ _; omega, by show (b ++ [e]).length ≤ _; rw [List.length_append]; show b.length + 1 ≤ _; omega⟩
      · exact ⟨Nat.zero_le _, Nat.zero_le _⟩
    · exact ⟨Nat.zero_le _, Nat.zero_le _⟩
  refine Ev.bind (wL_ev _ (by omega)) (Ev.pos rfl (Ev.bind (wL_ev _ (by omega)) ?_))
  refine Ev.step (fun k => by simp only [laws_FnLog.j1]; rw [if_neg (by simp)]) ?_
  have hV : Ev (fun k => (impl_ValidLog.f k a b).bind fun t711 => (spec_ValidLog.f k a b).bind fun t712 => some (t711 == t712)) true :=
    Ev.bind (iVL_ev a b ha hb) (Ev.bind (sVL_ev a b ha hb) (Ev.ret (by simp)))
  by_cases c1 : logB a b = true
  · by_cases c2 : fitB e = true
    · by_cases c3 : (a.length : Int) + (b.length : Int) ≥ 4000
      · have ea : appL a b e = ([], [], 2) := by unfold appL; rw [if_pos c1, if_pos c2, if_pos c3]
        rw [ea]
        exact Ev.neg (by decide) hV
      · have ea : appL a b e = (a, b ++ [e], 0) := by unfold appL; rw [if_pos c1, if_pos c2, if_neg c3]
        rw [ea]
        refine Ev.pos rfl ?_
        obtain ⟨f1, f2, f3⟩ := logB_elim c1
        have hx : (b ++ [e]).length = b.length + 1 := by simp
        have fx : (b ++ [e]).all fitB = true := by rw [List.all_append, f2]; simp [c2]
        have L1 : logB a (b ++ [e]) = true := logB_intro f1 fx (by omega)
        have fa : (a ++ (b ++ [e])).all fitB = true := by rw [List.all_append, f1, fx]; rfl
        have hax : (a ++ (b ++ [e])).length = a.length + (b ++ [e]).length := List.length_append
        have L2 : logB (a ++ (b ++ [e])) [] = true := logB_intro fa rfl (by rw [hax]; show _ + 0 ≤ _; omega)
        have hy : crashL a (b ++ [e]) n = (a ++ (b ++ [e]).take n.toNat, []) := by unfold crashL; rw [if_pos L1]
        have hz : syncL a (b ++ [e]) = (a ++ (b ++ [e]), []) := by unfold syncL; rw [if_pos L1]
        have hw : crashL (a ++ (b ++ [e])) [] n = (a ++ (b ++ [e]), []) := by unfold crashL; rw [if_pos L2, List.take_nil, List.append_nil]
        have e1 := iCrash_ev a (b ++ [e]) n ha (by omega)
        rw [hy] at e1
        have e2 := iSync_ev a (b ++ [e]) ha (by omega)
        rw [hz] at e2
        have e3 := iCrash_ev (a ++ (b ++ [e])) [] n (by omega) (by show 0 ≤ _; omega)
        rw [hw] at e3
        refine Ev.bind e1 (Ev.bind e2 (Ev.bind e3 (Ev.bind (Ev.now _) (Ev.pos (by show 0 + a.length < _; omega) (Ev.bind (Ev.now _) (Ev.pos ?_ (Ev.bind (Ev.now _) ?_)))))))
        · rw [List.nil_append]; show a.length + (b ++ [e]).length < _; omega
        · simp only [List.nil_append]
          generalize b ++ [e] = x at *
          have ht : (a ++ x.take n.toNat).length = a.length + min n.toNat x.length := by rw [List.length_append, List.length_take]
          refine Ev.neg (by show ¬ wrap64 (wrap64 (((0 : Nat) : Int) + ((0 : Nat) : Int)) + ((0 : Nat) : Int)) > 0; unfold wrap64; omega) (Ev.neg (by omega) (Ev.neg (by omega) (Ev.bind (wL_ev _ (by omega)) (Ev.pos rfl (Ev.bind (wL_ev _ (by omega)) ?_)))))
          exact log_tail' a b x n (by omega) (by omega) hn hn2
    · have ea : appL a b e = ([], [], 1) := by unfold appL; rw [if_pos c1, if_neg c2]
      rw [ea]
      exact Ev.neg (by decide) hV
  · have ea : appL a b e = ([], [], 1) := by unfold appL; rw [if_neg c1]
    rw [ea]
    exact Ev.neg (by decide) hV
theorem wf_u8 {x : Int} (h : (Lit.int .u8 x).wf = true) : 0 ≤ x ∧ x < 256 := by
  simp only [Lit.wf, Bool.and_eq_true, decide_eq_true_eq] at h
  have h1 : IntKind.u8.min = 0 := rfl
  have h2 : IntKind.u8.max = 255 := rfl
  omega
theorem FnLog : laws_FnLog.Pure := fun l _ _ hw => (log_pure l (fun x hx => wf_u8 (hw x hx))).rounds
end Go.Proofs.Ytpnblgbkjbpeoaa.Q

/- The plain statement of the law of the log. -/
namespace Go.Proofs.Ytpnblgbkjbpeoaa.Pure
theorem FnLog : P.laws_FnLog.Pure := Q.FnLog
end Go.Proofs.Ytpnblgbkjbpeoaa.Pure
