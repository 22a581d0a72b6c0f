/- Part 4 of the proof of FnExactFormThingSaid: what it leans on. -/
import Derived.Test.YtpnblgbkjbpeoaaM1
import Derived.Test.YtpnblgbkjbpeoaaM2
import Derived.Test.YtpnblgbkjbpeoaaM3

/- Plain laws of sums and of things' forms: the program's and the reference's come to one function each. -/
namespace Go.Proofs.Ytpnblgbkjbpeoaa.Q
open Go.RowKit Go.Proofs.Ytpnblgbkjbpeoaa.P Go.Proofs.YtpnblgbkjbpeoaaW.PrintWords Go.Proofs.YtpnblgbkjbpeoaaW.PrintLast Go.Proofs.YtpnblgbkjbpeoaaW.PrintMore
set_option linter.unusedVariables false

/-! ### Sum -/
def hstep (h b : Int) : Int := IntKind.u64.wrap ((Go.bits .xor .u64 h (IntKind.u64.wrap b)) * 1099511628211)
def hashFrom (s : ByteArray) : Nat → Nat → Int → Int
  | 0, _, h => h
  | n + 1, i, h => hashFrom s n (i + 1) (hstep h (bt s (i : Int)))
theorem u64_wrap (x : Int) : IntKind.u64.wrap x = x % 18446744073709551616 := by
  simp [IntKind.wrap, IntKind.bits, IntKind.signed]
theorem hstep_range (h b : Int) : 0 ≤ hstep h b ∧ hstep h b < 18446744073709551616 := by
  unfold hstep; rw [u64_wrap]; omega
theorem hash_range (s : ByteArray) (n : Nat) : ∀ (i : Nat) (h : Int), 0 ≤ h → h < 18446744073709551616 → 0 ≤ hashFrom s n i h ∧ hashFrom s n i h < 18446744073709551616 := by
  induction n with
  | zero => intro i h a b; exact ⟨a, b⟩
  | succ n ih => intro i h a b; exact ih _ _ (hstep_range _ _).1 (hstep_range _ _).2
/-- The last bytes of a number, the highest first. -/
def dig (x : Int) : Nat → List Int
  | 0 => []
  | w + 1 => dig (x / 256) w ++ [x % 256]
theorem dig_length (w : Nat) : ∀ x, (dig x w).length = w := by
  induction w with
  | zero => intro x; rfl
  | succ w ih => intro x; simp [dig, ih]
def hash (s : ByteArray) : Int := hashFrom s s.size 0 14695981039346656037
def sumB (s : ByteArray) (w : Int) : ByteArray := if widB w = true then strOfNums (dig (hash s) w.toNat) else ⟨#[]⟩
theorem sSum1 (w : Int) (hw : 1 ≤ w ∧ w ≤ 8) (n : Nat) : ∀ (i : Int) (x : Int) (l : List Int), (w - i).toNat = n → 0 ≤ i → i ≤ w → l.length ≤ i.toNat → 0 ≤ x → x < 18446744073709551616 →
    Ev (fun k => spec_Sum.l1 k w x l i) (strOfNums (dig x n ++ l)) := by
  induction n with
  | zero =>
    intro i x l hn h0 h1 hl hx hx2
    refine Ev.step (f := fun _ => some (strOfNums l)) (fun k => ?_) (Ev.now _)
    simp only [spec_Sum.l1]; rw [if_neg (by omega)]
  | succ n ih =>
    intro i x l hn h0 h1 hl hx hx2
    have e1 : Int.tmod x 256 = x % 256 := Int.tmod_eq_emod_of_nonneg hx
    have e2 : Int.tdiv x 256 = x / 256 := Int.tdiv_eq_ediv_of_nonneg hx
    have e3 : IntKind.u64.wrap (x / 256) = x / 256 := by rw [u64_wrap]; omega
    have e4 : wrap64 (i + 1) = i + 1 := by unfold wrap64; omega
    have e5 : x % 256 % 256 = x % 256 := by omega
    have := ih (i + 1) (x / 256) ([x % 256] ++ l) (by omega) (by omega) (by omega) (by simp; omega) (by omega) (by omega)
    have e : dig x (n + 1) ++ l = dig (x / 256) n ++ ([x % 256] ++ l) := by simp [dig]
    rw [e]
    refine Ev.step (fun k => ?_) this
    simp only [spec_Sum.l1]; rw [if_pos (by omega)]; simp only [Option.bind_some]; rw [e1, e2, e3, e4, e5, if_pos (by simp; omega)]
theorem sSum0 (s : ByteArray) (w : Int) (hw : 1 ≤ w ∧ w ≤ 8) (hs : s.size ≤ 140737488351232) (n : Nat) : ∀ (i : Nat) (h : Int), s.size - i = n → i ≤ s.size → 0 ≤ h → h < 18446744073709551616 →
    Ev (fun k => spec_Sum.l0 k s w h (i : Int)) (strOfNums (dig (hashFrom s n i h) w.toNat)) := by
  induction n with
  | zero =>
    intro i h hn hi h0 h1
    have := sSum1 w hw w.toNat 0 h [] (by omega) (by omega) (by omega) (by simp) h0 h1
    rw [List.append_nil] at this
    refine Ev.step (fun k => ?_) this
    simp only [spec_Sum.l0]; rw [if_neg (by omega)]
  | succ n ih =>
    intro i h hn hi h0 h1
    have hr := hstep_range h (bt s (i : Int))
    refine Ev.step (fun k => ?_) (ih (i + 1) (hstep h (bt s (i : Int))) (by omega) (by omega) hr.1 hr.2)
    simp only [spec_Sum.l0]; rw [if_pos (by omega), if_pos (by omega), wsucc (show i < s.size by omega) hs]; rfl
theorem sSum_ev (s : ByteArray) (w : Int) (hs : s.size ≤ 140737488351232) : Ev (fun k => spec_Sum.f k s w) (sumB s w) := by
  unfold sumB
  by_cases c : widB w = true
  · rw [if_pos c]
    refine Ev.congr (fun k => ?_) (sSum0 s w (widB_iff.1 c) hs s.size 0 14695981039346656037 (by omega) (by omega) (by omega) (by omega))
    unfold spec_Sum.f; rw [l1W, Option.bind_some, if_pos c]; rfl
  · rw [if_neg c]
    refine Ev.congr (fun k => ?_) (Ev.now _)
    unfold spec_Sum.f; rw [l1W, Option.bind_some, if_neg c]
theorem iSum1 (n : Nat) : ∀ (x : Int) (l : List Int), n ≤ l.length → l.length ≤ 8 → 
    Ev (fun k => impl_Sum.l1 k x l ((n : Int) - 1)) (strOfNums (dig x n ++ l.drop n)) := by
  induction n with
  | zero =>
    intro x l hn hl
    refine Ev.step (f := fun _ => some (strOfNums l)) (fun k => ?_) (Ev.now _)
    simp only [impl_Sum.l1]; rw [if_neg (by omega)]
  | succ n ih =>
    intro x l hn hl
    have e1 : (((n + 1 : Nat) : Int) - 1).toNat = n := by omega
    have := ih (x / 256) (l.set n (x % 256)) (by simp; omega) (by simpa using hl)
    have e : dig x (n + 1) ++ l.drop (n + 1) = dig (x / 256) n ++ (l.set n (x % 256)).drop n := by
      have hlt : n < (l.set n (x % 256)).length := by simp; omega
      rw [List.drop_eq_getElem_cons hlt, List.getElem_set_self, List.drop_set_of_lt (by omega)]
      simp [dig]
    rw [e]
    have e4 : wrap64 (((n + 1 : Nat) : Int) - 1 - 1) = (n : Int) - 1 := by unfold wrap64; omega
    refine Ev.step (fun k => ?_) this
    simp only [impl_Sum.l1]; rw [if_pos (by omega), if_pos (by omega), if_pos (by omega), e1, e4]
theorem iSum0 (s : ByteArray) (w : Int) (hw : 1 ≤ w ∧ w ≤ 8) (hs : s.size ≤ 140737488351232) (n : Nat) : ∀ (i : Nat) (h : Int), s.size - i = n → i ≤ s.size →
    Ev (fun k => impl_Sum.l0 k s w h (s.size : Int) (i : Int)) (strOfNums (dig (hashFrom s n i h) w.toNat)) := by
  induction n with
  | zero =>
    intro i h hn hi
    have := iSum1 w.toNat h (List.replicate w.toNat 0) (by simp) (by simp; omega)
    rw [List.drop_of_length_le (by simp), List.append_nil] at this
    have e : wrap64 (w - 1) = ((w.toNat : Nat) : Int) - 1 := by unfold wrap64; omega
    refine Ev.step (fun k => ?_) this
    simp only [impl_Sum.l0]; rw [if_neg (by omega), if_pos (by omega), if_pos (by omega), e]
  | succ n ih =>
    intro i h hn hi
    refine Ev.step (fun k => ?_) (ih (i + 1) (hstep h (bt s (i : Int))) (by omega) (by omega))
    simp only [impl_Sum.l0]; rw [if_pos (by omega), if_pos (by omega), if_pos (by omega), wsucc (show i < s.size by omega) hs]; rfl
theorem iSum_ev (s : ByteArray) (w : Int) (hs : s.size ≤ 140737488351232) : Ev (fun k => impl_Sum.f k s w) (sumB s w) := by
  unfold sumB
  by_cases c : widB w = true
  · rw [if_pos c]
    refine Ev.congr (fun k => ?_) (iSum0 s w (widB_iff.1 c) hs s.size 0 14695981039346656037 (by omega) (by omega))
    unfold impl_Sum.f; rw [wOk, Option.bind_some, if_pos c]; rfl
  · rw [if_neg c]
    refine Ev.congr (fun k => ?_) (Ev.now _)
    unfold impl_Sum.f; rw [wOk, Option.bind_some, if_neg c]

/-! ### forms -/
theorem son_append (xs ys : List Int) : strOfNums (xs ++ ys) = strOfNums xs ++ strOfNums ys := by
  apply ByteArray.ext; rw [ByteArray.data_append]; simp [strOfNums]
theorem son_bytes (s : ByteArray) : strOfNums (bytesOf s) = s := by
  apply ByteArray.ext; apply Array.ext'; simp [strOfNums, bytesOf, Function.comp_def]
theorem son_size (xs : List Int) : (strOfNums xs).size = xs.length := by simp [strOfNums, ByteArray.size]
theorem bytes_length (s : ByteArray) : (bytesOf s).length = s.size := by unfold bytesOf; rw [List.length_map]; exact Array.length_toList
def catB : List ByteArray → ByteArray
  | [] => ⟨#[]⟩
  | x :: l => x ++ catB l
def headB (n : Nat) : ByteArray := strOfNums [(n : Int) % 256]
def formB (t : ByteArray) (l : List ByteArray) : ByteArray := headB l.length ++ (catB l ++ t)
theorem ba_assoc (a b c : ByteArray) : a ++ b ++ c = a ++ (b ++ c) := by apply ByteArray.ext; simp [ByteArray.data_append, Array.append_assoc]
theorem ba_nil (a : ByteArray) : (⟨#[]⟩ : ByteArray) ++ a = a := by apply ByteArray.ext; simp [ByteArray.data_append]
def szAll (l : List ByteArray) : Nat := (l.map ByteArray.size).sum
theorem catB_size (l : List ByteArray) : (catB l).size = szAll l := by
  induction l with
  | nil => rfl
  | cons x l ih => simp [catB, szAll, ByteArray.size_append, ih] at *
theorem szAll_drop (l : List ByteArray) (i : Nat) (h : i < l.length) : szAll (l.drop i) = (rdOf ByteArray.empty l (i : Int)).size + szAll (l.drop (i + 1)) := by
  rw [rd_drop ByteArray.empty l i h]; simp [szAll]
theorem iForm_loop (t : ByteArray) (l : List ByteArray) (hl : l.length ≤ 140737488351232) (n : Nat) : ∀ (i : Nat) (x : ByteArray), l.length - i = n → i ≤ l.length → x.size + szAll (l.drop i) + t.size ≤ 9223372036854775807 →
    Ev (fun k => impl_form.l0 k x l (l.length : Int) (i : Int) t l) (x ++ (catB (l.drop i) ++ t)) := by
  induction n with
  | zero =>
    intro i x hn hi hb
    rw [List.drop_of_length_le (by omega)] at hb ⊢
    simp only [catB, ba_nil]
    refine Ev.step (f := fun _ => some (x ++ t)) (fun k => ?_) (Ev.now _)
    simp only [impl_form.l0]; rw [if_neg (by omega), if_pos (by simp [szAll] at hb; omega)]
  | succ n ih =>
    intro i x hn hi hb
    have hlt : i < l.length := by omega
    rw [szAll_drop l i hlt] at hb
    have := ih (i + 1) (x ++ rdOf ByteArray.empty l (i : Int)) (by omega) (by omega) (by rw [ByteArray.size_append]; omega)
    have e : x ++ (catB (l.drop i) ++ t) = (x ++ rdOf ByteArray.empty l (i : Int)) ++ (catB (l.drop (i + 1)) ++ t) := by
      rw [rd_drop ByteArray.empty l i hlt]; simp only [catB, ba_assoc]
    rw [e]
    refine Ev.step (fun k => ?_) this
    simp only [impl_form.l0]; rw [if_pos (by omega), if_pos (by omega), if_pos (by omega), if_pos (by omega), wsucc hlt hl]
theorem iForm_ev (t : ByteArray) (l : List ByteArray) (hl : l.length ≤ 140737488351232) (hb : 1 + szAll l + t.size ≤ 9223372036854775807) : Ev (fun k => impl_form.f k t l) (formB t l) := by
  have h1 : (headB l.length).size = 1 := by unfold headB; rw [son_size]; rfl
  have := iForm_loop t l hl (l.length - 0) 0 (headB l.length) rfl (by omega) (by rw [h1, List.drop_zero]; exact hb)
  rw [List.drop_zero] at this
  exact Ev.congr (fun k => by unfold impl_form.f; rfl) this
theorem sForm_loop (t : ByteArray) (l : List ByteArray) (hl : l.length ≤ 140737488351232) (n : Nat) : ∀ (i : Nat) (x : List Int), l.length - i = n → i ≤ l.length → x.length + szAll (l.drop i) + t.size < 140737488355328 →
    Ev (fun k => spec_FormThing.l0 k x (i : Int) t l) (strOfNums x ++ (catB (l.drop i) ++ t)) := by
  induction n with
  | zero =>
    intro i x hn hi hb
    rw [List.drop_of_length_le (by omega)] at hb ⊢
    simp only [catB, ba_nil]
    refine Ev.step (f := fun _ => some (strOfNums (x ++ bytesOf t))) (fun k => ?_) (by rw [son_append, son_bytes]; exact Ev.now _)
    simp only [spec_FormThing.l0]; rw [if_neg (by omega), if_pos (by simp [szAll] at hb; omega)]
  | succ n ih =>
    intro i x hn hi hb
    have hlt : i < l.length := by omega
    rw [szAll_drop l i hlt] at hb
    have := ih (i + 1) (x ++ bytesOf (rdOf ByteArray.empty l (i : Int))) (by omega) (by omega) (by rw [List.length_append, bytes_length]; omega)
    have e : strOfNums x ++ (catB (l.drop i) ++ t) = strOfNums (x ++ bytesOf (rdOf ByteArray.empty l (i : Int))) ++ (catB (l.drop (i + 1)) ++ t) := by
      rw [rd_drop ByteArray.empty l i hlt, son_append, son_bytes]; simp only [catB, ba_assoc]
    rw [e]
    refine Ev.step (fun k => ?_) this
    simp only [spec_FormThing.l0]; rw [if_pos (by omega), if_pos (by omega), if_pos (by omega), wsucc hlt hl]
/-- What is valid is small. -/
theorem refs_sizes (w : Int) (l : List ByteArray) (n : Nat) : ∀ i, l.length - i = n → i ≤ l.length → refsFrom w l n i = true → (szAll (l.drop i) : Int) = (n : Int) * w := by
  induction n with
  | zero => intro i hn hi h; rw [List.drop_of_length_le (by omega)]; simp [szAll]
  | succ n ih =>
    intro i hn hi h
    unfold refsFrom at h
    have hlt : i < l.length := by omega
    rw [szAll_drop l i hlt]
    split at h
    · rename_i c1
      have hr : refsFrom w l n (i + 1) = true := by
        split at h
        · split at h
          · exact h
          · cases h
        · exact h
      have := ih (i + 1) (by omega) (by omega) hr
      have e : ((n + 1 : Nat) : Int) * w = w + (n : Int) * w := by rw [Int.natCast_add, Int.add_mul]; omega
      rw [e, Int.natCast_add, this, c1]
    · cases h
theorem thing_small {t : ByteArray} {l : List ByteArray} {w : Int} (h : thingB t l w = true) : szAll l ≤ 240 ∧ t.size ≤ 2000 ∧ l.length ≤ 30 := by
  obtain ⟨h1, h2, h3, h4, h5⟩ := thingB_le h
  have := refs_sizes w l l.length 0 (by omega) (by omega) h5
  rw [List.drop_zero] at this
  have : (l.length : Int) * w ≤ 30 * 8 := Int.mul_le_mul (by omega) h4 (by omega) (by omega)
  omega
def formT (t : ByteArray) (l : List ByteArray) (w : Int) : ByteArray := if thingB t l w = true then formB t l else ⟨#[]⟩
theorem sFormT_ev (t : ByteArray) (l : List ByteArray) (w : Int) (hl : l.length ≤ 140737488351232) : Ev (fun k => spec_FormThing.f k t l w) (formT t l w) := by
  refine Ev.bind (sOk_ev t l w hl) ?_
  unfold formT
  by_cases c : thingB t l w = true
  · have hs := thing_small c
    rw [if_pos c]
    have := sForm_loop t l hl (l.length - 0) 0 [(l.length : Int) % 256] rfl (by omega) (by rw [List.drop_zero]; simp; omega)
    rw [List.drop_zero] at this
    exact Ev.congr (fun k => by rw [if_pos c]; rfl) this
  · rw [if_neg c]
    exact Ev.congr (fun k => by rw [if_neg c]) (Ev.now _)
theorem iFormT_ev (t : ByteArray) (l : List ByteArray) (w : Int) (hl : l.length ≤ 140737488351232) : Ev (fun k => impl_FormThing.f k t l w) (formT t l w) := by
  refine Ev.bind (iOk_ev t l w hl) ?_
  unfold formT
  by_cases c : thingB t l w = true
  · have hs := thing_small c
    rw [if_pos c]
    refine Ev.congr (g := _) (f := fun k => (impl_form.f k t l).bind fun x => some x) (fun k => by rw [if_pos c]) ?_
    exact Ev.bind (iForm_ev t l hl (by omega)) (Ev.now _)
  · rw [if_neg c]
    exact Ev.congr (fun k => by rw [if_neg c]) (Ev.now _)
end Go.Proofs.Ytpnblgbkjbpeoaa.Q

namespace Go.Proofs.Ytpnblgbkjbpeoaa.P
open Go.RowKit Go.Proofs.YtpnblgbkjbpeoaaW.PrintWords Go.Proofs.YtpnblgbkjbpeoaaW.PrintLast Go.Proofs.YtpnblgbkjbpeoaaW.PrintMore
attribute [local go_sem] max2_int min2_int max_two min_two max_three min_three max_four min_four   -- for this text's walks alone
set_option linter.unusedVariables false
set_option linter.unusedSimpArgs false

/-! ### laws_markText: function 84 -/
def laws_markText.l0 : Nat → Int → ByteArray → Option (ByteArray)
  | 0, _, _ => none
  | k + 1, x0, x3 => if x0 > 0 then ((some (([(wrap64 (48 + (Int.tmod x0 10))) % 256] : List Int) : List Int)).bind fun y248 => (if (strOfNums y248).size + x3.size ≤ 9223372036854775807 then (laws_markText.l0 k (wrap64 (Int.tdiv x0 10)) ((strOfNums y248) ++ x3)) else (none))) else (if 1 + x3.size ≤ 9223372036854775807 then (some ((⟨#[109]⟩ : ByteArray) ++ x3)) else (none))
def laws_markText.f (k : Nat) (a0 : Int) : Option (ByteArray) := if a0 ≤ 0 then (some (⟨#[109, 48]⟩ : ByteArray)) else (laws_markText.l0 k a0 (⟨#[]⟩ : ByteArray))
theorem laws_markText.mono_l : ∀ k, (∀ y0 y1, LeO (laws_markText.l0 k y0 y1) (laws_markText.l0 (k + 1) y0 y1))
  | 0 => fun _ _ r h => by simp [laws_markText.l0] at h
  | k + 1 => by
    have ih0 := laws_markText.mono_l k
    · intro y0 y1
      unfold laws_markText.l0
      repeat' first
      | (with_reducible exact ih0 _ _)
      | (with_reducible exact LeO.refl _)
      | (with_reducible exact LeO.none _)
      | (with_reducible refine LeO.ite ?_ ?_)
      | (with_reducible refine LeO.bind ?_ (fun _ => ?_))
      | exact ih0 _ _
      | exact LeO.none _
      | refine LeO.ite ?_ ?_
      | refine LeO.bind ?_ (fun _ => ?_)
theorem laws_markText.mono : ∀ a0 k, LeO (laws_markText.f k a0) (laws_markText.f (k + 1) a0) := by
  intro a0 k
  have ih0 := laws_markText.mono_l k
  unfold laws_markText.f
  repeat' first
      | (with_reducible exact ih0 _ _)
      | (with_reducible exact LeO.refl _)
      | (with_reducible exact LeO.none _)
      | (with_reducible refine LeO.ite ?_ ?_)
      | (with_reducible refine LeO.bind ?_ (fun _ => ?_))
      | exact ih0 _ _
      | exact LeO.none _
      | refine LeO.ite ?_ ?_
      | refine LeO.bind ?_ (fun _ => ?_)
set_option maxHeartbeats 8000000 in
set_option maxRecDepth 100000 in
theorem laws_markText.calls (k : Nat) (a0 : Int) (r : ByteArray) (w : World) (h : laws_markText.f k a0 = some r) :
    Calls Try.prog 84 #[.int .i64 a0] w fun e w' => e = .returned (.string r) ∧ Below w.heap.size w w' := by
  have HB := Aside0.mk (Below.refl w.heap.size w)
  have H : (if a0 ≤ 0 then (some (⟨#[109, 48]⟩ : ByteArray)) else (laws_markText.l0 k a0 (⟨#[]⟩ : ByteArray))) = some r := h
  clear h
  by_cases c2 : a0 ≤ 0
  · rw [if_pos c2] at H
    have c2b0 : decide (a0 ≤ 0) = true := decide_eq_true c2
    clear c2
    obtain rfl := Option.some.inj H
    go_enter Try.func84, Try.ntmps84
    go_wp2
    go_ret
    exact ⟨by first | rfl | (simp [errW_none, errW_some] <;> rfl) | (simp [*, errW_none, errW_some] <;> rfl), by repeat (first | (with_reducible first | exact HB.out | apply below_alloc | apply pw_below_drewN | apply below_drew1) | exact HB.out)⟩
  · rw [if_neg c2] at H
    have c2b0 : decide (a0 ≤ 0) = false := decide_eq_false c2
    clear c2
    have H' := Aside0.mk H
    clear H
    go_enter Try.func84, Try.ntmps84
    go_wp2
    go_loopg [0, 3] k (fun kq v0 v3 w' => ∃ (x0_1 : Int) (x3_1 : ByteArray), v0 = .int .i64 x0_1 ∧ v3 = .string x3_1 ∧ Aside0 (laws_markText.l0 kq x0_1 x3_1 = some r) ∧ Aside0 (kq ≤ k) ∧ Aside0 (Below w.heap.size w w'))
    case atStart => exact ⟨(a0), ((⟨#[]⟩ : ByteArray)), (by first | rfl | (simp; done) | (simp [*]; done)), (by first | rfl | (simp; done) | (simp [*]; done)), H', ⟨Nat.le_refl _⟩, ⟨by repeat (first | (with_reducible first | exact HB.out | apply below_alloc | apply pw_below_drewN | apply below_drew1) | exact HB.out)⟩⟩
    case round =>
      clear H'
      try clear c2
      try clear c2b0
      try clear p2
      obtain ⟨x0_1, x3_1, rfl, rfl, HA, HK1, HB⟩ := hrel
      cases gk with
      | zero => exact absurd HA.out (by simp [laws_markText.l0])
      | succ k1 =>
        have H := HA.out
        clear HA
        simp only [laws_markText.l0] at H
        by_cases c3 : x0_1 > 0
        · rw [if_pos c3] at H
          have c3b0 : decide (0 < x0_1) = true := decide_eq_true c3
          clear c3
          obtain ⟨y248, hy248⟩ : ∃ y_ : List Int, y_ = (([(wrap64 (48 + (Int.tmod x0_1 10))) % 256] : List Int)) := ⟨_, rfl⟩
          replace H : (if (strOfNums y248).size + x3_1.size ≤ 9223372036854775807 then (laws_markText.l0 k1 (wrap64 (Int.tdiv x0_1 10)) ((strOfNums y248) ++ x3_1)) else (none)) = some r := by first | (rw [hy248]; with_reducible exact H) | (have H2_ := (Option.bind_some _ _).symm.trans H; rw [hy248]; with_reducible exact H2_) | (have H2_ := (Option.bind_some _ _).symm.trans H; with_reducible exact H2_) | with_reducible exact H | (rw [hy248]; exact H) | exact H
          have Ny248 := Aside0.mk hy248
          clear hy248
          by_cases c4 : (strOfNums y248).size + x3_1.size ≤ 9223372036854775807
          · rw [if_pos c4] at H
            have c4b0 := eq_true c4
            have c4b1 : decide ((strOfNums y248).size + x3_1.size ≤ 9223372036854775807) = true := decide_eq_true c4
            try have c4b2 : (9223372036854775807 < (strOfNums y248).size + x3_1.size) = False := eq_false (Nat.not_lt.2 c4)
            have H' := Aside0.mk H
            clear H
            go_wp2_with (first | ((with_reducible refine gate_dst (N := 12) rfl ?_); refine Kd.R_lit (Kd.int .u8) _ 5 ?hg (N := 12) ?hd (xs := ([(wrap64 (48 + (Int.tmod x0_1 10))) % 256] : List Int)) (inner := [.int .u8 ((wrap64 (48 + (Int.tmod x0_1 10))) % 256)]) (ok := fun _ => True) (okp := fun _ => True) ?hr ?hp (fun _ hk => hk) trivial (Below.refl _ _) (Nat.le_refl _) (by simp) ?_; (case hd => rfl); (case hg => rfl); (case hr => first | (go_simp; done) | (go_simp; rfl)); (case hp => exact (Reps.one (show Kd.M (Kd.int .u8) _ _ _ ((wrap64 (48 + (Int.tmod x0_1 10))) % 256) [.int .u8 ((wrap64 (48 + (Int.tmod x0_1 10))) % 256)] from rfl) (Reps.none _ _))); intro v249 w5 ho6 hb hg_ hnew_; clear hg_ hnew_; (first | rw [← Ny248.out] at ho6 | (simp only [Int.reduceToNat] at ho6; rw [← Ny248.out] at ho6)); have n0_ := Aside0.mk (Kd.R_lower ho6 (below_size (by repeat (first | (with_reducible first | exact HB.out | apply below_alloc | apply pw_below_drewN | apply below_drew1) | exact HB.out)))); have n1_ := Aside0.mk (below_step (by repeat (first | (with_reducible first | exact HB.out | apply below_alloc | apply pw_below_drewN | apply below_drew1) | exact HB.out)) hb); clear HB; have HO250 := n0_; have HB := n1_; clear n0_ n1_; clear hb ho6; have hcv7 := own_string (P := Try.prog) Try.underlying52 Try.underlying5 Try.underlying9 (Kd.own_of_R HO250.out)))
            go_roundg k1
            case measure => have := HK1.out; omega
            case rel => exact ⟨(wrap64 (Int.tdiv x0_1 10)), ((strOfNums y248) ++ x3_1), (by first | rfl | (simp; done) | (simp [*]; done)), (by first | rfl | (simp; done) | (simp [*]; done)), H', ⟨by have := HK1.out; omega⟩, ⟨by repeat (first | (with_reducible first | exact HB.out | apply below_alloc | apply pw_below_drewN | apply below_drew1) | exact HB.out)⟩⟩
          · rw [if_neg c4] at H
            exact absurd H (by simp)
        · rw [if_neg c3] at H
          have c3b0 : decide (0 < x0_1) = false := decide_eq_false c3
          clear c3
          by_cases c8 : 1 + x3_1.size ≤ 9223372036854775807
          · rw [if_pos c8] at H
            have c8b0 := eq_true c8
            have c8b1 : decide (1 + x3_1.size ≤ 9223372036854775807) = true := decide_eq_true c8
            try have c8b2 : (9223372036854775807 < 1 + x3_1.size) = False := eq_false (Nat.not_lt.2 c8)
            obtain rfl := Option.some.inj H
            go_wp2
            go_ret
            exact ⟨by first | rfl | (simp [errW_none, errW_some] <;> rfl) | (simp [*, errW_none, errW_some] <;> rfl), by repeat (first | (with_reducible first | exact HB.out | apply below_alloc | apply pw_below_drewN | apply below_drew1) | exact HB.out)⟩
          · rw [if_neg c8] at H
            exact absurd H (by simp)

end Go.Proofs.Ytpnblgbkjbpeoaa.P

namespace Go.Proofs.Ytpnblgbkjbpeoaa.P
open Go.RowKit Go.Proofs.YtpnblgbkjbpeoaaW.PrintWords Go.Proofs.YtpnblgbkjbpeoaaW.PrintLast Go.Proofs.YtpnblgbkjbpeoaaW.PrintMore
attribute [local go_sem] max2_int min2_int max_two min_two max_three min_three max_four min_four   -- for this text's walks alone
set_option linter.unusedVariables false
set_option linter.unusedSimpArgs false

/-! ### laws_markStringS: function 65 -/
def laws_markStringS.l0 : Nat → List ByteArray → Int → Int → Option (Int × List ByteArray)
  | 0, _, _, _ => none
  | k + 1, x0, x1, x5 => if x5 < (x0.length : Int) then ((laws_markText.f k x1).bind fun t251 => (if 0 ≤ x5 then (laws_markStringS.l0 k (x0.set (x5 : Int).toNat t251) (wrap64 (x1 + 1)) (wrap64 (x5 + 1))) else (none))) else (some (x1, x0))
def laws_markStringS.f (k : Nat) (l0 : List ByteArray) (a1 : Int) : Option (Int × List ByteArray) := laws_markStringS.l0 k l0 a1 0
theorem laws_markStringS.mono_l : ∀ k, (∀ y0 y1 y2, LeO (laws_markStringS.l0 k y0 y1 y2) (laws_markStringS.l0 (k + 1) y0 y1 y2))
  | 0 => fun _ _ _ r h => by simp [laws_markStringS.l0] at h
  | k + 1 => by
    have ih0 := laws_markStringS.mono_l k
    · intro y0 y1 y2
      unfold laws_markStringS.l0
      repeat' first
      | (with_reducible exact ih0 _ _ _)
      | (with_reducible exact laws_markText.mono _ _)
      | (with_reducible exact LeO.refl _)
      | (with_reducible exact LeO.none _)
      | (with_reducible refine LeO.ite ?_ ?_)
      | (with_reducible refine LeO.bind ?_ (fun _ => ?_))
      | exact ih0 _ _ _
      | exact laws_markText.mono _ _
      | exact LeO.none _
      | refine LeO.ite ?_ ?_
      | refine LeO.bind ?_ (fun _ => ?_)
theorem laws_markStringS.mono : ∀ a0 a1 k, LeO (laws_markStringS.f k a0 a1) (laws_markStringS.f (k + 1) a0 a1) := by
  intro a0 a1 k
  have ih0 := laws_markStringS.mono_l k
  unfold laws_markStringS.f
  repeat' first
      | (with_reducible exact ih0 _ _ _)
      | (with_reducible exact laws_markText.mono _ _)
      | (with_reducible exact LeO.refl _)
      | (with_reducible exact LeO.none _)
      | (with_reducible refine LeO.ite ?_ ?_)
      | (with_reducible refine LeO.bind ?_ (fun _ => ?_))
      | exact ih0 _ _ _
      | exact laws_markText.mono _ _
      | exact LeO.none _
      | refine LeO.ite ?_ ?_
      | refine LeO.bind ?_ (fun _ => ?_)
set_option maxHeartbeats 8000000 in
set_option maxRecDepth 100000 in
theorem laws_markStringS.calls (k : Nat) (P0_ : Nat → Prop) (u9000_ : Value) (l0 : List ByteArray) (a1 : Int) (r1 : Int) (r2 : List ByteArray) (w0 w : World) (hB : Below w0.heap.size w0 w) (ho0 : Kd.R Kd.string 9 w w0.heap.size P0_ u9000_ l0) (h : laws_markStringS.f k l0 a1 = some (r1, r2)) :
    Calls Try.prog 65 #[u9000_, .int .i64 a1] w fun e w' => e = .returned (.int .i64 r1) ∧ Kd.R Kd.string 9 w' w0.heap.size (fun k_ => (P0_ k_ ∨ w.heap.size ≤ k_)) u9000_ r2 ∧ Below w0.heap.size w0 w' ∧ Kept w w' (fun k_ => P0_ k_) := by
  have HO0 := Aside0.mk (show Kd.R Kd.string 9 w w0.heap.size (fun k_ => (P0_ k_ ∨ w.heap.size ≤ k_)) u9000_ l0 from Kd.R_mono ho0 (fun k_ hk => (.inl hk)))
  have HK := Aside0.mk (Kept.refl w (fun k_ => P0_ k_))
  have HW0 := Aside0.mk hB.size
  have HB := Aside0.mk hB
  clear hB
  have H : (laws_markStringS.l0 k l0 a1 0) = some (r1, r2) := h
  clear h
  have H' := Aside0.mk H
  clear H
  go_enter Try.func65, Try.ntmps65
  go_wp2
  go_loopg [1, 5] k (fun kq v1 v5 w' => ∃ (x0_1 : List ByteArray) (x1_1 : Int) (x5_1 : Int), v1 = .int .i64 x1_1 ∧ v5 = .int .i64 x5_1 ∧ Aside0 (laws_markStringS.l0 kq x0_1 x1_1 x5_1 = some (r1, r2)) ∧ Aside0 (kq ≤ k) ∧ Aside0 (Kd.R Kd.string 9 w' w0.heap.size (fun k_ => (P0_ k_ ∨ w.heap.size ≤ k_)) u9000_ x0_1) ∧ Aside0 (Kept w w' (fun k_ => P0_ k_)) ∧ Aside0 (Below w0.heap.size w0 w'))
  case atStart => exact ⟨(l0), (a1), (0), (by first | rfl | (simp; done) | (simp [*]; done)), (by first | rfl | (simp; done) | (simp [*]; done)), H', ⟨Nat.le_refl _⟩, ⟨by (with_reducible repeat (first | apply Kd.R_alloc | apply Kd.R_drewN | apply Kd.R_drew)); exact HO0.out⟩, ⟨by repeat (first | (with_reducible first | exact HK.out | apply Kept.alloc | apply Kept.drewN | apply Kept.drew) | exact HK.out)⟩, ⟨by repeat (first | (with_reducible first | exact HB.out | apply below_alloc | apply pw_below_drewN | apply below_drew1) | exact HB.out)⟩⟩
  case round =>
    clear H'
    try clear p2
    obtain ⟨x0_1, x1_1, x5_1, rfl, rfl, HA, HK1, HO_0, HK, HB⟩ := hrel
    cases gk with
    | zero => exact absurd HA.out (by simp [laws_markStringS.l0])
    | succ k1 =>
      have H := HA.out
      clear HA
      simp only [laws_markStringS.l0] at H
      by_cases c3 : x5_1 < (x0_1.length : Int)
      · rw [if_pos c3] at H
        have c3b0 : decide (x5_1 < (x0_1.length : Int)) = true := decide_eq_true c3
        clear c3
        replace H := Option.bind_eq_some_iff.mp H
        obtain ⟨t251, A40, H⟩ := H
        replace H : (if 0 ≤ x5_1 then (laws_markStringS.l0 k1 (x0_1.set (x5_1 : Int).toNat t251) (wrap64 (x1_1 + 1)) (wrap64 (x5_1 + 1))) else (none)) = some (r1, r2) := H
        have A4 := Aside0.mk A40
        clear A40
        by_cases c5 : 0 ≤ x5_1
        · rw [if_pos c5] at H
          have c5b0 : decide (0 ≤ x5_1) = true := decide_eq_true c5
          clear c5
          obtain ⟨y252, hy252⟩ : ∃ y_ : List ByteArray, y_ = (x0_1.set (x5_1 : Int).toNat t251) := ⟨_, rfl⟩
          replace H : (laws_markStringS.l0 k1 y252 (wrap64 (x1_1 + 1)) (wrap64 (x5_1 + 1))) = some (r1, r2) := by first | (rw [hy252]; with_reducible exact H) | (have H2_ := (Option.bind_some _ _).symm.trans H; rw [hy252]; with_reducible exact H2_) | (have H2_ := (Option.bind_some _ _).symm.trans H; with_reducible exact H2_) | with_reducible exact H | (rw [hy252]; exact H) | exact H
          have Ny252 := Aside0.mk hy252
          clear hy252
          have H' := Aside0.mk H
          clear H
          obtain ⟨Ao7, co7, eo7⟩ := Kd.R_slice HO_0.out
          subst eo7
          go_wp2_with (first | ((with_reducible refine gate_callee (f := 84) rfl ?_); refine goesL_ (some 15) rfl rfl Try.func84 (by kernel_rfl) rfl #[.int .i64 x1_1] rfl (by (try simp only [List.map_toArray, List.map_cons, List.map_nil]); first | done | rfl | (simp only [List.length_drop, List.length_take]; rfl)) ?_; (with_reducible refine (laws_markText.calls k1 x1_1 t251 _ A4.out).mono ?_); rintro e w8 ⟨rfl, hb⟩; refine ⟨_, rfl, ?_⟩; have n0_ := Aside0.mk (Kd.R_below (by (with_reducible repeat (first | apply Kd.R_alloc | apply Kd.R_drewN | apply Kd.R_drew)); exact HO_0.out) hb); have n1_ := Aside0.mk (Kept.below (S := (fun k_ => P0_ k_)) (by repeat (first | (with_reducible first | exact HK.out | apply Kept.alloc | apply Kept.drewN | apply Kept.drew) | exact HK.out)) hb); have n2_ := Aside0.mk (below_step (by repeat (first | (with_reducible first | exact HB.out | apply below_alloc | apply pw_below_drewN | apply below_drew1) | exact HB.out)) hb); clear HO_0; clear HK; clear HB; have HO_0 := n0_; have HK := n1_; have HB := n2_; clear n0_ n1_ n2_; (try clear hb); (try clear hb2); (try clear hk); (try clear hi); have p6 : 0 ≤ (x5_1 : Int) := of_decide_eq_true (by first | (with_reducible assumption) | assumption); have q6 : (x5_1 : Int) < ((x0_1.length : Int) : Int) := of_decide_eq_true (by first | (with_reducible assumption) | assumption); obtain ⟨go6, co6, eo6, gb6, gl6, cl6, HG6⟩ := Kd.R_form HO_0.out (by omega); (first | cases eo6 | (injection eo6 with ea_ en_ ec_; (first | subst ea_ | (injection ea_ with ea_; subst ea_)); subst ec_; clear en_)); have GB6 := Aside0.mk gb6; have GG6 := Aside0.mk HG6; clear gb6 gl6 HG6; have HMgo6 := Aside0.mk (show (P0_ go6 ∨ w.heap.size ≤ go6) from (HO_0.out.1 _ rfl)); obtain ⟨hx6_0, hf6_0⟩ := Kd.R_celln (⟨#[]⟩ : ByteArray) HO_0.out (x5_1 : Int) p6 q6; replace p6 := eq_true p6; replace q6 := eq_true q6; obtain ⟨hy9_, hz9_⟩ := Kd.R_celln (⟨#[]⟩ : ByteArray) HO_0.out (x5_1 : Int) (of_decide_eq_true (by first | (with_reducible assumption) | assumption)) (of_decide_eq_true (by first | (with_reducible assumption) | assumption)); have HP9 := Kd.R_putg HO_0.out (x5_1 : Int) t251) | ((with_reducible refine gate_store (t := 9) (p := 16) rfl ?_); refine store_event (t := 9) (p := 16) (v := ?vo_w10) (w1 := (w8.setCell ⟨go6, (x5_1 : Int).toNat, none⟩ (.string t251))) ?hg ?ho ?hn ?hr ?_; (case ho => rfl); (case hg => rfl); (case hn => rfl); (case hr => first | (go_simp; done) | (go_simp; rfl)); intro w10 hw; have hg : w8.grownBy w10 (some go6) := (by rw [hw]; exact HP9.2); have hp_ : Kd.R Kd.string 9 w10 w0.heap.size (fun k_ => (P0_ k_ ∨ w.heap.size ≤ k_)) (.slice (some ⟨go6, 0, none⟩) x0_1.length co7) y252 := (by rw [hw, Ny252.out]; exact HP9.1); clear HP9; have n0_ := Aside0.mk (hp_); have n1_ := Aside0.mk ((by rw [hw]; exact below_set (HB.out) GB6.out : Below w0.heap.size w0 w10)); have n2_ := Aside0.mk (Kept.of_grown (S := (fun k_ => P0_ k_)) hg (by repeat (first | (with_reducible first | exact HK.out | apply Kept.alloc | apply Kept.drewN | apply Kept.drew) | exact HK.out)) (fun k_ e_ => (HO_0.out.1 k_ e_))); clear HO_0; clear HB; clear HK; have HO_0 := n0_; have HB := n1_; have HK := n2_; clear n0_ n1_ n2_; clear hg hw hp_))
          go_roundg k1
          case measure => have := HK1.out; omega
          case rel => exact ⟨(y252), (wrap64 (x1_1 + 1)), (wrap64 (x5_1 + 1)), (by first | rfl | (simp; done) | (simp [*]; done)), (by first | rfl | (simp; done) | (simp [*]; done)), H', ⟨by have := HK1.out; omega⟩, ⟨by (with_reducible repeat (first | apply Kd.R_alloc | apply Kd.R_drewN | apply Kd.R_drew)); exact HO_0.out⟩, ⟨by repeat (first | (with_reducible first | exact HK.out | apply Kept.alloc | apply Kept.drewN | apply Kept.drew) | exact HK.out)⟩, ⟨by repeat (first | (with_reducible first | exact HB.out | apply below_alloc | apply pw_below_drewN | apply below_drew1) | exact HB.out)⟩⟩
        · rw [if_neg c5] at H
          exact absurd H (by simp)
      · rw [if_neg c3] at H
        have c3b0 : decide (x5_1 < (x0_1.length : Int)) = false := decide_eq_false c3
        clear c3
        simp only [Option.some.injEq, Prod.mk.injEq] at H
        obtain ⟨rfl, rfl⟩ := H
        obtain ⟨Ao11, co11, eo11⟩ := Kd.R_slice HO_0.out
        subst eo11
        go_wp2
        go_ret
        exact ⟨by first | rfl | (simp [errW_none, errW_some] <;> rfl) | (simp [*, errW_none, errW_some] <;> rfl), by (with_reducible repeat (first | apply Kd.R_alloc | apply Kd.R_drewN | apply Kd.R_drew)); exact HO_0.out, by repeat (first | (with_reducible first | exact HB.out | apply below_alloc | apply pw_below_drewN | apply below_drew1) | exact HB.out), by repeat (first | (with_reducible first | exact HK.out | apply Kept.alloc | apply Kept.drewN | apply Kept.drew) | exact HK.out)⟩

end Go.Proofs.Ytpnblgbkjbpeoaa.P

namespace Go.Proofs.Ytpnblgbkjbpeoaa.P
open Go.RowKit Go.Proofs.YtpnblgbkjbpeoaaW.PrintWords Go.Proofs.YtpnblgbkjbpeoaaW.PrintLast Go.Proofs.YtpnblgbkjbpeoaaW.PrintMore
attribute [local go_sem] max2_int min2_int max_two min_two max_three min_three max_four min_four   -- for this text's walks alone
set_option linter.unusedVariables false
set_option linter.unusedSimpArgs false

/-! ### laws_heldStringS: function 66 -/
def laws_heldStringS.l0 : Nat → List ByteArray → Int → Int → Option (Int)
  | 0, _, _, _ => none
  | k + 1, x0, x1, x5 => if x5 < (x0.length : Int) then (if 0 ≤ x5 then ((laws_markText.f k x1).bind fun t257 => (if (rdOf ByteArray.empty x0 x5).toList = t257.toList then (laws_heldStringS.l0 k x0 (wrap64 (x1 + 1)) (wrap64 (x5 + 1))) else (some (-1)))) else (none)) else (some x1)
def laws_heldStringS.f (k : Nat) (l0 : List ByteArray) (a1 : Int) : Option (Int) := laws_heldStringS.l0 k l0 a1 0
theorem laws_heldStringS.mono_l : ∀ k, (∀ y0 y1 y2, LeO (laws_heldStringS.l0 k y0 y1 y2) (laws_heldStringS.l0 (k + 1) y0 y1 y2))
  | 0 => fun _ _ _ r h => by simp [laws_heldStringS.l0] at h
  | k + 1 => by
    have ih0 := laws_heldStringS.mono_l k
    · intro y0 y1 y2
      unfold laws_heldStringS.l0
      repeat' first
      | (with_reducible exact ih0 _ _ _)
      | (with_reducible exact laws_markText.mono _ _)
      | (with_reducible exact LeO.refl _)
      | (with_reducible exact LeO.none _)
      | (with_reducible refine LeO.ite ?_ ?_)
      | (with_reducible refine LeO.bind ?_ (fun _ => ?_))
      | exact ih0 _ _ _
      | exact laws_markText.mono _ _
      | exact LeO.none _
      | refine LeO.ite ?_ ?_
      | refine LeO.bind ?_ (fun _ => ?_)
theorem laws_heldStringS.mono : ∀ a0 a1 k, LeO (laws_heldStringS.f k a0 a1) (laws_heldStringS.f (k + 1) a0 a1) := by
  intro a0 a1 k
  have ih0 := laws_heldStringS.mono_l k
  unfold laws_heldStringS.f
  repeat' first
      | (with_reducible exact ih0 _ _ _)
      | (with_reducible exact laws_markText.mono _ _)
      | (with_reducible exact LeO.refl _)
      | (with_reducible exact LeO.none _)
      | (with_reducible refine LeO.ite ?_ ?_)
      | (with_reducible refine LeO.bind ?_ (fun _ => ?_))
      | exact ih0 _ _ _
      | exact laws_markText.mono _ _
      | exact LeO.none _
      | refine LeO.ite ?_ ?_
      | refine LeO.bind ?_ (fun _ => ?_)
set_option maxHeartbeats 8000000 in
set_option maxRecDepth 100000 in
theorem laws_heldStringS.calls (k : Nat) (A0 : Option Addr) (c0 : Nat) (l0 : List ByteArray) (a1 : Int) (r : Int) (w : World) (hr0 : Kd.C Kd.string w A0 l0.length l0) (hc0 : l0.length ≤ c0) (h : laws_heldStringS.f k l0 a1 = some r) :
    Calls Try.prog 66 #[.slice A0 l0.length c0, .int .i64 a1] w fun e w' => e = .returned (.int .i64 r) ∧ Below w.heap.size w w' := by
  have HR0 := Aside0.mk hr0
  have HC0 := Aside0.mk hc0
  clear hr0 hc0
  have HB := Aside0.mk (Below.refl w.heap.size w)
  have H : (laws_heldStringS.l0 k l0 a1 0) = some r := h
  clear h
  have H' := Aside0.mk H
  clear H
  go_enter Try.func66, Try.ntmps66
  go_wp2
  go_loopg [1, 5] k (fun kq v1 v5 w' => ∃ (x1_1 : Int) (x5_1 : Int), v1 = .int .i64 x1_1 ∧ v5 = .int .i64 x5_1 ∧ Aside0 (laws_heldStringS.l0 kq l0 x1_1 x5_1 = some r) ∧ Aside0 (kq ≤ k) ∧ Aside0 (Below w.heap.size w w'))
  case atStart => exact ⟨(a1), (0), (by first | rfl | (simp; done) | (simp [*]; done)), (by first | rfl | (simp; done) | (simp [*]; done)), H', ⟨Nat.le_refl _⟩, ⟨by repeat (first | (with_reducible first | exact HB.out | apply below_alloc | apply pw_below_drewN | apply below_drew1) | exact HB.out)⟩⟩
  case round =>
    clear H'
    try clear p2
    obtain ⟨x1_1, x5_1, rfl, rfl, HA, HK1, HB⟩ := hrel
    cases gk with
    | zero => exact absurd HA.out (by simp [laws_heldStringS.l0])
    | succ k1 =>
      have H := HA.out
      clear HA
      simp only [laws_heldStringS.l0] at H
      by_cases c3 : x5_1 < (l0.length : Int)
      · rw [if_pos c3] at H
        have c3b0 : decide (x5_1 < (l0.length : Int)) = true := decide_eq_true c3
        clear c3
        by_cases c4 : 0 ≤ x5_1
        · rw [if_pos c4] at H
          have c4b0 : decide (0 ≤ x5_1) = true := decide_eq_true c4
          clear c4
          replace H := Option.bind_eq_some_iff.mp H
          obtain ⟨t257, A50, H⟩ := H
          replace H : (if (rdOf ByteArray.empty l0 x5_1).toList = t257.toList then (laws_heldStringS.l0 k1 l0 (wrap64 (x1_1 + 1)) (wrap64 (x5_1 + 1))) else (some (-1))) = some r := H
          have A5 := Aside0.mk A50
          clear A50
          by_cases c6 : (rdOf ByteArray.empty l0 x5_1).toList = t257.toList
          · rw [if_pos c6] at H
            have c6b0 : ((rdOf ByteArray.empty l0 x5_1).toList == t257.toList) = true := beq_iff_eq.mpr c6
            have c6b1 : ((rdOf ByteArray.empty l0 x5_1).toList != t257.toList) = false := bne_eq_false_iff_eq.mpr c6
            clear c6
            have H' := Aside0.mk H
            clear H
            try go_wp2
            have n0_ := Aside0.mk (below_drew1 HB.out)
            clear HB
            have HB := n0_
            clear n0_
            have p256 : 0 ≤ (x5_1 : Int) := of_decide_eq_true (by first | (with_reducible assumption) | assumption)
            have q256 : x5_1 < (l0.length : Int) := of_decide_eq_true (by first | (with_reducible assumption) | assumption)
            obtain ⟨ad256, e256, hx256_0⟩ := Kd.at_string HR0.out x5_1 p256 q256
            have hw256_0 := hx256_0
            cases e256
            try replace hx256_0 := (HB.out.cell (World.block_lt_of_cell? w _ hx256_0)).trans hx256_0
            replace p256 := eq_true p256
            replace q256 := eq_true q256
            refine start_ (n := 7) (S := fun w' => w'.cell? (ad256.add (x5_1).toNat) = some (.string (rdOf ByteArray.empty l0 x5_1))) (ds := []) #[false, false, false, false, false, false, false] (by kernel_rfl) rfl rfl (((HB.out.cell (World.block_lt_of_cell? w _ hw256_0)).trans hw256_0)) (fun hHeld => ?_)
            generalize wr.drew = w7 at HB hx256_0 hHeld ⊢
            refine pure_ (i := 0) (N := some 12) (v := ?_) (a' := ?_) #[true, false, false, false, false, false, false] rfl rfl (by kernel_rfl) (fun _ _ _ h => h) (Or.inl ⟨by rfl, ?_⟩) ?_ ?_
            rotate_left
            · intro w'
              go_simp
              with_reducible rfl
            rotate_left
            · simp only [Act.put, List.setIfInBounds_toArray, List.set_cons_zero, List.set_cons_succ, i64_w, i32_w]
              rfl
            refine pure_ (i := 1) (N := some 13) (v := ?_) (a' := ?_) #[true, true, false, false, false, false, false] rfl rfl (by kernel_rfl) (fun _ _ _ h => h) (Or.inl ⟨by rfl, ?_⟩) ?_ ?_
            rotate_left
            · intro w'
              go_simp
              with_reducible rfl
            rotate_left
            · simp only [Act.put, List.setIfInBounds_toArray, List.set_cons_zero, List.set_cons_succ, i64_w, i32_w]
              rfl
            refine pure_ (i := 2) (N := some 14) (v := ?_) (a' := ?_) #[true, true, true, false, false, false, false] rfl rfl (by kernel_rfl) (fun _ _ _ h => h) (Or.inl ⟨by rfl, ?_⟩) ?_ ?_
            rotate_left
            · intro w'
              go_simp
              with_reducible rfl
            rotate_left
            · simp only [Act.put, List.setIfInBounds_toArray, List.set_cons_zero, List.set_cons_succ, i64_w, i32_w]
              rfl
            refine pure_ (i := 4) (N := some 16) (v := ?_) (a' := ?_) #[true, true, true, false, true, false, false] rfl rfl (by kernel_rfl) (fun _ _ _ h => h) (Or.inl ⟨by rfl, ?_⟩) ?_ ?_
            rotate_left
            · intro w'
              go_simp
              with_reducible rfl
            rotate_left
            · simp only [Act.put, List.setIfInBounds_toArray, List.set_cons_zero, List.set_cons_succ, i64_w, i32_w]
              rfl
            refine take_ (i := 3) (N := some 15) (v := ?_) (a' := ?_) #[true, true, true, true, true, false, false] rfl rfl (by kernel_rfl) (fun _ _ _ h => h) (Or.inl ⟨by rfl, ?_⟩) hHeld ?_ ?_
            rotate_left
            · intro w' s0
              go_simp
              with_reducible rfl
            rotate_left
            · simp only [Act.put, List.setIfInBounds_toArray, List.set_cons_zero, List.set_cons_succ, i64_w, i32_w]
              rfl
            refine one_ (i := 5) (N := some 17) #[true, true, true, true, true, true, false] rfl rfl (by kernel_rfl) (by decide) (fun K hK => ?_)
            refine goes_ Try.func84 (by kernel_rfl) rfl #[.int .i64 x1_1] (by rfl) rfl rfl (by (try simp only [List.map_toArray, List.map_cons, List.map_nil]); first | done | rfl | (simp only [List.length_drop, List.length_take]; rfl)) ?_
            with_reducible refine (laws_markText.calls k1 x1_1 t257 _ A5.out).mono ?_
            rintro e w8 ⟨rfl, hb⟩
            refine ⟨_, rfl, ?_⟩
            have n0_ := Aside0.mk (below_step (by repeat (first | (with_reducible first | exact HB.out | apply below_alloc | apply pw_below_drewN | apply below_drew1) | exact HB.out)) hb)
            clear HB
            have HB := n0_
            clear n0_
            (try clear hb)
            (try clear hb2)
            (try clear hk)
            (try clear hi)
            refine hK.out _ _ (((HB.out.cell (World.block_lt_of_cell? w _ hw256_0)).trans hw256_0)) (fun hHeld => ?_)
            clear hK K
            refine norm_ (a' := ?_) ?_ ?_
            rotate_left
            · show Act.put _ (some 17) _ = _
              simp only [Act.put, List.setIfInBounds_toArray, List.set_cons_zero, List.set_cons_succ, i64_w, i32_w]
              rfl
            refine pure_ (i := 6) (N := some 18) (v := ?_) (a' := ?_) #[true, true, true, true, true, true, true] rfl rfl (by kernel_rfl) (fun _ _ _ h => h) (Or.inl ⟨by rfl, ?_⟩) ?_ ?_
            rotate_left
            · intro w'
              go_simp
              with_reducible rfl
            rotate_left
            · simp only [Act.put, List.setIfInBounds_toArray, List.set_cons_zero, List.set_cons_succ, i64_w, i32_w]
              rfl
            refine done_ (by kernel_rfl) ?_
            try go_wp2
            go_roundg k1
            case measure => have := HK1.out; omega
            case rel => exact ⟨(wrap64 (x1_1 + 1)), (wrap64 (x5_1 + 1)), (by first | rfl | (simp; done) | (simp [*]; done)), (by first | rfl | (simp; done) | (simp [*]; done)), H', ⟨by have := HK1.out; omega⟩, ⟨by repeat (first | (with_reducible first | exact HB.out | apply below_alloc | apply pw_below_drewN | apply below_drew1) | exact HB.out)⟩⟩
          · rw [if_neg c6] at H
            have c6b0 : ((rdOf ByteArray.empty l0 x5_1).toList == t257.toList) = false := beq_eq_false_iff_ne.mpr c6
            have c6b1 : ((rdOf ByteArray.empty l0 x5_1).toList != t257.toList) = true := bne_iff_ne.mpr c6
            obtain rfl := Option.some.inj H
            try go_wp2
            have n0_ := Aside0.mk (below_drew1 HB.out)
            clear HB
            have HB := n0_
            clear n0_
            have p256 : 0 ≤ (x5_1 : Int) := of_decide_eq_true (by first | (with_reducible assumption) | assumption)
            have q256 : x5_1 < (l0.length : Int) := of_decide_eq_true (by first | (with_reducible assumption) | assumption)
            obtain ⟨ad256, e256, hx256_0⟩ := Kd.at_string HR0.out x5_1 p256 q256
            have hw256_0 := hx256_0
            cases e256
            try replace hx256_0 := (HB.out.cell (World.block_lt_of_cell? w _ hx256_0)).trans hx256_0
            replace p256 := eq_true p256
            replace q256 := eq_true q256
            refine start_ (n := 7) (S := fun w' => w'.cell? (ad256.add (x5_1).toNat) = some (.string (rdOf ByteArray.empty l0 x5_1))) (ds := []) #[false, false, false, false, false, false, false] (by kernel_rfl) rfl rfl (((HB.out.cell (World.block_lt_of_cell? w _ hw256_0)).trans hw256_0)) (fun hHeld => ?_)
            generalize wr.drew = w9 at HB hx256_0 hHeld ⊢
            refine pure_ (i := 0) (N := some 12) (v := ?_) (a' := ?_) #[true, false, false, false, false, false, false] rfl rfl (by kernel_rfl) (fun _ _ _ h => h) (Or.inl ⟨by rfl, ?_⟩) ?_ ?_
            rotate_left
            · intro w'
              go_simp
              with_reducible rfl
            rotate_left
            · simp only [Act.put, List.setIfInBounds_toArray, List.set_cons_zero, List.set_cons_succ, i64_w, i32_w]
              rfl
            refine pure_ (i := 1) (N := some 13) (v := ?_) (a' := ?_) #[true, true, false, false, false, false, false] rfl rfl (by kernel_rfl) (fun _ _ _ h => h) (Or.inl ⟨by rfl, ?_⟩) ?_ ?_
            rotate_left
            · intro w'
              go_simp
              with_reducible rfl
            rotate_left
            · simp only [Act.put, List.setIfInBounds_toArray, List.set_cons_zero, List.set_cons_succ, i64_w, i32_w]
              rfl
            refine pure_ (i := 2) (N := some 14) (v := ?_) (a' := ?_) #[true, true, true, false, false, false, false] rfl rfl (by kernel_rfl) (fun _ _ _ h => h) (Or.inl ⟨by rfl, ?_⟩) ?_ ?_
            rotate_left
            · intro w'
              go_simp
              with_reducible rfl
            rotate_left
            · simp only [Act.put, List.setIfInBounds_toArray, List.set_cons_zero, List.set_cons_succ, i64_w, i32_w]
              rfl
            refine pure_ (i := 4) (N := some 16) (v := ?_) (a' := ?_) #[true, true, true, false, true, false, false] rfl rfl (by kernel_rfl) (fun _ _ _ h => h) (Or.inl ⟨by rfl, ?_⟩) ?_ ?_
            rotate_left
            · intro w'
              go_simp
              with_reducible rfl
            rotate_left
            · simp only [Act.put, List.setIfInBounds_toArray, List.set_cons_zero, List.set_cons_succ, i64_w, i32_w]
              rfl
            refine take_ (i := 3) (N := some 15) (v := ?_) (a' := ?_) #[true, true, true, true, true, false, false] rfl rfl (by kernel_rfl) (fun _ _ _ h => h) (Or.inl ⟨by rfl, ?_⟩) hHeld ?_ ?_
            rotate_left
            · intro w' s0
              go_simp
              with_reducible rfl
            rotate_left
            · simp only [Act.put, List.setIfInBounds_toArray, List.set_cons_zero, List.set_cons_succ, i64_w, i32_w]
              rfl
            refine one_ (i := 5) (N := some 17) #[true, true, true, true, true, true, false] rfl rfl (by kernel_rfl) (by decide) (fun K hK => ?_)
            refine goes_ Try.func84 (by kernel_rfl) rfl #[.int .i64 x1_1] (by rfl) rfl rfl (by (try simp only [List.map_toArray, List.map_cons, List.map_nil]); first | done | rfl | (simp only [List.length_drop, List.length_take]; rfl)) ?_
            with_reducible refine (laws_markText.calls k1 x1_1 t257 _ A5.out).mono ?_
            rintro e w10 ⟨rfl, hb⟩
            refine ⟨_, rfl, ?_⟩
            have n0_ := Aside0.mk (below_step (by repeat (first | (with_reducible first | exact HB.out | apply below_alloc | apply pw_below_drewN | apply below_drew1) | exact HB.out)) hb)
            clear HB
            have HB := n0_
            clear n0_
            (try clear hb)
            (try clear hb2)
            (try clear hk)
            (try clear hi)
            refine hK.out _ _ (((HB.out.cell (World.block_lt_of_cell? w _ hw256_0)).trans hw256_0)) (fun hHeld => ?_)
            clear hK K
            refine norm_ (a' := ?_) ?_ ?_
            rotate_left
            · show Act.put _ (some 17) _ = _
              simp only [Act.put, List.setIfInBounds_toArray, List.set_cons_zero, List.set_cons_succ, i64_w, i32_w]
              rfl
            refine pure_ (i := 6) (N := some 18) (v := ?_) (a' := ?_) #[true, true, true, true, true, true, true] rfl rfl (by kernel_rfl) (fun _ _ _ h => h) (Or.inl ⟨by rfl, ?_⟩) ?_ ?_
            rotate_left
            · intro w'
              go_simp
              with_reducible rfl
            rotate_left
            · simp only [Act.put, List.setIfInBounds_toArray, List.set_cons_zero, List.set_cons_succ, i64_w, i32_w]
              rfl
            refine done_ (by kernel_rfl) ?_
            try go_wp2
            go_ret
            exact ⟨by first | rfl | (simp [errW_none, errW_some] <;> rfl) | (simp [*, errW_none, errW_some] <;> rfl), by repeat (first | (with_reducible first | exact HB.out | apply below_alloc | apply pw_below_drewN | apply below_drew1) | exact HB.out)⟩
        · rw [if_neg c4] at H
          exact absurd H (by simp)
      · rw [if_neg c3] at H
        have c3b0 : decide (x5_1 < (l0.length : Int)) = false := decide_eq_false c3
        clear c3
        obtain rfl := Option.some.inj H
        go_wp2
        go_ret
        exact ⟨by first | rfl | (simp [errW_none, errW_some] <;> rfl) | (simp [*, errW_none, errW_some] <;> rfl), by repeat (first | (with_reducible first | exact HB.out | apply below_alloc | apply pw_below_drewN | apply below_drew1) | exact HB.out)⟩

end Go.Proofs.Ytpnblgbkjbpeoaa.P

/- Plain laws of the marks: what a list of texts holds behind markStringS, heldStringS finds. -/
namespace Go.Proofs.Ytpnblgbkjbpeoaa.Q
open Go.RowKit Go.Proofs.Ytpnblgbkjbpeoaa.P Go.Proofs.YtpnblgbkjbpeoaaW.PrintWords Go.Proofs.YtpnblgbkjbpeoaaW.PrintLast Go.Proofs.YtpnblgbkjbpeoaaW.PrintMore
set_option linter.unusedVariables false

theorem strOfNums_one (x : Int) : (strOfNums [x]).size = 1 := by simp [strOfNums, ByteArray.size]
theorem mt_loop (n : Nat) : ∀ (a : Int) (s : ByteArray), 0 ≤ a → a.toNat = n → (s.size : Int) + a ≤ 4503599627370496 → ∃ b, Ev (fun k => laws_markText.l0 k a s) b := by
  induction n using Nat.strongRecOn with
  | _ n ih =>
    intro a s h0 hn hb
    by_cases hp : a > 0
    · have hd : Int.tdiv a 10 = a / 10 := Int.tdiv_eq_ediv_of_nonneg h0
      have hw : wrap64 (Int.tdiv a 10) = a / 10 := by rw [hd]; unfold wrap64; omega
      have hsz : ∀ x : Int, ((strOfNums [x] ++ s).size : Int) = 1 + (s.size : Int) := fun x => by rw [ByteArray.size_append, strOfNums_one]; omega
      obtain ⟨b, hb⟩ := ih (a / 10).toNat (by omega) (a / 10) (strOfNums [(wrap64 (48 + (Int.tmod a 10))) % 256] ++ s) (by omega) rfl (by rw [hsz]; omega)
      refine ⟨b, Ev.step (f := fun k => laws_markText.l0 k (a / 10) (strOfNums [(wrap64 (48 + (Int.tmod a 10))) % 256] ++ s)) (fun k => ?_) hb⟩
      simp only [laws_markText.l0]
      rw [if_pos hp]
      simp only [Option.bind_some]
      rw [if_pos (by rw [strOfNums_one]; omega), hw]
    · refine ⟨(⟨#[109]⟩ : ByteArray) ++ s, Ev.step (f := fun _ => some ((⟨#[109]⟩ : ByteArray) ++ s)) (fun k => ?_) (Ev.now _)⟩
      simp only [laws_markText.l0]
      rw [if_neg hp, if_pos (by omega)]
theorem mt_ex (a : Int) (h : a ≤ 4503599627370496) : ∃ b, Ev (fun k => laws_markText.f k a) b := by
  by_cases hp : a ≤ 0
  · exact ⟨_, Ev.congr (fun k => by unfold laws_markText.f; rw [if_pos hp]) (Ev.now (⟨#[109, 48]⟩ : ByteArray))⟩
  · obtain ⟨b, hb⟩ := mt_loop a.toNat a (⟨#[]⟩ : ByteArray) (by omega) rfl (by have : (⟨#[]⟩ : ByteArray).size = 0 := rfl; omega)
    exact ⟨b, Ev.congr (fun k => by unfold laws_markText.f; rw [if_neg hp]) hb⟩
/-- The text of a mark. -/
noncomputable def mt (a : Int) : ByteArray := @dite _ (∃ b, Ev (fun k => laws_markText.f k a) b) (Classical.propDecidable _) (fun h => h.choose) (fun _ => ByteArray.empty)
theorem mt_ev (a : Int) (h : a ≤ 4503599627370496) : Ev (fun k => laws_markText.f k a) (mt a) := by
  unfold mt
  rw [dif_pos (mt_ex a h)]
  exact (mt_ex a h).choose_spec
/-- The marks from a on. -/
noncomputable def marks (a : Int) : Nat → List ByteArray
  | 0 => []
  | n + 1 => mt a :: marks (a + 1) n
theorem marks_length (n : Nat) : ∀ a, (marks a n).length = n := by
  induction n with
  | zero => intro a; rfl
  | succ n ih => intro a; simp [marks, ih]
theorem wadd1 {a : Int} (h0 : -9223372036854775808 ≤ a) (h : a ≤ 9223372036854775806) : wrap64 (a + 1) = a + 1 := by unfold wrap64; omega
theorem markS_loop (n : Nat) : ∀ (i : Nat) (x : List ByteArray) (a : Int), x.length ≤ 140737488351232 → x.length - i = n → i ≤ x.length → 0 ≤ a → a + (n : Int) ≤ 4503599627370496 →
    Ev (fun k => laws_markStringS.l0 k x a (i : Int)) (a + (n : Int), x.take i ++ marks a n) := by
  induction n with
  | zero =>
    intro i x a hx hn hi h0 h1
    refine Ev.step (f := fun _ => some (a, x)) (fun k => ?_) ?_
    · simp only [laws_markStringS.l0]; rw [if_neg (by omega)]
    · rw [List.take_of_length_le (by omega)]
      simp only [marks, List.append_nil]
      have e : a + ((0 : Nat) : Int) = a := by omega
      rw [e]; exact Ev.now _
  | succ n ih =>
    intro i x a hx hn hi h0 h1
    have hlt : i < x.length := by omega
    have ih2 := ih (i + 1) (x.set i (mt a)) (a + 1) (by simpa using hx) (by simp; omega) (by simp; omega) (by omega) (by omega)
    have e : ((a + 1) + (n : Int), (x.set i (mt a)).take (i + 1) ++ marks (a + 1) n) = (a + ((n + 1 : Nat) : Int), x.take i ++ marks a (n + 1)) := by
      have e1 : (a + 1) + (n : Int) = a + ((n + 1 : Nat) : Int) := by omega
      rw [e1, List.take_add_one, List.take_set_of_le (by omega), List.getElem?_set_self (by omega)]
      simp [marks]
    rw [e] at ih2
    refine Ev.step (f := fun k => (laws_markText.f k a).bind fun t => if 0 ≤ (i : Int) then laws_markStringS.l0 k (x.set ((i : Int)).toNat t) (wrap64 (a + 1)) (wrap64 ((i : Int) + 1)) else none) (fun k => ?_) (Ev.bind (mt_ev a (by omega)) (Ev.congr (fun k => ?_) ih2))
    · simp only [laws_markStringS.l0]; rw [if_pos (by omega)]
    · rw [if_pos (by omega), wsucc hlt hx, wadd1 (by omega) (by omega), Int.toNat_natCast]
theorem markS_ev (x : List ByteArray) (a : Int) (hx : x.length ≤ 140737488351232) (h0 : 0 ≤ a) (h1 : a + (x.length : Int) ≤ 4503599627370496) : Ev (fun k => laws_markStringS.f k x a) (a + (x.length : Int), marks a x.length) := by
  have := markS_loop x.length 0 x a hx (by omega) (by omega) h0 h1
  simp only [List.take_zero, List.nil_append] at this
  exact Ev.congr (fun k => by unfold laws_markStringS.f; rfl) this
theorem heldS_loop (x : List ByteArray) (hx : x.length ≤ 140737488351232) (n : Nat) : ∀ (i : Nat) (a : Int), x.length - i = n → i ≤ x.length → 0 ≤ a → a + (n : Int) ≤ 4503599627370496 → x.drop i = marks a n →
    Ev (fun k => laws_heldStringS.l0 k x a (i : Int)) (a + (n : Int)) := by
  induction n with
  | zero =>
    intro i a hn hi h0 h1 hd
    have e : a + ((0 : Nat) : Int) = a := by omega
    rw [e]
    refine Ev.step (f := fun _ => some a) (fun k => ?_) (Ev.now _)
    simp only [laws_heldStringS.l0]; rw [if_neg (by omega)]
  | succ n ih =>
    intro i a hn hi h0 h1 hd
    have hlt : i < x.length := by omega
    rw [rd_drop ByteArray.empty x i hlt] at hd
    simp only [marks, List.cons.injEq] at hd
    have ih2 := ih (i + 1) (a + 1) (by omega) (by omega) (by omega) (by omega) hd.2
    have e1 : (a + 1) + (n : Int) = a + ((n + 1 : Nat) : Int) := by omega
    rw [e1] at ih2
    refine Ev.step (f := fun k => (laws_markText.f k a).bind fun t => if (rdOf ByteArray.empty x (i : Int)).toList = t.toList then laws_heldStringS.l0 k x (wrap64 (a + 1)) (wrap64 ((i : Int) + 1)) else some (-1)) (fun k => ?_) (Ev.bind (mt_ev a (by omega)) (Ev.congr (fun k => ?_) ih2))
    · simp only [laws_heldStringS.l0]; rw [if_pos (by omega), if_pos (by omega)]
    · rw [if_pos (by rw [hd.1]), wsucc hlt hx, wadd1 (by omega) (by omega)]
theorem heldS_ev (n : Nat) (a : Int) (hn : n ≤ 140737488351232) (h0 : 0 ≤ a) (h1 : a + (n : Int) ≤ 4503599627370496) : Ev (fun k => laws_heldStringS.f k (marks a n) a) (a + (n : Int)) := by
  have := heldS_loop (marks a n) (by rw [marks_length]; exact hn) n 0 a (by rw [marks_length]; omega) (by omega) h0 h1 rfl
  exact Ev.congr (fun k => by unfold laws_heldStringS.f; rfl) this
end Go.Proofs.Ytpnblgbkjbpeoaa.Q

namespace Go.Proofs.Ytpnblgbkjbpeoaa.P
open Go.RowKit Go.Proofs.YtpnblgbkjbpeoaaW.PrintWords Go.Proofs.YtpnblgbkjbpeoaaW.PrintLast Go.Proofs.YtpnblgbkjbpeoaaW.PrintMore
attribute [local go_sem] max2_int min2_int max_two min_two max_three min_three max_four min_four   -- for this text's walks alone
set_option linter.unusedVariables false
set_option linter.unusedSimpArgs false

/-! ### laws_markThing: function 29 -/
def laws_markThing.f (k : Nat) (a0_0 : ByteArray) (l0_1 : List ByteArray) (a1 : Int) : Option (Int × List ByteArray) := (laws_markStringS.f k l0_1 a1).bind fun bt254 => (some (bt254.1, bt254.2))
theorem laws_markThing.mono : ∀ a0 a1 a2 k, LeO (laws_markThing.f k a0 a1 a2) (laws_markThing.f (k + 1) a0 a1 a2) := by
  intro a0 a1 a2 k
  unfold laws_markThing.f
  repeat' first
      | (with_reducible exact laws_markStringS.mono _ _ _)
      | (with_reducible exact LeO.refl _)
      | (with_reducible exact LeO.none _)
      | (with_reducible refine LeO.ite ?_ ?_)
      | (with_reducible refine LeO.bind ?_ (fun _ => ?_))
      | exact laws_markStringS.mono _ _ _
      | exact LeO.none _
      | refine LeO.ite ?_ ?_
      | refine LeO.bind ?_ (fun _ => ?_)
set_option maxHeartbeats 8000000 in
set_option maxRecDepth 100000 in
theorem laws_markThing.calls (k : Nat) (a0_0 : ByteArray) (P0_1_ : Nat → Prop) (u9000_ : Value) (l0_1 : List ByteArray) (a1 : Int) (r1 : Int) (r2 : List ByteArray) (w0 w : World) (hB : Below w0.heap.size w0 w) (ho0_1 : Kd.R Kd.string 9 w w0.heap.size P0_1_ u9000_ l0_1) (h : laws_markThing.f k a0_0 l0_1 a1 = some (r1, r2)) :
    Calls Try.prog 29 #[.agg #[.string a0_0, u9000_], .int .i64 a1] w fun e w' => e = .returned (.int .i64 r1) ∧ Kd.R Kd.string 9 w' w0.heap.size (fun k_ => (P0_1_ k_ ∨ w.heap.size ≤ k_)) u9000_ r2 ∧ Below w0.heap.size w0 w' ∧ Kept w w' (fun k_ => P0_1_ k_) := by
  have hu38 := Try.underlying38
  have HO0_1 := Aside0.mk (show Kd.R Kd.string 9 w w0.heap.size (fun k_ => (P0_1_ k_ ∨ w.heap.size ≤ k_)) u9000_ l0_1 from Kd.R_mono ho0_1 (fun k_ hk => (.inl hk)))
  have HK := Aside0.mk (Kept.refl w (fun k_ => P0_1_ k_))
  have HW0 := Aside0.mk hB.size
  have HB := Aside0.mk hB
  clear hB
  have H : ((laws_markStringS.f k l0_1 a1).bind fun bt254 => (some (bt254.1, bt254.2))) = some (r1, r2) := h
  clear h
  replace H := Option.bind_eq_some_iff.mp H
  obtain ⟨⟨t254, t255⟩, A30, H⟩ := H
  replace H : (some (t254, t255)) = some (r1, r2) := H
  have A3 := Aside0.mk A30
  clear A30
  simp only [Option.some.injEq, Prod.mk.injEq] at H
  obtain ⟨rfl, rfl⟩ := H
  obtain ⟨Ao4, co4, eo4⟩ := Kd.R_slice HO0_1.out
  subst eo4
  go_enter Try.func29, Try.ntmps29
  go_wp2_with (first | ((with_reducible refine gate_dst (N := 2) rfl ?_); refine box_event ?hg (N := 2) ?hd (cs := #[.string a0_0, .slice Ao4 l0_1.length co4]) (t := 38) ?hr ?_; (case hd => rfl); (case hg => rfl); (case hr => first | (go_simp; done) | (go_simp; rfl)); intro gb253 hg w5 hbox hb; have n0_ := Aside0.mk (Kd.R_below (by (with_reducible repeat (first | apply Kd.R_alloc | apply Kd.R_drewN | apply Kd.R_drew)); exact HO0_1.out) hb); have n1_ := Aside0.mk (Kept.below (S := (fun k_ => P0_1_ k_)) (by repeat (first | (with_reducible first | exact HK.out | apply Kept.alloc | apply Kept.drewN | apply Kept.drew) | exact HK.out)) hb); have n2_ := Aside0.mk (below_step (by repeat (first | (with_reducible first | exact HB.out | apply below_alloc | apply pw_below_drewN | apply below_drew1) | exact HB.out)) hb); have n3_ := Aside0.mk (hbox); have n4_ := Aside0.mk ((by rw [hg]; exact (by first | exact HK.out.1 | exact (show Kept w _ (fun k_ => P0_1_ k_) from by repeat (first | (with_reducible first | exact HK.out | apply Kept.alloc | apply Kept.drewN | apply Kept.drew) | exact HK.out)).1) : w.heap.size ≤ gb253)); have n5_ := Aside0.mk ((by rw [hg]; exact (below_size (by repeat (first | (with_reducible first | exact HB.out | apply below_alloc | apply pw_below_drewN | apply below_drew1) | exact HB.out))) : w0.heap.size ≤ gb253)); clear HO0_1; clear HK; clear HB; have HO0_1 := n0_; have HK := n1_; have HB := n2_; have BK253 := n3_; have GW253 := n4_; have GE253 := n5_; clear n0_ n1_ n2_ n3_ n4_ n5_; clear hb hbox hg; have hcz6_0 : w5.cell? ⟨gb253, 0, none⟩ = some (.string a0_0) := (blk_cell BK253.out 0).trans rfl; have hcz6_1 : w5.cell? ⟨gb253, 1, none⟩ = some (.slice Ao4 l0_1.length co4) := (blk_cell BK253.out 1).trans rfl; have hfz6_0 := blk_frozen BK253.out 0; have hfz6_1 := blk_frozen BK253.out 1) | ((with_reducible refine gate_callee (f := 65) rfl ?_); refine goesL_ (some 8) rfl rfl Try.func65 (by kernel_rfl) rfl #[.slice Ao4 l0_1.length co4, .int .i64 a1] rfl (by (try simp only [List.map_toArray, List.map_cons, List.map_nil]); first | done | rfl | (simp only [List.length_drop, List.length_take]; rfl)) ?_; (with_reducible refine (laws_markStringS.calls k (fun k_ => some k_ = (.slice Ao4 l0_1.length co4 : Value).ownBlock) (.slice Ao4 l0_1.length co4) l0_1 a1 t254 t255 w0 _ ?side1 ?side2 A3.out).mono ?_); (case side1 => repeat (first | (with_reducible first | exact HB.out | apply below_alloc | apply pw_below_drewN | apply below_drew1 | refine below_set ?_ GE253.out) | exact HB.out)); (case side2 => exact Kd.R_tight rfl HO0_1.out); rintro e w7 ⟨rfl, hy0, hb, hkp⟩; refine ⟨_, rfl, ?_⟩; have n0_ := Aside0.mk (Kd.R_reok rfl hy0 (fun k_ e_ => HO0_1.out.1 k_ e_)); have n1_ := Aside0.mk (blk_kept (by (with_reducible repeat (first | refine blk_drewN ?_ _ | refine blk_drew ?_ | refine blk_alloc ?_ _)); exact BK253.out) hkp (fun hs_ => (fun e_ => (Kd.R_ne HO0_1.out BK253.out (by decide)) e_) hs_)); have n2_ := Aside0.mk (Kept.then_ (S := (fun k_ => P0_1_ k_)) (by repeat (first | (with_reducible first | exact HK.out | apply Kept.alloc | apply Kept.drewN | apply Kept.drew | refine Kept.setCell ?_ (.inr GW253.out) _) | exact HK.out)) hkp (fun k_ hs_ => (fun e_ => (HO0_1.out.1 k_ e_.symm)) hs_)); have n3_ := Aside0.mk (hb); clear HO0_1; clear BK253; clear HK; clear HB; have HO0_1 := n0_; have BK253 := n1_; have HK := n2_; have HB := n3_; clear n0_ n1_ n2_ n3_; (try clear hb); (try clear hkp); (try clear hy0)))
  go_ret
  exact ⟨by first | rfl | (simp [errW_none, errW_some] <;> rfl) | (simp [*, errW_none, errW_some] <;> rfl), by (with_reducible repeat (first | apply Kd.R_alloc | apply Kd.R_drewN | apply Kd.R_drew)); exact HO0_1.out, by repeat (first | (with_reducible first | exact HB.out | apply below_alloc | apply pw_below_drewN | apply below_drew1 | refine below_set ?_ GE253.out) | exact HB.out), by repeat (first | (with_reducible first | exact HK.out | apply Kept.alloc | apply Kept.drewN | apply Kept.drew | refine Kept.setCell ?_ (.inr GW253.out) _) | exact HK.out)⟩

end Go.Proofs.Ytpnblgbkjbpeoaa.P

namespace Go.Proofs.Ytpnblgbkjbpeoaa.P
open Go.RowKit Go.Proofs.YtpnblgbkjbpeoaaW.PrintWords Go.Proofs.YtpnblgbkjbpeoaaW.PrintLast Go.Proofs.YtpnblgbkjbpeoaaW.PrintMore
attribute [local go_sem] max2_int min2_int max_two min_two max_three min_three max_four min_four   -- for this text's walks alone
set_option linter.unusedVariables false
set_option linter.unusedSimpArgs false

/-! ### laws_heldThing: function 30 -/
def laws_heldThing.f (k : Nat) (a0_0 : ByteArray) (l0_1 : List ByteArray) (a1 : Int) : Option (Int) := (laws_heldStringS.f k l0_1 a1).bind fun t259 => (if t259 < 0 then (some (-1)) else (some t259))
theorem laws_heldThing.mono : ∀ a0 a1 a2 k, LeO (laws_heldThing.f k a0 a1 a2) (laws_heldThing.f (k + 1) a0 a1 a2) := by
  intro a0 a1 a2 k
  unfold laws_heldThing.f
  repeat' first
      | (with_reducible exact laws_heldStringS.mono _ _ _)
      | (with_reducible exact LeO.refl _)
      | (with_reducible exact LeO.none _)
      | (with_reducible refine LeO.ite ?_ ?_)
      | (with_reducible refine LeO.bind ?_ (fun _ => ?_))
      | exact laws_heldStringS.mono _ _ _
      | exact LeO.none _
      | refine LeO.ite ?_ ?_
      | refine LeO.bind ?_ (fun _ => ?_)
set_option maxHeartbeats 8000000 in
set_option maxRecDepth 100000 in
theorem laws_heldThing.calls (k : Nat) (a0_0 : ByteArray) (A0_1 : Option Addr) (c0_1 : Nat) (l0_1 : List ByteArray) (a1 : Int) (r : Int) (w : World) (hr0_1 : Kd.C Kd.string w A0_1 l0_1.length l0_1) (hc0_1 : l0_1.length ≤ c0_1) (h : laws_heldThing.f k a0_0 l0_1 a1 = some r) :
    Calls Try.prog 30 #[.agg #[.string a0_0, .slice A0_1 l0_1.length c0_1], .int .i64 a1] w fun e w' => e = .returned (.int .i64 r) ∧ Below w.heap.size w w' := by
  have hu38 := Try.underlying38
  have HR0_1 := Aside0.mk hr0_1
  have HC0_1 := Aside0.mk hc0_1
  clear hr0_1 hc0_1
  have HB := Aside0.mk (Below.refl w.heap.size w)
  have H : ((laws_heldStringS.f k l0_1 a1).bind fun t259 => (if t259 < 0 then (some (-1)) else (some t259))) = some r := h
  clear h
  replace H := Option.bind_eq_some_iff.mp H
  obtain ⟨t259, A30, H⟩ := H
  replace H : (if t259 < 0 then (some (-1)) else (some t259)) = some r := H
  have A3 := Aside0.mk A30
  clear A30
  by_cases c4 : t259 < 0
  · rw [if_pos c4] at H
    have c4b0 : decide (t259 < 0) = true := decide_eq_true c4
    clear c4
    obtain rfl := Option.some.inj H
    go_enter Try.func30, Try.ntmps30
    go_wp2_with (first | ((with_reducible refine gate_dst (N := 2) rfl ?_); refine box_event ?hg (N := 2) ?hd (cs := #[.string a0_0, .slice A0_1 l0_1.length c0_1]) (t := 38) ?hr ?_; (case hd => rfl); (case hg => rfl); (case hr => first | (go_simp; done) | (go_simp; rfl)); intro gb258 hg w5 hbox hb; have n0_ := Aside0.mk (below_step (by repeat (first | (with_reducible first | exact HB.out | apply below_alloc | apply pw_below_drewN | apply below_drew1) | exact HB.out)) hb); have n1_ := Aside0.mk (hbox); have n2_ := Aside0.mk ((by rw [hg]; exact (below_size (by repeat (first | (with_reducible first | exact HB.out | apply below_alloc | apply pw_below_drewN | apply below_drew1) | exact HB.out))) : w.heap.size ≤ gb258)); have n3_ := Aside0.mk ((by rw [hg]; exact (below_size (by repeat (first | (with_reducible first | exact HB.out | apply below_alloc | apply pw_below_drewN | apply below_drew1) | exact HB.out))) : w.heap.size ≤ gb258)); clear HB; have HB := n0_; have BK258 := n1_; have GW258 := n2_; have GE258 := n3_; clear n0_ n1_ n2_ n3_; clear hb hbox hg; have hcz6_0 : w5.cell? ⟨gb258, 0, none⟩ = some (.string a0_0) := (blk_cell BK258.out 0).trans rfl; have hcz6_1 : w5.cell? ⟨gb258, 1, none⟩ = some (.slice A0_1 l0_1.length c0_1) := (blk_cell BK258.out 1).trans rfl; have hfz6_0 := blk_frozen BK258.out 0; have hfz6_1 := blk_frozen BK258.out 1) | ((with_reducible refine gate_callee (f := 66) rfl ?_); refine goesL_ (some 8) rfl rfl Try.func66 (by kernel_rfl) rfl #[.slice A0_1 l0_1.length c0_1, .int .i64 a1] rfl (by (try simp only [List.map_toArray, List.map_cons, List.map_nil]); first | done | rfl | (simp only [List.length_drop, List.length_take]; rfl)) ?_; (with_reducible refine (laws_heldStringS.calls k _ _ l0_1 a1 t259 _ ?side1 ?side2 A3.out).mono ?_); (case side1 => repeat (first | exact (Kd.C_below HR0_1.out HB.out) | (with_reducible refine Kd.C_alloc ?_ _) | (with_reducible refine Kd.C_drewN ?_ _) | (with_reducible refine Kd.C_drew ?_))); (case side2 => exact HC0_1.out); rintro e w7 ⟨rfl, hb⟩; refine ⟨_, rfl, ?_⟩; have n0_ := Aside0.mk (blk_below (g := gb258) (o := .cells #[.string a0_0, .slice A0_1 l0_1.length c0_1] 38 (0, 0)) (by (with_reducible repeat (first | refine blk_drewN ?_ _ | refine blk_drew ?_ | refine blk_alloc ?_ _)); exact BK258.out) hb); have n1_ := Aside0.mk (below_step (by repeat (first | (with_reducible first | exact HB.out | apply below_alloc | apply pw_below_drewN | apply below_drew1 | refine below_set ?_ GE258.out) | exact HB.out)) hb); clear BK258; clear HB; have BK258 := n0_; have HB := n1_; clear n0_ n1_; (try clear hb); (try clear hb2); (try clear hk); (try clear hi)))
    go_ret
    exact ⟨by first | rfl | (simp [errW_none, errW_some] <;> rfl) | (simp [*, errW_none, errW_some] <;> rfl), by repeat (first | (with_reducible first | exact HB.out | apply below_alloc | apply pw_below_drewN | apply below_drew1 | refine below_set ?_ GE258.out) | exact HB.out)⟩
  · rw [if_neg c4] at H
    have c4b0 : decide (t259 < 0) = false := decide_eq_false c4
    clear c4
    obtain rfl := Option.some.inj H
    go_enter Try.func30, Try.ntmps30
    go_wp2_with (first | ((with_reducible refine gate_dst (N := 2) rfl ?_); refine box_event ?hg (N := 2) ?hd (cs := #[.string a0_0, .slice A0_1 l0_1.length c0_1]) (t := 38) ?hr ?_; (case hd => rfl); (case hg => rfl); (case hr => first | (go_simp; done) | (go_simp; rfl)); intro gb258 hg w8 hbox hb; have n0_ := Aside0.mk (below_step (by repeat (first | (with_reducible first | exact HB.out | apply below_alloc | apply pw_below_drewN | apply below_drew1) | exact HB.out)) hb); have n1_ := Aside0.mk (hbox); have n2_ := Aside0.mk ((by rw [hg]; exact (below_size (by repeat (first | (with_reducible first | exact HB.out | apply below_alloc | apply pw_below_drewN | apply below_drew1) | exact HB.out))) : w.heap.size ≤ gb258)); have n3_ := Aside0.mk ((by rw [hg]; exact (below_size (by repeat (first | (with_reducible first | exact HB.out | apply below_alloc | apply pw_below_drewN | apply below_drew1) | exact HB.out))) : w.heap.size ≤ gb258)); clear HB; have HB := n0_; have BK258 := n1_; have GW258 := n2_; have GE258 := n3_; clear n0_ n1_ n2_ n3_; clear hb hbox hg; have hcz9_0 : w8.cell? ⟨gb258, 0, none⟩ = some (.string a0_0) := (blk_cell BK258.out 0).trans rfl; have hcz9_1 : w8.cell? ⟨gb258, 1, none⟩ = some (.slice A0_1 l0_1.length c0_1) := (blk_cell BK258.out 1).trans rfl; have hfz9_0 := blk_frozen BK258.out 0; have hfz9_1 := blk_frozen BK258.out 1) | ((with_reducible refine gate_callee (f := 66) rfl ?_); refine goesL_ (some 8) rfl rfl Try.func66 (by kernel_rfl) rfl #[.slice A0_1 l0_1.length c0_1, .int .i64 a1] rfl (by (try simp only [List.map_toArray, List.map_cons, List.map_nil]); first | done | rfl | (simp only [List.length_drop, List.length_take]; rfl)) ?_; (with_reducible refine (laws_heldStringS.calls k _ _ l0_1 a1 t259 _ ?side1 ?side2 A3.out).mono ?_); (case side1 => repeat (first | exact (Kd.C_below HR0_1.out HB.out) | (with_reducible refine Kd.C_alloc ?_ _) | (with_reducible refine Kd.C_drewN ?_ _) | (with_reducible refine Kd.C_drew ?_))); (case side2 => exact HC0_1.out); rintro e w10 ⟨rfl, hb⟩; refine ⟨_, rfl, ?_⟩; have n0_ := Aside0.mk (blk_below (g := gb258) (o := .cells #[.string a0_0, .slice A0_1 l0_1.length c0_1] 38 (0, 0)) (by (with_reducible repeat (first | refine blk_drewN ?_ _ | refine blk_drew ?_ | refine blk_alloc ?_ _)); exact BK258.out) hb); have n1_ := Aside0.mk (below_step (by repeat (first | (with_reducible first | exact HB.out | apply below_alloc | apply pw_below_drewN | apply below_drew1 | refine below_set ?_ GE258.out) | exact HB.out)) hb); clear BK258; clear HB; have BK258 := n0_; have HB := n1_; clear n0_ n1_; (try clear hb); (try clear hb2); (try clear hk); (try clear hi)))
    go_ret
    exact ⟨by first | rfl | (simp [errW_none, errW_some] <;> rfl) | (simp [*, errW_none, errW_some] <;> rfl), by repeat (first | (with_reducible first | exact HB.out | apply below_alloc | apply pw_below_drewN | apply below_drew1 | refine below_set ?_ GE258.out) | exact HB.out)⟩

end Go.Proofs.Ytpnblgbkjbpeoaa.P

/- What the exact laws of things share. -/
namespace Go.Proofs.Ytpnblgbkjbpeoaa.Q
open Go.RowKit Go.Proofs.Ytpnblgbkjbpeoaa.P Go.Proofs.YtpnblgbkjbpeoaaW.PrintWords Go.Proofs.YtpnblgbkjbpeoaaW.PrintLast Go.Proofs.YtpnblgbkjbpeoaaW.PrintMore
set_option linter.unusedVariables false

theorem eqT_ev (t : ByteArray) (l : List ByteArray) (hl : l.length ≤ 140737488351232) : Ev (fun k => laws_eqThing.f k t l t l) true :=
  Ev.congr (fun k => by unfold laws_eqThing.f; rw [if_pos rfl]) (Ev.bind (eqS_ev l hl) (Ev.congr (fun k => if_pos rfl) (Ev.now _)))
theorem markT_ev (t : ByteArray) (x : List ByteArray) (hx : x.length ≤ 140737488351232) : Ev (fun k => laws_markThing.f k t x 1) (1 + (x.length : Int), marks 1 x.length) :=
  Ev.bind (markS_ev x 1 hx (by omega) (by omega)) (Ev.now _)
theorem heldT_ev (t : ByteArray) (n : Nat) (hn : n ≤ 140737488351232) : Ev (fun k => laws_heldThing.f k t (marks 1 n) 1) (1 + (n : Int)) :=
  Ev.bind (heldS_ev n 1 hn (by omega) (by omega)) (Ev.congr (fun k => if_neg (by omega)) (Ev.now _))
end Go.Proofs.Ytpnblgbkjbpeoaa.Q

/- The exact law of FormThing comes to true. -/
namespace Go.Proofs.Ytpnblgbkjbpeoaa.Q
open Go.RowKit Go.Proofs.Ytpnblgbkjbpeoaa.P Go.Proofs.YtpnblgbkjbpeoaaW.PrintWords Go.Proofs.YtpnblgbkjbpeoaaW.PrintLast Go.Proofs.YtpnblgbkjbpeoaaW.PrintMore
set_option linter.unusedVariables false

theorem formThing_pure (t : ByteArray) (l : List ByteArray) (w : Int) (ht : t.size ≤ 140737488351232) (hl : l.length ≤ 140737488351232) (hs : ∀ x ∈ l, x.size ≤ 140737488351232) : Ev (fun k => laws_FnExactFormThing.f k t l w) true := by
  have hw : wrap64 (1048576 - (t.size : Int)) = 1048576 - (t.size : Int) := by unfold wrap64; omega
  by_cases c : 1048576 - (t.size : Int) < 0
  · exact Ev.bind (a := -1) (Ev.congr (fun k => by unfold laws_szThing.f; rw [hw, if_pos c]) (Ev.now _)) (Ev.congr (fun k => if_pos (by omega)) (Ev.now _))
  · have e1 := szS_ev l hl hs (1048576 - (t.size : Int)) (by omega) (by omega)
    by_cases c2 : szS l (1048576 - (t.size : Int)) < 0
    · exact Ev.bind (a := -1) (Ev.congr (fun k => by unfold laws_szThing.f; rw [hw, if_neg c]) (Ev.bind e1 (Ev.congr (fun k => if_pos c2) (Ev.now _)))) (Ev.congr (fun k => if_pos (by omega)) (Ev.now _))
    · have h2 := szS_le (l := l) (a := 1048576 - (t.size : Int)) (by omega)
      have et : Ev (fun k => laws_toThing.f k t l) (t, l) := Ev.bind (toS_ev l (by omega)) (Ev.now _)
      refine Ev.bind (a := szS l (1048576 - (t.size : Int))) (Ev.congr (fun k => by unfold laws_szThing.f; rw [hw, if_neg c]) (Ev.bind e1 (Ev.congr (fun k => if_neg c2) (Ev.now _)))) (Ev.congr (fun k => if_neg c2) ?_)
      exact Ev.bind et (Ev.bind (sFormT_ev t l w hl) (Ev.bind et (Ev.bind (iFormT_ev t l w hl) (Ev.congr (fun k => if_pos rfl) (Ev.bind et (Ev.bind (eqT_ev t l hl) (Ev.congr (fun k => if_pos rfl) (Ev.now _))))))))
theorem formThing_all (t : ByteArray) (l : List ByteArray) (w : Int) (hz : ∀ n ∈ [t.size] ++ (l.length * Try.prog.bytesOf 9 :: l.flatMap fun s : ByteArray => [s.size]), n ≤ 140737488351232) : Ev (fun k => laws_FnExactFormThing.f k t l w) true :=
  have h := zS_le (P := Try.prog) (e := 9) (of_decide_eq_true (by kernel_rfl)) fun n hn => hz n (List.mem_append_right _ hn)
  formThing_pure t l w (hz _ (List.mem_append_left _ (by simp))) h.1 h.2
end Go.Proofs.Ytpnblgbkjbpeoaa.Q
