/- The reckoner: symbolic steps over the model's code, proved sound. -/
import Derived.Deep.Slices
import Derived.SizedLaws
import Derived.WideShapes
import Derived.Below
import Derived.Carry
import Derived.OpenShut
import Derived.ChangeOld
import Derived.Test.YtjbndpkledccbaaM1
import Derived.Test.YtjbndpkledccbaaM2
set_option linter.unusedSimpArgs false
set_option linter.unusedVariables false
set_option linter.unusedSectionVars false
section
namespace Go.Eng
open Go
theorem zev {n k : Nat} : (bit n).testBit k = decide (n = k) := by
  unfold bit
  rw [Nat.one_shiftLeft, Nat.testBit_two_pow]
theorem zbu {l : List Nat} {k : Nat} : (bits l).testBit k = true ↔ k ∈ l := by
  induction l with
  | nil => simp [bits]
  | cons n l ih =>
    have : bits (n :: l) = bit n ||| bits l := rfl
    rw [this, Nat.testBit_or, zev, Bool.or_eq_true, ih, decide_eq_true_eq, List.mem_cons]
    exact or_congr_left eq_comm
theorem zca {a b k : Nat} (h : a &&& b = 0) (ha : a.testBit k = true) : b.testBit k ≠ true := fun hb => by
  have : (a &&& b).testBit k = true := by rw [Nat.testBit_and, ha, hb]; rfl
  rw [h] at this; simp at this
theorem ze4 {a b : Nat} (h : a ||| b = 0) : a = 0 ∧ b = 0 := Nat.or_eq_zero_iff.1 h
def dbit (o : Oper) : Nat := match o.dst with | some d => bit d | none => 0
theorem zdo {o : Oper} {d : Nat} (h : o.dst = some d) : (dbit o).testBit d = true := by simp [dbit, h, zev]
structure Free (ops : Array Oper) (a b : OP) : Prop where
  dt : ∀ d, a.1.dst = some d → d ∉ b.1.looksAt ops
  td : ∀ d, b.1.dst = some d → d ∉ a.1.looksAt ops
  dd : ∀ d, a.1.dst = some d → b.1.dst ≠ some d
  wr : ∀ n ∈ a.2.ws.map (·.1), n ∉ b.2.ids
  rw : ∀ n ∈ b.2.ws.map (·.1), n ∉ a.2.ids
  ww : ∀ n ∈ a.2.ws.map (·.1), n ∉ b.2.ws.map (·.1)
theorem zj1 {ops : Array Oper} {a b : OP} (h : conf (logOf ops a.1 a.2) (logOf ops b.1 b.2) = false) : Free ops a b := by
  have h1 : Nat.beq ((dbit a.1 &&& (bits (b.1.looksAt ops) ||| dbit b.1)) ||| ((dbit b.1 &&& bits (a.1.looksAt ops)) ||| ((bits (a.2.ws.map (·.1)) &&& (bits b.2.ids ||| bits (b.2.ws.map (·.1)))) ||| (bits (b.2.ws.map (·.1)) &&& bits a.2.ids)))) 0 = true := by
    have : (!Nat.beq ((dbit a.1 &&& (bits (b.1.looksAt ops) ||| dbit b.1)) ||| ((dbit b.1 &&& bits (a.1.looksAt ops)) ||| ((bits (a.2.ws.map (·.1)) &&& (bits b.2.ids ||| bits (b.2.ws.map (·.1)))) ||| (bits (b.2.ws.map (·.1)) &&& bits a.2.ids)))) 0) = false := h
    simpa using this
  have h2 := zb h1
  obtain ⟨e1, h3⟩ := ze4 h2
  obtain ⟨e2, h4⟩ := ze4 h3
  obtain ⟨e3, e4⟩ := ze4 h4
  have orl : ∀ {x y k : Nat}, (x ||| y).testBit k ≠ true → x.testBit k ≠ true ∧ y.testBit k ≠ true := by
    intro x y k h
    rw [Nat.testBit_or] at h
    exact ⟨fun hx => h (by rw [hx]; rfl), fun hy => h (by rw [hy, Bool.or_true])⟩
  refine ⟨fun d hd hm => ?_, fun d hd hm => ?_, fun d hd hm => ?_, fun n hn hm => ?_, fun n hn hm => ?_, fun n hn hm => ?_⟩
  · exact (orl (zca e1 (zdo hd))).1 (zbu.2 hm)
  · exact zca e2 (zdo hd) (zbu.2 hm)
  · exact (orl (zca e1 (zdo hd))).2 (zdo hm)
  · exact (orl (zca e3 (zbu.2 hn))).1 (zbu.2 hm)
  · exact zca e4 (zbu.2 hn) (zbu.2 hm)
  · exact (orl (zca e3 (zbu.2 hn))).2 (zbu.2 hm)
theorem zfr {i : Nat} {a : Log} : ∀ {ms : List Nat} {ls : List Log}, chk1 i a ms ls = true → ∀ (k m : Nat) (b : Log), ms[k]? = some m → ls[k]? = some b → conf a b = false ∨ m.testBit i = true
  | m :: ms, b :: ls, h, k, m', b', hm, hb => by
    simp only [chk1, Bool.and_eq_true, Bool.or_eq_true, Bool.not_eq_true'] at h
    cases k with
    | zero => simp at hm hb; subst hm hb; exact h.1
    | succ k => exact zfr h.2 k m' b' (by simpa using hm) (by simpa using hb)
  | [], _, _, k, m', b', hm, hb => by simp at hm
  | _ :: _, [], _, k, m', b', hm, hb => by simp at hb
theorem zgt : ∀ {ms : List Nat} {ls : List Log} {i : Nat}, chk i ms ls = true → ∀ (j k : Nat) (a b : Log) (m : Nat), j < k → ls[j]? = some a → ls[k]? = some b → ms[k]? = some m → conf a b = false ∨ m.testBit (i + j) = true
  | m :: ms, a :: ls, i, h, j, k, a', b', m', hjk, ha, hb, hm => by
    simp only [chk, Bool.and_eq_true] at h
    cases k with
    | zero => omega
    | succ k =>
      cases j with
      | zero => simp at ha; subst ha; exact zfr h.1 k m' b' (by simpa using hm) (by simpa using hb)
      | succ j => have := zgt h.2 j k a' b' m' (by omega) (by simpa using ha) (by simpa using hb) (by simpa using hm); rw [show i + (j + 1) = i + 1 + j by omega]; exact this
  | [], _, _, _, j, k, a', b', m', hjk, ha, hb, hm => by simp at hm
  | _ :: _, [], _, _, j, k, a', b', m', hjk, ha, hb, hm => by simp at ha
section
variable {ops : Array Oper}
def Closed (ops : Array Oper) (D : Nat → Bool) : Prop := ∀ i o, ops[i]? = some o → D i = true → ∀ e ∈ o.after, Region.binds .any e = true → D e.on = true
def MOk (ops : Array Oper) (i m : Nat) : Prop := ∀ o, ops[i]? = some o → ∀ D, Closed ops D → (∀ e ∈ o.after, Region.binds .any e = true → D e.on = true) → ∀ k, m.testBit k = true → D k = true
theorem zhq : ∀ {l : List Oper} {acc : List Nat}, (masks l acc).length = l.length
  | [], _ => rfl
  | o :: r, acc => by simp [masks, zhq]
theorem zfn : ∀ {l pre : List Oper} {acc : List Nat}, ops.toList = pre ++ l → acc.length = pre.length → (∀ i m, acc[i]? = some m → MOk ops i m) → ∀ i m, (masks l acc)[i]? = some m → MOk ops (pre.length + i) m
  | [], pre, acc, _, _, _, i, m, hm => by simp [masks] at hm
  | o :: r, pre, acc, he, hl, ha, i, m, hm => by
    simp only [masks] at hm
    have hnow : MOk ops pre.length (o.after.toList.foldr (fun e m => cond (Region.binds .any e) (bit e.on ||| (acc.getD e.on 0 ||| m)) m) 0) := by
      intro o' ho' D hD hall k hk
      have : o' = o := by
        rw [← Array.getElem?_toList, he] at ho'; simp at ho'; exact ho'.symm
      subst this
      have key : ∀ es : List Edge, (∀ e ∈ es, Region.binds .any e = true → D e.on = true) → (es.foldr (fun e m => cond (Region.binds .any e) (bit e.on ||| (acc.getD e.on 0 ||| m)) m) 0).testBit k = true → D k = true := by
        intro es
        induction es with
        | nil => intro _ h; simp at h
        | cons e es ih =>
          intro hes h
          simp only [List.foldr_cons] at h
          cases hb : Region.binds .any e
          · rw [hb] at h; exact ih (fun e' he' => hes e' (by simp [he'])) h
          · rw [hb] at h
            simp only [cond_true, Nat.testBit_or, Bool.or_eq_true, zev, decide_eq_true_eq] at h
            have hon := hes e (by simp) hb
            rcases h with h | h | h
            · rw [← h]; exact hon
            · rw [List.getD_eq_getElem?_getD] at h
              cases hx : acc[e.on]? with
              | none => rw [hx] at h; simp at h
              | some m' =>
                rw [hx] at h
                simp at h
                have hlt : e.on < pre.length := by rw [← hl]; exact (List.getElem?_eq_some_iff.1 hx).1
                have ho : ops[e.on]? = some pre[e.on] := by
                  rw [← Array.getElem?_toList, he, List.getElem?_append_left hlt]; exact List.getElem?_eq_getElem hlt
                exact ha e.on m' hx _ ho D hD (fun e' he' hb' => hD e.on _ ho hon e' he' hb') k h
            · exact ih (fun e' he' => hes e' (by simp [he'])) h
      exact key _ (fun e he => hall e (Array.mem_def.2 he)) hk
    cases i with
    | zero => rw [List.getElem?_cons_zero] at hm; cases hm; exact hnow
    | succ i =>
      have := zfn (l := r) (pre := pre ++ [o]) (acc := acc ++ [_]) (by rw [he]; simp) (by simp [hl]) (fun i' m' hm' => ?_) i m (by rw [List.getElem?_cons_succ] at hm; exact hm)
      · rw [List.length_append, List.length_singleton, show pre.length + 1 + i = pre.length + (i + 1) by omega] at this; exact this
      · rcases Nat.lt_or_ge i' acc.length with hlt | hge
        · rw [List.getElem?_append_left hlt] at hm'; exact ha i' m' hm'
        · rw [List.getElem?_append_right hge] at hm'
          have h0 : i' - acc.length = 0 := by have := (List.getElem?_eq_some_iff.1 hm').1; simp at this; omega
          rw [h0] at hm'
          cases hm'
          rw [show i' = pre.length by omega]; exact hnow
theorem zgr : ∀ {l : List Oper} {i : Nat}, backw i l = true → ∀ k o, l[k]? = some o → ∀ e ∈ o.after, Region.binds .any e = true → e.on < i + k
  | o :: r, i, h, k, o', ho, e, he, hb => by
    simp only [backw, Bool.and_eq_true, List.all_eq_true, Bool.or_eq_true, Bool.not_eq_true'] at h
    cases k with
    | zero =>
      simp at ho; subst ho
      have := h.1 e (Array.mem_def.1 he)
      rw [hb] at this
      have := Nat.le_of_ble_eq_true (this.resolve_left (by simp))
      omega
    | succ k => have := zgr h.2 k o' (by simpa using ho) e he hb; omega
  | [], i, _, k, o', ho, e, he, hb => by simp at ho
def cnt (listed : Array Bool) (n : Nat) : Nat := ((List.range n).filter fun i => !listed.getD i true).length
theorem zf0 {α : Type} {p q : α → Bool} : ∀ {l : List α}, (∀ x, q x = true → p x = true) → ∀ {x : α}, x ∈ l → p x = true → q x = false → (l.filter q).length < (l.filter p).length
  | [], _, x, hx, _, _ => by simp at hx
  | y :: l, h, x, hx, hp, hq => by
    have mono : (l.filter q).length ≤ (l.filter p).length := by
      clear hx
      induction l with
      | nil => simp
      | cons z l ih =>
        simp only [List.filter_cons]
        cases hqz : q z
        · cases hpz : p z <;> simp <;> omega
        · rw [h z hqz]; simp; exact ih
    rcases List.mem_cons.1 hx with rfl | hx
    · simp only [List.filter_cons, hp, hq]; simp; omega
    · have := zf0 h hx hp hq
      simp only [List.filter_cons]
      cases hqy : q y
      · cases hpy : p y <;> simp <;> omega
      · rw [h y hqy]; simp; exact this
theorem zfk {listed : Array Bool} {n i : Nat} (hi : i < n) (hs : i < listed.size) (h : listed.getD i true = false) : cnt (listed.setIfInBounds i true) n < cnt listed n := by
  refine zf0 (x := i) (fun k hk => ?_) (List.mem_range.2 hi) (by rw [h]; rfl) ?_
  · by_cases e : i = k
    · subst e; rw [h]; rfl
    · rw [getD_set_ne true e] at hk; exact hk
  · simp [hs]
end
section
variable {P : Program} {Γ : List Sig} {ops : Array Oper}
theorem zjr (hΓ : Known P Γ) {K : Kx} {nt : Nat} (hd : ∀ o ∈ ops.toList, ∀ d, o.dst = some d → d < nt) {s s' : Sx} {ps : List Pa} (hr : Runs P Γ ops ops.toList s ps s') (hf : s.free) (hb : backw 0 ops.toList = true)
    (hc : chk 0 (masks ops.toList []) (List.zipWith (logOf ops) ops.toList ps) = true) {Q : Exit → Act → World → Prop} {X0 : Cx} {w0 : World} (H0 : Heap P K X0) (hQ : ∀ a' w' X', Rep P K nt s'.t X' a' w' → X'.ob = s'.ob → Stp P K X0 w0 X' w' → Q .normal a' w') :
    ∀ (fuel : Nat) (listed : Array Bool) (X : Cx) (a : Act) (w : World), listed.size = ops.size → cnt listed ops.size ≤ fuel → Closed ops (fun k => listed.getD k false) →
      X.ob = (foldD (fun k => listed.getD k false) 0 (ops.toList.zip ps) s).ob → Rep P K nt (foldD (fun k => listed.getD k false) 0 (ops.toList.zip ps) s).t X a w → Stp P K X0 w0 X w → wpAny P .any ops Q fuel listed a w := by
  obtain ⟨hend, hfst, hat⟩ := hr.at_ hf 0
  have hlenL : (ops.toList.zip ps).length = ops.size := by
    have := congrArg List.length hfst
    simpa using this
  have hop : ∀ {i : Nat} {x : OP}, (ops.toList.zip ps)[i]? = some x → ops[i]? = some x.1 := by
    intro i x hx
    have : ((ops.toList.zip ps).map (·.1))[i]? = some x.1 := by rw [List.getElem?_map, hx]; rfl
    rw [hfst] at this
    rw [← Array.getElem?_toList]; exact this
  have hlog : ∀ {i : Nat} {x : OP}, (ops.toList.zip ps)[i]? = some x → (List.zipWith (logOf ops) ops.toList ps)[i]? = some (logOf ops x.1 x.2) := by
    intro i x hx
    rw [List.zip_eq_zipWith, List.getElem?_zipWith] at hx
    rw [List.getElem?_zipWith]
    cases h1 : ops.toList[i]? <;> cases h2 : ps[i]? <;> rw [h1, h2] at hx <;> simp at hx
    subst hx; rfl
  have hmask : ∀ {i : Nat}, i < ops.size → ∃ m, (masks ops.toList [])[i]? = some m ∧ MOk ops i m := by
    intro i hi
    have hl : i < (masks ops.toList []).length := by rw [zhq]; simpa using hi
    refine ⟨_, List.getElem?_eq_getElem hl, ?_⟩
    have := zfn (ops := ops) (l := ops.toList) (pre := []) (acc := []) (by simp) rfl (fun i m h => by simp at h) i _ (List.getElem?_eq_getElem hl)
    simpa using this
  have pair : ∀ {i k : Nat} {x y : OP}, i < k → (ops.toList.zip ps)[i]? = some x → (ops.toList.zip ps)[k]? = some y → ∀ D, Closed ops D → D i = false → (∀ e ∈ y.1.after, Region.binds .any e = true → D e.on = true) → Free ops x y := by
    intro i k x y hik hx hy D hD hi hk
    have hkn : k < ops.size := by rw [← hlenL]; exact (List.getElem?_eq_some_iff.1 hy).1
    obtain ⟨m, hm, hok⟩ := hmask hkn
    rcases zgt hc i k _ _ m hik (hlog hx) (hlog hy) hm with h | h
    · exact zj1 h
    · rw [Nat.zero_add] at h
      have := hok _ (hop hy) D hD hk i h
      rw [hi] at this; cases this
  have fin : ∀ (listed : Array Bool) (X : Cx) (a : Act) (w : World), listed.size = ops.size → Region.ready .any ops listed = [] → X.ob = (foldD (fun k => listed.getD k false) 0 (ops.toList.zip ps) s).ob → Rep P K nt (foldD (fun k => listed.getD k false) 0 (ops.toList.zip ps) s).t X a w → Stp P K X0 w0 X w → Q .normal a w := by
    intro listed X a w hs hready hob R S
    have all : ∀ n i, i < n → i < ops.size → listed.getD i true = true := by
      intro n
      induction n with
      | zero => intro i h; omega
      | succ n ih =>
        intro i hin hi
        rcases Nat.lt_or_ge i n with hlt | hge
        · exact ih i hlt hi
        · have hin : i = n := by omega
          subst hin
          cases hg : listed.getD i true with
          | true => rfl
          | false =>
            have : i ∈ Region.ready .any ops listed := by
              rw [mem_ready]
              refine ⟨hg, ops[i], Array.getElem?_eq_getElem hi, fun e he hbi => ?_⟩
              have hlt := zgr hb i ops[i] (by rw [Array.getElem?_toList]; exact Array.getElem?_eq_getElem hi) e he hbi
              rw [Nat.zero_add] at hlt
              have h1 := ih e.on hlt (by omega)
              have h2 : e.on < listed.size := by omega
              simp [h2] at h1 ⊢; exact h1
            rw [hready] at this; cases this
    have e : foldD (fun k => listed.getD k false) 0 (ops.toList.zip ps) s = s' := by
      rw [hend]
      refine zch fun k hk => ?_
      rw [hlenL] at hk
      have h1 := all (k + 1) k (by omega) hk
      rw [Nat.zero_add]
      have h2 : k < listed.size := by omega
      simp [h2] at h1 ⊢; exact h1
    rw [e] at hob R
    exact hQ a w X R hob S
  intro fuel
  induction fuel with
  | zero =>
    intro listed X a w hs hcnt hcl hob R S
    have hready : Region.ready .any ops listed = [] := by
      cases h : Region.ready .any ops listed with
      | nil => rfl
      | cons i r =>
        have hm : i ∈ Region.ready .any ops listed := by rw [h]; simp
        obtain ⟨h1, o, h2, _⟩ := mem_ready.1 hm
        have hi : i < ops.size := (Array.getElem?_eq_some_iff.1 h2).1
        have := zfk hi (by omega) h1
        omega
    exact ⟨hready, fin listed X a w hs hready hob R S⟩
  | succ fuel ih =>
    intro listed X a w hs hcnt hcl hob R S
    refine ⟨fun hready => fin listed X a w hs hready hob R S, fun i him => ?_⟩
    obtain ⟨h1, o, h2, hall⟩ := mem_ready.1 him
    have hi : i < ops.size := (Array.getElem?_eq_some_iff.1 h2).1
    have hin : i < (ops.toList.zip ps).length := by rw [hlenL]; exact hi
    obtain ⟨x, hx⟩ : ∃ x, (ops.toList.zip ps)[i]? = some x := ⟨_, List.getElem?_eq_getElem hin⟩
    have hxo := hop hx
    rw [h2] at hxo; cases hxo
    have hDi : listed.getD i false = false := by
      have : i < listed.size := by omega
      simp [this] at h1 ⊢; exact h1
    obtain ⟨hdid, hnid, hfree⟩ := hat i x hx
    simp only [Nat.zero_add] at hdid hnid hfree
    have other : ∀ {k : Nat} {y : OP}, (ops.toList.zip ps)[k]? = some y → Nat.blt k i ≠ listed.getD k false → Free ops y x ∨ Free ops x y := by
      intro k y hy hne
      rcases Nat.lt_trichotomy k i with hlt | heq | hgt
      · left
        have hk : listed.getD k false = false := by
          cases hk : listed.getD k false with
          | false => rfl
          | true => rw [hk, Nat.blt_eq.mpr hlt] at hne; exact absurd rfl hne
        exact pair hlt hy hx _ hcl hk hall
      · subst heq
        rw [hDi] at hne
        cases hbb : Nat.blt k k with
        | false => rw [hbb] at hne; exact absurd rfl hne
        | true => have := Nat.blt_eq.mp hbb; omega
      · right
        have hk : listed.getD k false = true := by
          cases hk : listed.getD k false with
          | true => rfl
          | false =>
            have : Nat.blt k i = false := by
              cases hbb : Nat.blt k i with
              | false => rfl
              | true => have := Nat.blt_eq.mp hbb; omega
            rw [hk, this] at hne; exact absurd rfl hne
        exact pair hgt hx hy _ hcl hDi fun e he hbi => hcl k y.1 (hop hy) hk e he hbi
    have hdst : ∀ d, x.1.dst = some d → d < nt := hd x.1 (by rw [← hfst]; exact List.mem_map.2 ⟨x, List.mem_of_getElem? hx, rfl⟩)
    have hdid' : Did P Γ ops x.1 (foldD (fun k => listed.getD k false) 0 (ops.toList.zip ps) s).t X.ob x.2 := by
      rw [hob]
      refine hdid.congr (fun n hn => ?_) fun id hid => ?_
      · refine zfy rfl fun k y hy hne hdy => ?_
        rw [Nat.zero_add] at hne
        rcases other hy hne with h | h
        · exact h.dt n hdy hn
        · exact h.td n hdy hn
      · refine zef rfl fun k y hy hne hdy => ?_
        rw [Nat.zero_add] at hne
        rcases other hy hne with h | h
        · exact h.wr id hdy hid
        · exact h.rw id hdy hid
    have hdead : ∀ k, k < x.2.nn → X.ob (x.2.nid + k) = .dead := by
      intro k hk
      have hd0 : (foldD (fun k => Nat.blt k i) 0 (ops.toList.zip ps) s).ob (x.2.nid + k) = .dead := hfree _ (by rw [hnid]; omega)
      rw [hob, ← hd0]
      refine (zef rfl fun k' y hy hne hdy => ?_).symm
      rw [Nat.zero_add] at hne
      have hnew := hdid.ws_new hk
      rcases other hy hne with h | h
      · exact h.ww _ hdy hnew
      · exact h.ww _ hnew hdy
    refine zfv hΓ h2 R hdst hdid' hdead fun a' w' X' R' hob' S' => ?_
    have hsplit : ops.toList.zip ps = (ops.toList.zip ps).take i ++ x :: (ops.toList.zip ps).drop (i + 1) := by
      obtain ⟨h, e⟩ := List.getElem?_eq_some_iff.1 hx
      rw [← e, List.getElem_cons_drop, List.take_append_drop]
    have hlen1 : ((ops.toList.zip ps).take i).length = i := by rw [List.length_take]; omega
    have hadd := zma (D := fun k => listed.getD k false) (a := x) (L1 := (ops.toList.zip ps).take i) (L2 := (ops.toList.zip ps).drop (i + 1)) (s := s) (by rw [hlen1]; exact hDi) (fun k y hy hk => by
      rw [hlen1] at hk
      rw [List.getElem?_drop] at hy
      have hfr := pair (show i < i + 1 + k by omega) hx hy _ hcl hDi fun e he hbi => hcl _ y.1 (hop hy) hk e he hbi
      exact ⟨hfr.dd, hfr.ww⟩)
    rw [hlen1, ← hsplit] at hadd
    have hD' : foldD (fun k => (listed.setIfInBounds i true).getD k false) 0 (ops.toList.zip ps) s = foldD (fun k => Nat.beq k i || listed.getD k false) 0 (ops.toList.zip ps) s := by
      refine zch fun k hk => ?_
      rw [Nat.zero_add]
      by_cases e : i = k
      · subst e
        have : i < listed.size := by omega
        simp [this]
      · rw [getD_set_ne false e, zo (Ne.symm e)]; rfl
    refine ih (listed.setIfInBounds i true) X' a' w' (by simp [hs]) ?_ ?_ ?_ ?_ (S.trans H0 S')
    · have := zfk hi (by omega) h1; omega
    · intro j oj hj hDj e he hbi
      by_cases e1 : i = j
      · subst e1
        rw [h2] at hj; cases hj
        exact getD_set_true (hall e he hbi)
      · have hDj : (listed.setIfInBounds i true).getD j false = true := hDj
        rw [getD_set_ne false e1] at hDj
        exact getD_set_true (hcl j oj hj hDj e he hbi)
    · rw [hD', hadd.2, hob', hob]; rfl
    · rw [hD', hadd.1]; exact R'
end
end Go.Eng
end
section
namespace Go.Eng
open Go
section
variable {P : Program} {Γ : List Sig} {K : Kx} {nt : Nat}
theorem ze3 {D : Nat → Bool} : ∀ {L : List OP} {j : Nat} {s : Sx}, (∀ k, D k = false) → foldD D j L s = s
  | [], _, _, _ => rfl
  | x :: L, j, s, h => by simp only [foldD, h j]; exact ze3 h
theorem zj7 {listed : Array Bool} {n : Nat} : cnt listed n ≤ n := by
  unfold cnt
  exact Nat.le_trans (List.length_filter_le _ _) (by simp)
theorem zh4 (hΓ : Known P Γ) (hm : P.follows .mixedOrders = true) {id : Nat} {ops : Array Oper} {dr : Bool} (hd : ∀ o ∈ ops.toList, ∀ d, o.dst = some d → d < nt) {σ : St} {Kc : St → Option Lv} {y : Lv} (h : region P Γ ops dr σ Kc = some y)
    {X : Cx} {a : Act} {w : World} (R : Rep P K nt σ.t X a w) (hob : X.ob = σ.o) (hf : σ.sx.free) (b : Frame) (k : List Item) (cs : List Frame) :
    ∃ σ' a' w' X', Kc σ' = some y ∧ σ'.sx.free ∧ Rep P K nt σ'.t X' a' w' ∧ X'.ob = σ'.o ∧ Stp P K X w X' w' ∧ Steps P (lone (b.at a (.code (.region id ops dr) :: k)) cs w) (lone (b.at a' k) cs w') := by
  unfold region at h
  obtain ⟨ps, σ', hr, hK⟩ := zfi h
  have hK' : Kc σ' = some y ∧ (dr = true → backw 0 ops.toList = true ∧ chk 0 (masks ops.toList []) (List.zipWith (logOf ops) ops.toList ps) = true) := by
    cases dr
    · exact ⟨hK, fun h => by cases h⟩
    · simp only [cond_true, List.append_nil, List.reverse_reverse] at hK
      cases hb : (backw 0 ops.toList && chk 0 (masks ops.toList []) (List.zipWith (logOf ops) ops.toList ps)) <;> simp only [hb, cond_false, cond_true] at hK
      · cases hK
      · simp only [Bool.and_eq_true] at hb
        exact ⟨hK, fun _ => hb⟩
  let Q : Exit → Act → World → Prop := fun e a' w' => e = .normal ∧ ∃ X', Rep P K nt σ'.t X' a' w' ∧ X'.ob = σ'.o ∧ Stp P K X w X' w'
  have hwp : (Code.region id ops dr).wp P Q a w := by
    cases dr
    · apply wp_region
      have := zfs (Q := Q) hΓ hd (l := ops.toList) (pre := []) (by simp) hr hf hob R fun a' w' X' R' h1 S' => ⟨rfl, X', R', h1, S'⟩
      rw [List.range_eq_range']
      simpa using this
    · apply wp_region_any hm
      obtain ⟨h1, h2⟩ := hK'.2 rfl
      have S : Stp P K X w X { w with drawn := w.drawn + 1 } := Stp.drew R.heap R.hX rfl rfl rfl rfl
      have hn : ∀ k, (Array.replicate ops.size false).getD k false = false := by
        intro k
        rw [Array.getD_eq_getD_getElem?, Array.getElem?_replicate]
        by_cases e : k < ops.size <;> simp [e]
      refine zjr (Q := Q) hΓ hd hr hf h1 h2 R.heap (fun a' w' X' R' h3 S' => ⟨rfl, X', R', h3, S'⟩) ops.size _ X a _ (by simp) zj7 ?_ ?_ ?_ S
      · intro i o _ hi
        have := (hn i).symm.trans hi; cases this
      · rw [ze3 hn]; exact hob
      · rw [ze3 hn]; exact ⟨S.heap, S.hX, R.tm, R.sz, R.df⟩
  obtain ⟨e, a', w', ⟨rfl, X', R', h1, S'⟩, harr⟩ := hwp b k cs
  exact ⟨σ', a', w', X', hK'.1, hr.free hf, R', h1, S', harr⟩
theorem zdr : ∀ {n j : Nat}, j < n → bd (knownUpTo n) j = some (.o j 0) := by
  intro n j h
  unfold knownUpTo
  have : ∀ (l : List Nat), j ∈ l → bd (l.map fun j => (j, Bd.o j 0)) j = some (.o j 0) := by
    intro l
    induction l with
    | nil => intro h; simp at h
    | cons x l ih =>
      intro h
      simp only [List.map_cons, bd]
      by_cases e : x = j
      · subst e; simp
      · rw [zo e]
        exact ih ((List.mem_cons.1 h).resolve_left (Ne.symm e))
  exact this _ (List.mem_range.2 h)
theorem zg0 {lk : Lk} {ids : List (Nat × Bd)} : ∀ {ps : List PO} {j : Nat}, rbOk lk ids j ps = true → ∀ i qs, ps[i]? = some (.rb qs) → ∃ id base cells, bd ids (j + i) = some (.o id base) ∧ lk id = .rb cells
  | [], j, _, i, qs, h => by simp at h
  | p :: ps, j, h, i, qs, hi => by
    cases i with
    | zero =>
      simp at hi; subst hi
      simp only [rbOk, Bool.and_eq_true] at h
      have h1 := h.1
      split at h1
      · rename_i id base hb
        split at h1
        · rename_i cells hl
          exact ⟨id, base, cells, hb, hl⟩
        · cases h1
      · cases h1
    | succ i =>
      have h2 : rbOk lk ids (j + 1) ps = true := by
        cases p <;> simp only [rbOk, Bool.and_eq_true] at h <;> first | exact h.2 | exact h
      have := zg0 h2 i qs (by simpa using hi)
      rw [show j + (i + 1) = j + 1 + i by omega]; exact this
theorem Past.step {X0 X X' : Cx} {w0 w w' : World} {nb : Nat} (h : Past P K nb X0 w0 X w) (hH : Heap P K X) (S : Stp P K X w X' w') : Past P K nb X0 w0 X' w' := by
  refine ⟨S.heap, S.hX, S.os.trans h.os, S.tape.trans h.tape, S.output.trans h.output, Nat.le_trans h.sz S.sz, fun b hb hno => ?_, fun id b ho => ?_, fun b hb => ?_, fun j hj => ?_, fun j cells hj hc => ?_⟩
  · refine (S.fr b (Nat.lt_of_lt_of_le hb h.sz) fun id ho => ?_).trans (h.fr b hb hno)
    rcases h.own id b ho with h1 | ⟨id0, h1⟩
    · omega
    · exact hno id0 h1
  · rcases S.own id b ho with h1 | ⟨id1, h1⟩
    · exact .inl (Nat.le_trans h.sz h1)
    · exact h.own id1 b h1
  · rcases S.Fnew b hb with h1 | h1 | ⟨id1, h1⟩
    · exact h.Fnew b h1
    · exact .inr (.inl (Nat.le_trans h.sz h1))
    · rcases h.own id1 b h1 with h3 | ⟨id0, h3⟩
      · exact .inr (.inl h3)
      · exact .inr (.inr ⟨id0, h3⟩)
  · exact (h.kp j hj).trans (S.ext.keep j)
  · have hb := h.box j cells hj hc
    obtain ⟨⟨cells', h1, h2⟩, _⟩ := h.box j cells hj hc
    have := S.box j cells' h1
    rw [h2] at this
    exact hb.trans this
end
end Go.Eng
end
section
namespace Go.Eng
open Go
section
variable {P : Program} {X0 X : Cx} {w0 w : World} {nb : Nat}
theorem zg6 (Pa : Past P (kx X0) nb X0 w0 X w) {pat : Pat} {vals : List AV} {E : Env} (hm : mtch P X.ob pat vals (knownUpTo nb) = some E) {pre : List PO} {x0 : Lv} (hst : stays nb pre pat.objs = true) (hX0 : X0.ob = obOf pre x0)
    (hrb : rbOk X.ob E.ids 0 pat.objs = true) (hrw : rwOk X.ob nb 0 pat.objs = true) : ∃ X', X'.ob = obOf pat.objs E.lv.reverse ∧ Past P (kx X0) nb X0 w0 X' w ∧ ∀ us, F2 (RV P X) vals us → F2 (RV P X') (pat.vals.map (·.inst E.lv.reverse selfIm false)) us := by
  obtain ⟨m1, m2, m3, nod, nbo, mlt⟩ := zgb hm
  have H := Pa.heap
  have hlk : ∀ id, X.ob id = X.ob id ∨ X.ob id = .dead := fun _ => .inl rfl
  obtain ⟨X1, Fz⟩ := frzs H Pa.hX hlk E.bo
  let X' : Cx := ⟨fun j => match bd E.ids j, pat.objs[j]? with | some b, some q => bdLoc P X q.el b | _, _ => ⟨0, 0, 0, true⟩, X1.F, obOf pat.objs E.lv.reverse, X.h, fun j => match bd E.ids j with | some b => bdGam X b | none => fun _ => ⟨0, 0, 0, true⟩⟩
  have R : Ren P (kx X0) X w X.ob E X1 pat X' false := by
    refine ⟨H, Pa.hX, hlk, Fz, m2, fun j b hb => ⟨_, List.getElem?_eq_getElem (mlt _ (zbd hb))⟩, rfl, fun j => rfl, fun j b q hb hq => ?_, fun j b q hb hq => ?_, fun h => (by cases h), fun fr fr' _ h2 h3 b hb => ?_⟩
    · show (match bd E.ids j, pat.objs[j]? with | some b, some q => bdLoc P X q.el b | _, _ => _) = _
      rw [hb, hq]
    · show (match bd E.ids j with | some b => bdGam X b | none => _) = _
      rw [hb]
    · cases fr
      · cases fr'
        · exact hb
        · exact Fz.stp.heap.Fle b hb
      · rw [h2 rfl] at hb; exact hb
  have own : ∀ {j b : Nat}, Has X' j b → ∃ id, Has X id b := fun h => let ⟨_, id, _, _, a3⟩ := R.own h; ⟨id, a3⟩
  have H' : Heap P (kx X0) X' := by
    refine R.heap (K' := kx X0) (fun j ps id base hp hb => ?_) (.inr rfl) nod nbo (fun b hb => hb) (fun b hb => Fz.stp.heap.Fle b hb) (fun b hb => Fz.stp.heap.Ffr b hb) H.sz H.Rsz (fun j b hj => ?_) (fun j b hj => ?_)
    · obtain ⟨id', base', cells, h1, h2⟩ := zg0 hrb j ps hp
      rw [Nat.zero_add, hb] at h1
      cases h1
      have hk := H.ok id
      unfold AOok at hk
      rw [h2] at hk
      exact hk.1
    · obtain ⟨id, a⟩ := own hj
      exact H.nR id b a
    · obtain ⟨id, a⟩ := own hj
      exact H.oM id b a
  have hβ : ∀ j, j < nb → X'.β j = X.β j := by
    intro j hj
    have hb := m3 j _ (zdr hj)
    obtain ⟨q, hq, _, _, h⟩ := R.at_ hb
    rw [h]; rfl
  have hγ : ∀ j, j < nb → X'.γ j = X.γ j := by
    intro j hj
    have hb := m3 j _ (zdr hj)
    obtain ⟨q, hq, _⟩ := R.at_ hb
    rw [R.γ' j _ q hb hq]; rfl
  refine ⟨X', rfl, ⟨H', Pa.hX, Pa.os, Pa.tape, Pa.output, Pa.sz, Pa.fr, fun j b hj => ?_, fun b hb => ?_, fun j hj => ?_, fun j cells hj hc => ?_⟩, fun us hv => ?_⟩
  · obtain ⟨id, a⟩ := own hj
    exact Pa.own id b a
  · rcases Fz.stp.Fnew b hb with h1 | h1 | ⟨id, h1⟩
    · exact Pa.Fnew b h1
    · exact .inr (.inl (Nat.le_trans Pa.sz h1))
    · rcases Pa.own id b h1 with h3 | ⟨id0, h3⟩
      · exact .inr (.inl h3)
      · exact .inr (.inr ⟨id0, h3⟩)
  · have hk := Pa.kp j hj
    have hob' : ∀ q, pat.objs[j]? = some q → X'.ob j = q.inst E.lv.reverse selfIm false := fun q hq => by show obOf _ _ j = _; unfold obOf; rw [hq]
    have hob0 : ∀ q, pre[j]? = some q → X0.ob j = q.inst x0 selfIm false := fun q hq => by rw [hX0]; unfold obOf; rw [hq]
    rcases zbp hst j hj with ⟨as, bs, h1, h2, _⟩ | ⟨kt, vt, a, c, h1, h2⟩ | ⟨e, fr, a, fr2, c, h1, h2⟩ | ⟨e, c, a, b2, h1, h2⟩
    · have hk := hk.keeps (by rw [hob0 _ h1]; rfl)
      refine Keeps.kept ?_
      unfold Keeps at hk ⊢
      rw [hβ j hj]
      rw [hob0 _ h1] at hk ⊢
      rw [hob' _ h2]
      exact ⟨⟨_, rfl⟩, hk.2⟩
    · have hk := hk.keeps (by rw [hob0 _ h1]; rfl)
      refine Keeps.kept ?_
      unfold Keeps at hk ⊢
      rw [hβ j hj]
      rw [hob0 _ h1] at hk ⊢
      rw [hob' _ h2]
      exact ⟨⟨_, _, _, rfl⟩, hk.2⟩
    · have hk := hk.keeps (by rw [hob0 _ h1]; rfl)
      refine Keeps.kept ?_
      unfold Keeps at hk ⊢
      rw [hβ j hj]
      obtain ⟨e1, fr1, xs1, hz⟩ := (zfh hrw j _ hj h2).1 e fr2 c rfl
      rw [Nat.zero_add] at hz
      obtain ⟨b, hb, hm⟩ := R.m j _ h2
      have hbj := m3 j _ (zdr hj)
      rw [hb] at hbj
      cases hbj
      rcases hm with ⟨id, fr', xs, ser, hbe, k5, _, _, k8⟩ | ⟨id, lo, hi, fr', xs, ser, hbe, _⟩ | ⟨hbe, _⟩ | ⟨id, xs, ser, iv, hbe, k5, _⟩ | ⟨id, ix, e0, c', xs, ser, iv, hbe, _⟩ <;> cases hbe
      rotate_left
      · rw [hz] at k5; cases k5
      rw [hob0 _ h1] at hk ⊢
      rw [hob' _ h2]
      simp only [PO.inst, Bool.or_false] at hk ⊢
      rw [hz] at k5
      cases k5
      rw [hz] at hk
      rw [g_of k8]
      rcases hk with hc | ⟨⟨fr', xs', hc | hc, hl⟩, hb⟩ | ⟨e', fr', xs', ser', hc | hc, hl⟩
      · cases hc
      · cases hc
        exact .inr (.inl ⟨⟨_, _, .inl rfl, hl⟩, hb⟩)
      · cases hc
      · cases hc; omega
      · cases hc
    · obtain ⟨e1, c1, xs1, iv1, hz, hiv⟩ := (zfh hrw j _ hj h2).2 e c b2 rfl
      rw [Nat.zero_add] at hz
      obtain ⟨b, hb, hm⟩ := R.m j _ h2
      have hbj := m3 j _ (zdr hj)
      rw [hb] at hbj
      cases hbj
      rcases hm with ⟨id, xs, ser, iv, hbe, k5, _, k8⟩ | ⟨id, fr', xs, ser, hbe, k5, _⟩ | ⟨hbe, _⟩ <;> cases hbe
      rotate_left
      · rw [hz] at k5; cases k5
      unfold Kept at hk ⊢
      rw [hβ j hj, hγ j hj]
      rw [hob0 _ h1] at hk ⊢
      rw [hob' _ h2]
      simp only [PO.inst] at hk ⊢
      rw [hz] at k5
      cases k5
      rw [hz] at hk
      rw [g_of k8]
      rcases hk with hc | ⟨fr', xs', ser', hc⟩ | ⟨xs', ser', lo', iv', hc, _, hl⟩
      · cases hc
      · cases hc
      · cases hc
        obtain ⟨l1, l2, l3⟩ := hl rfl
        exact .inr (.inr ⟨_, _, _, _, rfl, Nat.le_refl _, fun _ => ⟨l1, l2, fun _ => l3 hiv⟩⟩)
  · rcases zbp hst j hj with ⟨as, bs, h1, h2, h3⟩ | ⟨kt, vt, a, c, h1, h2⟩ | ⟨e, fr, a, fr2, c, h1, h2⟩ | ⟨e, c, a, b2, h1, h2⟩
    · obtain ⟨_, k2, k3⟩ := Pa.box j cells hj hc
      rw [hX0] at hc
      unfold obOf at hc
      rw [h1] at hc
      cases hc
      refine ⟨⟨_, by show obOf _ _ j = _; unfold obOf; rw [h2]; rfl, ?_⟩, (hβ j hj).trans k2, k3⟩
      simp [h3]
    · rw [hX0] at hc
      unfold obOf at hc
      rw [h1] at hc
      cases hc
    · rw [hX0] at hc
      unfold obOf at hc
      rw [h1] at hc
      cases hc
    · rw [hX0] at hc
      unfold obOf at hc
      rw [h1] at hc
      cases hc
  · have key : ∀ {ps : List PV} {xs : List AV}, F2 (MetV X.ob E) ps xs → ∀ {us : List Value}, F2 (RV P X) xs us → F2 (RV P X') (ps.map (·.inst E.lv.reverse selfIm false)) us := by
      intro ps xs hf
      induction hf with
      | nil => intro us h; cases h; exact .nil
      | cons h1 _ ih => intro us h; cases h with | cons a b => exact .cons (R.RV (fun h => by cases h) h1 a) (ih b)
    exact key m1 hv
theorem zjv {K : Kx} (H : Heap P K X) (hX : X.h = w.heap) {t : TypeId} {id off : Nat} {v : Value} (hv : RS P X (.pt id off) v) {r : AR} (h : aload P X.ob t (.sc (.pt id off)) = some r) :
    ∃ u, (do loadVar t (← asAddr v)).run P w = .ok u w ∧ RV P X r.v u := by
  unfold aload at h
  split at h
  · rename_i d _ id' off' hu he
    cases he
    have hv := (show RefBx X id _ from hv).get
    subst hv
    have key : ∀ cells, (X.ob id = .bx cells ∨ X.ob id = .rb cells) → (match isAg P t with
      | true => cond (Nat.ble (off + esz P t) cells.length) (AR.pure (.ag ((cells.drop off).take (esz P t)))) none
      | false => (match cells[off]? with | some x => sc x | none => none)) = some r → ∃ u, (do loadVar t (← asAddr (.pointer (some ((X.β id).ptr off))))).run P w = .ok u w ∧ RV P X r.v u := by
      intro cells ho h
      obtain ⟨cs, ty, fz, h1, h2⟩ := zc9 H ho
      have hc := h1
      rw [hX] at hc
      have L := zes (P := P) (off := (X.β id).off + off) hu hc
      split at h
      · rename_i hag
        cases hb : Nat.ble (off + esz P t) cells.length <;> simp [hb, AR.pure] at h
        subst h
        obtain ⟨vs, a1, a2, a3⟩ := zeb h2 (esz P t) off (Nat.le_of_ble_eq_true hb)
        refine ⟨_, ?_, ⟨_, rfl, a3⟩⟩
        simp only [asAddr, Sem.run_bind, Sem.run_pure, Result.andThen_ok]
        exact L.1 hag vs a1 a2
      · rename_i hag
        split at h
        · rename_i x hx
          simp [sc] at h
          subst h
          obtain ⟨v, a1, a2⟩ := h2 off x hx
          refine ⟨_, ?_, a2⟩
          simp only [asAddr, Sem.run_bind, Sem.run_pure, Result.andThen_ok]
          exact L.2 hag v a1
        · cases h
    split at h
    · rename_i cells hl; exact key cells (.inl hl) h
    · rename_i cells hl; exact key cells (.inr hl) h
    · cases h
  · rename_i he; cases he
  · rename_i he; cases he
  · cases h
theorem zif {α β : Type} {f : α → Sem β} {rs : List α} {vs : List β} (h : F2 (fun r v => (f r).run P w = .ok v w) rs vs) : (rs.mapM f).run P w = .ok vs w := by
  induction h with
  | nil => rfl
  | cons h1 _ ih => simp only [List.mapM_cons, Sem.run_bind, h1, Result.andThen_ok, ih, Sem.run_pure]
theorem zea {α β : Type} {f : α → Option β} : ∀ {l : List α} {r : List β}, l.mapM f = some r → F2 (fun a b => f a = some b) l r
  | [], r, h => by simp at h; subst h; exact .nil
  | a :: l, r, h => by
    simp only [List.mapM_cons, Option.bind_eq_bind, Option.bind_eq_some_iff] at h
    obtain ⟨b, h1, bs, h2, h3⟩ := h
    cases h3
    exact .cons h1 (zea h2)
theorem F2.ex {α β γ : Type} {R : α → β → Prop} {S : α → γ → Prop} {T : β → γ → Prop} (h : ∀ a b, R a b → ∃ c, S a c ∧ T b c) {xs : List α} {ys : List β} (hf : F2 R xs ys) : ∃ zs, F2 S xs zs ∧ F2 T ys zs := by
  induction hf with
  | nil => exact ⟨[], .nil, .nil⟩
  | cons h1 _ ih =>
    obtain ⟨c, a, b⟩ := h _ _ h1
    obtain ⟨zs, p, q⟩ := ih
    exact ⟨c :: zs, .cons a p, .cons b q⟩
theorem zh1 {K : Kx} {nt : Nat} {σ : St} {a : Act} (R : Rep P K nt σ.t X a w) (hob : X.ob = σ.o) {r : ResultVar} {v : AV} (h : resultOf P σ r = some v) :
    ∃ u, (match r with | .tmp t => pure (a.tmps.getD t undef) | .cell c t => do loadVar t (← asAddr (a.tmps.getD c undef)) : Sem Value).run P w = .ok u w ∧ RV P X v u := by
  cases r with
  | tmp t => simp only [resultOf] at h; cases h; exact ⟨_, rfl, R.tm t⟩
  | cell c t =>
    simp only [resultOf] at h
    split at h
    · rename_i id off hc
      cases hl : aload P σ.o t (.sc (.pt id off)) with
      | none => rw [hl] at h; cases h
      | some r =>
        rw [hl] at h
        cases h
        have hv := R.tm c
        rw [hc] at hv
        rw [← hob] at hl
        exact zjv R.heap R.hX hv hl
    · cases h
theorem zi1 {K : Kx} {nt : Nat} {σ : St} {a : Act} {fn : Func} (R : Rep P K nt σ.t X a w) (hob : X.ob = σ.o) {v : AV} (h : resultsOf P fn σ = some v) : ∃ u, (results fn a.tmps).run P w = .ok u w ∧ RV P X v u := by
  have run : ∀ {vs : List Value}, F2 (fun r u => (match r with | .tmp t => pure (a.tmps.getD t undef) | .cell c t => do loadVar t (← asAddr (a.tmps.getD c undef)) : Sem Value).run P w = .ok u w) fn.results.toList vs →
      (results fn a.tmps).run P w = .ok (if h : vs.toArray.size = 1 then vs.toArray[0] else .tuple vs.toArray) w := by
    intro vs hf
    have := zif hf
    simp only [results, Array.mapM_eq_mapM_toList, Sem.run_bind, map_eq_pure_bind, Sem.run_pure, Result.andThen_ok] at this ⊢
    erw [this]
    rfl
  unfold resultsOf at h
  split at h
  · rename_i r hr
    obtain ⟨u, h1, h2⟩ := zh1 R hob h
    refine ⟨u, ?_, h2⟩
    have := run (vs := [u]) (by rw [hr]; exact .cons h1 .nil)
    rw [this]; rfl
  · rename_i rs hne
    split at h
    · cases h
    · rename_i vs hvs
      split at h
      · cases h
      · rename_i ts hts
        cases h
        obtain ⟨us, h1, h2⟩ := F2.ex (fun r v h => zh1 R hob h) (zea hvs)
        have h3 := run h1
        have hl : us.toArray.size ≠ 1 := by
          have := h1.length
          intro e
          simp at e
          rw [e] at this
          match hx : fn.results.toList, this with
          | [r], _ => exact hne r hx
        rw [dif_neg hl] at h3
        refine ⟨_, h3, us.toArray, rfl, ?_⟩
        have key : ∀ {vs : List AV} {ts : List (Bool × List AS)}, F2 (fun a b => tupled a = some b) vs ts → ∀ {us : List Value}, F2 (RV P X) vs us → F2 (RT P X) ts us := by
          intro vs ts hf
          induction hf with
          | nil => intro us h; cases h; exact .nil
          | cons h1 _ ih =>
            intro us h
            cases h with
            | cons a b =>
              refine .cons ?_ (ih b)
              rename_i x y _ _ _ _ _
              cases x with
              | sc x => simp only [tupled] at h1; cases h1; exact .cons a .nil
              | ag xs => simp only [tupled] at h1; cases h1; exact a
              | tu _ => cases h1
        exact key (zea hts) h2
end
end Go.Eng
end
section
namespace Go.Eng
open Go
abbrev Where := Nat → Option (Array Oper × Bool × List Item)
def FitsC (F : Where) : Code → List Item → Prop
  | .region id ops dr, k => F id = some (ops, dr, k)
  | .seq a b, k => FitsC F a (.code b :: k) ∧ FitsC F b k
  | .cond _ x y, k => FitsC F x k ∧ FitsC F y k
  | .block i c, k => FitsC F c (.inBlock i :: k)
  | .loop c, k => FitsC F c (.inLoop c :: k)
  | _, _ => True
def Fits (F : Where) : List Item → Prop
  | [] => True
  | .code c :: k => FitsC F c k ∧ Fits F k
  | .inLoop c :: k => FitsC F c (.inLoop c :: k) ∧ Fits F k
  | _ :: k => Fits F k
theorem zbt : ∀ {c : Code} {id : Nat} {k : List Item} {r : Array Oper × Bool × List Item}, findR id c k = some r → id ∈ regs c
  | .region id' ops dr, id, k, r, h => by
    simp only [findR] at h
    cases hb : Nat.beq id' id <;> simp [hb] at h
    simp [regs, zb hb]
  | .seq a b, id, k, r, h => by
    simp only [findR] at h
    split at h
    · rename_i r' h'; exact List.mem_append_left _ (zbt h')
    · exact List.mem_append_right _ (zbt h)
  | .cond _ x y, id, k, r, h => by
    simp only [findR] at h
    split at h
    · rename_i r' h'; exact List.mem_append_left _ (zbt h')
    · exact List.mem_append_right _ (zbt h)
  | .block _ c, id, k, r, h => by simp only [findR] at h; exact zbt (c := c) h
  | .loop c, id, k, r, h => by simp only [findR] at h; exact zbt (c := c) h
  | .skip, _, _, _, h => by simp [findR] at h
  | .exit _, _, _, _, h => by simp [findR] at h
  | .goto _, _, _, _, h => by simp [findR] at h
  | .label _, _, _, _, h => by simp [findR] at h
  | .ret, _, _, _, h => by simp [findR] at h
  | .scope _, _, _, _, h => by simp [findR] at h
  | .rangeFunc .., _, _, _, h => by simp [findR] at h
  | .refuse _, _, _, _, h => by simp [findR] at h
theorem zbr : ∀ {c : Code} {id : Nat} {k : List Item}, id ∈ regs c → ∃ r, findR id c k = some r
  | .region id' ops dr, id, k, h => by
    simp [regs] at h; subst h
    exact ⟨_, by simp [findR]; rfl⟩
  | .seq a b, id, k, h => by
    simp only [findR]
    cases ha : findR id a (.code b :: k) with
    | some r => exact ⟨r, rfl⟩
    | none =>
      rcases List.mem_append.1 h with h | h
      · obtain ⟨r, hr⟩ := zbr (k := .code b :: k) h; rw [ha] at hr; cases hr
      · exact zbr h
  | .cond _ x y, id, k, h => by
    simp only [findR]
    cases ha : findR id x k with
    | some r => exact ⟨r, rfl⟩
    | none =>
      rcases List.mem_append.1 h with h | h
      · obtain ⟨r, hr⟩ := zbr (k := k) h; rw [ha] at hr; cases hr
      · exact zbr h
  | .block _ c, id, k, h => by simp only [findR]; exact zbr (c := c) h
  | .loop c, id, k, h => by simp only [findR]; exact zbr (c := c) h
  | .skip, _, _, h => by simp [regs] at h
  | .exit _, _, _, h => by simp [regs] at h
  | .goto _, _, _, h => by simp [regs] at h
  | .label _, _, _, h => by simp [regs] at h
  | .ret, _, _, h => by simp [regs] at h
  | .scope _, _, _, h => by simp [regs] at h
  | .rangeFunc .., _, _, h => by simp [regs] at h
  | .refuse _, _, _, h => by simp [regs] at h
theorem zbx {F : Where} : ∀ {c : Code} {k : List Item}, (regs c).Nodup → (∀ id ∈ regs c, F id = findR id c k) → FitsC F c k
  | .region id' ops dr, k, hn, h => by
    have := h id' (by simp [regs])
    simp only [findR, Nat.beq_refl, cond_true] at this
    exact this
  | .seq a b, k, hn, h => by
    simp only [regs, List.nodup_append] at hn
    refine ⟨zbx hn.1 fun id hi => ?_, zbx hn.2.1 fun id hi => ?_⟩
    · rw [h id (List.mem_append_left _ hi)]
      simp only [findR]
      obtain ⟨r, hr⟩ := zbr (k := .code b :: k) hi
      rw [hr]
    · rw [h id (List.mem_append_right _ hi)]
      simp only [findR]
      cases hr : findR id a (.code b :: k) with
      | some r => exact absurd rfl (hn.2.2 id (zbt hr) id hi)
      | none => rfl
  | .cond _ x y, k, hn, h => by
    simp only [regs, List.nodup_append] at hn
    refine ⟨zbx hn.1 fun id hi => ?_, zbx hn.2.1 fun id hi => ?_⟩
    · rw [h id (List.mem_append_left _ hi)]
      simp only [findR]
      obtain ⟨r, hr⟩ := zbr (k := k) hi
      rw [hr]
    · rw [h id (List.mem_append_right _ hi)]
      simp only [findR]
      cases hr : findR id x k with
      | some r => exact absurd rfl (hn.2.2 id (zbt hr) id hi)
      | none => rfl
  | .block i c, k, hn, h => zbx (c := c) hn fun id hi => by rw [h id hi]; rfl
  | .loop c, k, hn, h => zbx (c := c) hn fun id hi => by rw [h id hi]; rfl
  | .skip, _, _, _ => trivial
  | .exit _, _, _, _ => trivial
  | .goto _, _, _, _ => trivial
  | .label _, _, _, _ => trivial
  | .ret, _, _, _ => trivial
  | .scope _, _, _, _ => trivial
  | .rangeFunc .., _, _, _ => trivial
  | .refuse _, _, _, _ => trivial
theorem zb1 {F : Where} : ∀ {c : Code} {k0 : List Item} {id : Nat} {ops : Array Oper} {dr : Bool} {k : List Item}, findR id c k0 = some (ops, dr, k) → FitsC F c k0 → Fits F k0 → Fits F k
  | .region id' ops dr, k0, id, _, _, k, h, _, hk => by
    simp only [findR] at h
    cases hb : Nat.beq id' id <;> simp [hb] at h
    obtain ⟨_, _, rfl⟩ := h; exact hk
  | .seq a b, k0, id, _, _, k, h, hf, hk => by
    simp only [findR] at h
    split at h
    · rename_i r' h'; cases h; exact zb1 h' hf.1 ⟨hf.2, hk⟩
    · exact zb1 h hf.2 hk
  | .cond _ x y, k0, id, _, _, k, h, hf, hk => by
    simp only [findR] at h
    split at h
    · rename_i r' h'; cases h; exact zb1 h' hf.1 hk
    · exact zb1 h hf.2 hk
  | .block _ c, k0, id, _, _, k, h, hf, hk => by simp only [findR] at h; exact zb1 (c := c) h hf hk
  | .loop c, k0, id, _, _, k, h, hf, hk => by simp only [findR] at h; exact zb1 (c := c) h hf ⟨hf, hk⟩
  | .skip, _, _, _, _, _, h, _, _ => by simp [findR] at h
  | .exit _, _, _, _, _, _, h, _, _ => by simp [findR] at h
  | .goto _, _, _, _, _, _, h, _, _ => by simp [findR] at h
  | .label _, _, _, _, _, _, h, _, _ => by simp [findR] at h
  | .ret, _, _, _, _, _, h, _, _ => by simp [findR] at h
  | .scope _, _, _, _, _, _, h, _, _ => by simp [findR] at h
  | .rangeFunc .., _, _, _, _, _, h, _, _ => by simp [findR] at h
  | .refuse _, _, _, _, _, _, h, _, _ => by simp [findR] at h
theorem zbq {n : Nat} : ∀ {c : Code} {k0 : List Item} {id : Nat} {ops : Array Oper} {dr : Bool} {k : List Item}, findR id c k0 = some (ops, dr, k) → dsts n c = true → ∀ o ∈ ops.toList, ∀ d, o.dst = some d → d < n
  | .region id' ops dr, k0, id, _, _, k, h, hd => by
    simp only [findR] at h
    cases hb : Nat.beq id' id <;> simp [hb] at h
    obtain ⟨rfl, _, _⟩ := h
    intro o ho d hod
    simp only [dsts, List.all_eq_true] at hd
    have := hd o ho
    rw [hod] at this
    exact Nat.le_of_ble_eq_true this
  | .seq a b, k0, id, _, _, k, h, hd => by
    simp only [findR] at h
    simp only [dsts, Bool.and_eq_true] at hd
    split at h
    · rename_i r' h'; cases h; exact zbq h' hd.1
    · exact zbq h hd.2
  | .cond _ x y, k0, id, _, _, k, h, hd => by
    simp only [findR] at h
    simp only [dsts, Bool.and_eq_true] at hd
    split at h
    · rename_i r' h'; cases h; exact zbq h' hd.1
    · exact zbq h hd.2
  | .block _ c, k0, id, _, _, k, h, hd => by simp only [findR] at h; exact zbq (c := c) h hd
  | .loop c, k0, id, _, _, k, h, hd => by simp only [findR] at h; exact zbq (c := c) h hd
  | .skip, _, _, _, _, _, h, _ => by simp [findR] at h
  | .exit _, _, _, _, _, _, h, _ => by simp [findR] at h
  | .goto _, _, _, _, _, _, h, _ => by simp [findR] at h
  | .label _, _, _, _, _, _, h, _ => by simp [findR] at h
  | .ret, _, _, _, _, _, h, _ => by simp [findR] at h
  | .scope _, _, _, _, _, _, h, _ => by simp [findR] at h
  | .rangeFunc .., _, _, _, _, _, h, _ => by simp [findR] at h
  | .refuse _, _, _, _, _, _, h, _ => by simp [findR] at h
theorem zbc {F : Where} {id : Nat} : ∀ {k k' : List Item}, exitTo id k = some k' → Fits F k → Fits F k'
  | [], _, h, _ => by simp [exitTo] at h
  | .inBlock i :: k, k', h, hf => by
    simp only [exitTo] at h
    split at h
    · cases h; exact hf
    · exact zbc (k := k) h hf
  | .code c :: k, k', h, hf => zbc (k := k) (by simpa [exitTo] using h) hf.2
  | .inLoop c :: k, k', h, hf => zbc (k := k) (by simpa [exitTo] using h) hf.2
  | .inScope c :: k, k', h, hf => zbc (k := k) (by simpa [exitTo] using h) hf
  | .inRegion _ _ :: k, k', h, hf => zbc (k := k) (by simpa [exitTo] using h) hf
  | .inRangeFunc _ :: k, k', h, hf => zbc (k := k) (by simpa [exitTo] using h) hf
  | .endRangeFunc _ :: k, k', h, hf => zbc (k := k) (by simpa [exitTo] using h) hf
  | .beginRound :: k, k', h, hf => zbc (k := k) (by simpa [exitTo] using h) hf
  | .call .. :: k, k', h, hf => zbc (k := k) (by simpa [exitTo] using h) hf
  | .extern .. :: k, k', h, hf => zbc (k := k) (by simpa [exitTo] using h) hf
end Go.Eng
end
section
namespace Go.Eng
open Go
def Ends (P : Program) (d : FD) (fn : Func) (X0 : Cx) (w0 : World) (y : Lv) (b : Frame) (cs : List Frame) (m : Machine) : Prop :=
  ∃ todo a' w' v X' p, Steps P m (lone { b.at a' todo with mode := .returning } cs w') ∧ a'.defers = [] ∧ (results fn a'.tmps).run P w' = .ok v w' ∧ d.post.vals = [p] ∧
    X'.ob = obOf d.post.objs y ∧ RV P X' (p.inst y selfIm false) v ∧ Past P (kx X0) d.nb X0 w0 X' w'
section
variable {P : Program} {Γ : List Sig} {d : FD} {fn : Func} {X0 : Cx} {w0 : World} {x0 y : Lv} {b : Frame} {cs : List Frame}
theorem Ends.of_steps {m m' : Machine} (h : Steps P m m') (h' : Ends P d fn X0 w0 y b cs m') : Ends P d fn X0 w0 y b cs m := by
  obtain ⟨todo, a', w', v, X', p, h1, rest⟩ := h'
  exact ⟨todo, a', w', v, X', p, h.trans h1, rest⟩
theorem ze7 {α : Type} {dv : α} : ∀ {l : List α} {j n : Nat}, look dv (numbered j l) (j + n) = (l[n]?).getD dv
  | [], j, n => rfl
  | x :: l, j, n => by
    simp only [numbered, look]
    cases n with
    | zero => simp
    | succ n =>
      rw [zo (by omega), show j + (n + 1) = j + 1 + n by omega]
      simp only [cond_false]
      rw [ze7]; simp
theorem zfz (ps : List PO) (lv : Lv) : (look .dead (numbered 0 (ps.map (·.inst lv selfIm false))) : Nat → AO) = obOf ps lv := by
  funext j
  have := ze7 (dv := AO.dead) (l := ps.map (·.inst lv selfIm false)) (j := 0) (n := j)
  rw [Nat.zero_add] at this
  rw [this]
  unfold obOf
  rw [List.getElem?_map]
  cases ps[j]? <;> rfl
theorem Cut.start_o (c : Cut) (lv : Lv) : (c.start lv).o = obOf c.pat.objs lv := zfz _ _
theorem FD.start_o (d : FD) (lv : Lv) : (d.start lv).o = obOf d.pre.objs lv := zfz _ _
theorem zhe {ps : List PO} {lv : Lv} {k : Nat} (h : ps.length ≤ k) : obOf ps lv k = .dead := by
  unfold obOf; rw [List.getElem?_eq_none h]
theorem Cut.start_free (c : Cut) (lv : Lv) : (c.start lv).sx.free := fun k hk => by
  show (c.start lv).o k = .dead
  rw [Cut.start_o]; exact zhe hk
theorem FD.start_free (d : FD) (lv : Lv) : (d.start lv).sx.free := fun k hk => by
  show (d.start lv).o k = .dead
  rw [FD.start_o]; exact zhe hk
theorem zgo {X : Cx} {f : Nat → Value} : ∀ {slots : List Nat} {vs : List AV}, F2 (RV P X) vs (slots.map f) → ∀ n, RV P X (look (.sc .un) (slots.zip vs) n) (f n)
  | [], vs, h, n => by simp only [List.zip_nil_left, look]; trivial
  | s :: slots, _, .cons (x := v) h1 h2, n => by
    simp only [List.zip_cons_cons, look]
    by_cases e : s = n
    · subst e; simpa using h1
    · rw [zo e]; exact zgo h2 n
theorem zi5 {X : Cx} {vs : List AV} {us : List Value} (h : F2 (RV P X) vs us) (m n : Nat) : RV P X ((vs[n]?).getD (.sc .ud)) ((us.toArray ++ Array.replicate m undef).getD n undef) := by
  rw [Array.getD_eq_getD_getElem?, Array.getElem?_append]
  by_cases hn : n < us.length
  · have hv : n < vs.length := by rw [h.length]; exact hn
    obtain ⟨u, h1, h2⟩ := h.get (List.getElem?_eq_getElem hv)
    rw [List.getElem?_eq_getElem hv, if_pos (by simpa using hn)]
    simp only [List.getElem?_toArray, h1, Option.getD_some]
    exact h2
  · have hv : ¬ n < vs.length := by rw [h.length]; exact hn
    rw [List.getElem?_eq_none (by omega), if_neg (by simpa using hn), Array.getElem?_replicate]
    simp only [Option.getD_none]
    split <;> rfl
structure Ctx (P : Program) (Γ : List Sig) (d : FD) (fn : Func) (X0 : Cx) (x0 : Lv) (body : Code) : Prop where
  known : Known P Γ
  mixed : P.follows .mixedOrders = true
  post : stays d.nb d.pre.objs d.post.objs = true
  cuts : ∀ c ∈ d.cuts, stays d.nb d.pre.objs c.pat.objs = true
  X0ob : X0.ob = obOf d.pre.objs x0
  dst : dsts fn.ntmps body = true
  one : d.post.vals.length = 1
theorem zhr {id : Nat} {c : Cut} : ∀ {l : List Cut}, cutOf id l = some c → c ∈ l
  | [], h => by simp [cutOf] at h
  | x :: l, h => by
    simp only [cutOf] at h
    cases hb : Nat.beq x.id id <;> simp [hb] at h
    · exact List.mem_cons_of_mem _ (zhr h)
    · subst h; simp
theorem zfl {body : Code} (C : Ctx P Γ d fn X0 x0 body) {σ : St} (h : d.fin P fn σ = some y) {X : Cx} {a : Act} {w : World} (R : Rep P (kx X0) fn.ntmps σ.t X a w) (hob : X.ob = σ.o) (Pa : Past P (kx X0) d.nb X0 w0 X w) {m : Machine} {todo : List Item}
    (hs : Steps P m (lone { b.at a todo with mode := .returning } cs w)) : Ends P d fn X0 w0 y b cs m := by
  unfold FD.fin at h
  split at h
  · cases h
  · rename_i v hv
    split at h
    · cases h
    · rename_i E hm
      cases hrb : (rbOk σ.o E.ids 0 d.post.objs && rwOk σ.o d.nb 0 d.post.objs) <;> rw [hrb] at h
      · cases h
      rw [cond_true] at h
      cases h
      rw [Bool.and_eq_true] at hrb
      obtain ⟨u, h1, h2⟩ := zi1 R hob hv
      rw [← hob] at hm hrb
      obtain ⟨X', k1, k2, k3⟩ := zg6 Pa hm C.post C.X0ob hrb.1 hrb.2
      have hone := C.one
      match hp : d.post.vals, hone with
      | [p], _ =>
        have := k3 [u] (.cons h2 .nil)
        rw [hp] at this
        cases this with
        | cons hx _ => exact ⟨todo, a, w, u, X', p, hs, R.df, h1, hp, k1, hx, k2⟩
def AOk (P : Program) (d : FD) (fn : Func) (X0 : Cx) (w0 : World) (y : Lv) (b : Frame) (cs : List Frame) (body : Code) (A : Nat → Lv → Option Lv) : Prop :=
  ∀ (id : Nat) (lv : Lv) (c : Cut) (ops : Array Oper) (dr : Bool) (k : List Item), cutOf id d.cuts = some c → findR id body [] = some (ops, dr, k) → A id lv = some y → ∀ (a : Act) (w : World) (X : Cx), Rep P (kx X0) fn.ntmps (c.start lv).t X a w → X.ob = (c.start lv).o →
    Past P (kx X0) d.nb X0 w0 X w → Ends P d fn X0 w0 y b cs (lone (b.at a (.code (.region id ops dr) :: k)) cs w)
theorem zw {body : Code} (C : Ctx P Γ d fn X0 x0 body) {A : Nat → Lv → Option Lv} (hA : AOk P d fn X0 w0 y b cs body A) : ∀ (n : Nat) {k : List Item} {σ : St} {X : Cx} {a : Act} {w : World}, run P Γ d fn A n k σ = some y → Fits (fun id => findR id body []) k →
    Rep P (kx X0) fn.ntmps σ.t X a w → X.ob = σ.o → σ.sx.free → Past P (kx X0) d.nb X0 w0 X w → Ends P d fn X0 w0 y b cs (lone (b.at a k) cs w)
  | 0, k, σ, X, a, w, h, _, _, _, _, _ => by simp [run] at h
  | n + 1, [], σ, X, a, w, h, hf, R, hob, hfr, Pa => by
    simp only [run] at h
    exact zfl C h R hob Pa (.one step_end)
  | n + 1, it :: k, σ, X, a, w, h, hf, R, hob, hfr, Pa => by
    cases it with
    | code c =>
      cases c with
      | skip => simp only [run] at h; exact (zw C hA n h hf.2 R hob hfr Pa).of_steps (.one step_skip)
      | label l => simp only [run] at h; exact (zw C hA n h hf.2 R hob hfr Pa).of_steps (.one step_label)
      | seq x z => simp only [run] at h; exact (zw C hA n h ⟨hf.1.1, hf.1.2, hf.2⟩ R hob hfr Pa).of_steps (.one step_seq)
      | cond c x z =>
        simp only [run] at h
        split at h
        · rename_i t ht
          have hc : a.eval c = .bool t := by
            have := zc4 R.tm c
            rw [ht] at this; exact this
          cases t
          · exact (zw C hA n h ⟨hf.1.2, hf.2⟩ R hob hfr Pa).of_steps (.one (step_cond hc))
          · exact (zw C hA n h ⟨hf.1.1, hf.2⟩ R hob hfr Pa).of_steps (.one (step_cond hc))
        · cases h
      | block i c => simp only [run] at h; exact (zw C hA n h ⟨hf.1, hf.2⟩ R hob hfr Pa).of_steps (.one step_block)
      | loop c => simp only [run] at h; exact (zw C hA n h ⟨hf.1, hf.1, hf.2⟩ R hob hfr Pa).of_steps (.one step_loop)
      | exit i =>
        simp only [run] at h
        split at h
        · rename_i k' hk
          exact (zw C hA n h (zbc hk hf.2) R hob hfr Pa).of_steps (.one (step_exit hk))
        · cases h
      | ret => simp only [run] at h; exact zfl C h R hob Pa (.one step_ret)
      | region id ops dr =>
        simp only [run] at h
        have hF : findR id body [] = some (ops, dr, k) := hf.1
        split at h
        · rename_i c hc
          split at h
          · rename_i E hm
            cases hrb : (rbOk σ.o E.ids 0 c.pat.objs && rwOk σ.o d.nb 0 c.pat.objs) <;> rw [hrb] at h
            · cases h
            rw [cond_true] at h
            rw [Bool.and_eq_true] at hrb
            rw [← hob] at hm hrb
            obtain ⟨X', k1, k2, k3⟩ := zg6 Pa hm (C.cuts c (zhr hc)) C.X0ob hrb.1 hrb.2
            have hv := k3 (c.slots.map fun n => a.tmps.getD n undef) (F2.map_l (fun n => R.tm n) _)
            exact hA id _ c ops dr k hc hF h a w X' ⟨k2.heap, k2.hX, zgo hv, R.sz, R.df⟩ (by rw [k1, Cut.start_o]) k2
          · cases h
        · obtain ⟨σ', a', w', X', h1, h2, h3, h4, h5, h6⟩ := zh4 C.known C.mixed (id := id) (zbq hF C.dst) h R hob hfr b k cs
          exact (zw C hA n h1 hf.2 h3 h4 h2 (Pa.step R.heap h5)).of_steps h6
      | _ => simp [run] at h
    | inBlock i => simp only [run] at h; exact (zw C hA n h hf R hob hfr Pa).of_steps (.one step_inBlock)
    | inLoop c => simp only [run] at h; exact (zw C hA n h ⟨hf.1, hf⟩ R hob hfr Pa).of_steps (.one step_inLoop)
    | _ => simp [run] at h
theorem J_ok {body : Code} (C : Ctx P Γ d fn X0 x0 body) (hbody : fn.body = some body) (hfit : Fits (fun id => findR id body []) [.code body]) : ∀ n, AOk P d fn X0 w0 y b cs body (fun id lv => J P Γ d fn n (some id) lv)
  | 0 => fun id lv c ops dr k _ _ h => by simp [J] at h
  | n + 1 => fun id lv c ops dr k hc hF h a w X R hob Pa => by
    simp only [J, seg, hbody, hc, hF] at h
    obtain ⟨σ', a', w', X', h1, h2, h3, h4, h5, h6⟩ := zh4 C.known C.mixed (id := id) (zbq hF C.dst) h R hob (Cut.start_free c lv) b k cs
    exact (zw C (J_ok C hbody hfit n) fuel h1 (zb1 hF hfit.1 hfit.2) h3 h4 h2 (Pa.step R.heap h5)).of_steps h6
theorem sound (hΓ : Known P Γ) (hm : P.follows .mixedOrders = true) (hfn : P.funcs[d.fn]? = some fn) (hok : d.ok fn = true) {f : Lv → Option Lv} (hf : ∀ x y, f x = some y → ∃ n, J P Γ d fn n none x = some y) : SigOk P (d.sig f) ∧ (d.sig f).ok = true := by
  have hok' : (d.sig f).ok = true ∧ (∀ c ∈ d.cuts, stays d.nb d.pre.objs c.pat.objs = true) ∧ d.pre.vals.length ≤ fn.ntmps ∧ ∃ body, fn.body = some body ∧ nodup (regs body) = true ∧ dsts fn.ntmps body = true := by
    simp only [FD.ok, Bool.and_eq_true, List.all_eq_true] at hok
    obtain ⟨h1, h2, h3, h4⟩ := hok
    refine ⟨h1, h2, Nat.le_of_ble_eq_true h3, ?_⟩
    cases hb : fn.body with
    | none => rw [hb] at h4; cases h4
    | some body => rw [hb] at h4; simp only [Bool.and_eq_true] at h4; exact ⟨body, rfl, h4⟩
  obtain ⟨hs, hcuts, hlen, body, hbody, hnd, hdst⟩ := hok'
  refine ⟨?_, hs⟩
  have hs' := hs
  simp only [Sig.ok, FD.sig, Bool.and_eq_true, List.all_eq_true] at hs'
  obtain ⟨_, s2, _, _, s5, _⟩ := hs'
  intro w args x y X0 hX0 hob hno H hargs hy cs
  obtain ⟨n, hJ⟩ := hf x y hy
  have C : Ctx P Γ d fn X0 x body := ⟨hΓ, hm, s2, hcuts, hob, hdst, zb s5⟩
  have hfit : Fits (fun id => findR id body []) [.code body] := ⟨zbx (zd8 hnd) fun _ _ => rfl, trivial⟩
  let b : Frame := { (default : Frame) with fn := d.fn, kind := .normal }
  let a : Act := { tmps := args.toArray ++ Array.replicate (fn.ntmps - args.toArray.size) undef, defers := [] }
  have henter : Frame.enter P d.fn args.toArray .normal = b.at a [.code body] := by
    simp [Frame.enter, Frame.at, hfn, hbody, b, a]
  have hal : args.length = d.pre.vals.length := by
    have := hargs.length
    simp [FD.sig] at this
    exact this.symm
  cases n with
  | zero => simp [J] at hJ
  | succ n =>
    simp only [J, seg, hbody] at hJ
    have R : Rep P (kx X0) fn.ntmps (d.start x).t X0 a w := by
      refine ⟨H, hX0, fun n => ?_, ?_, rfl⟩
      · have := ze7 (dv := AV.sc .ud) (l := d.pre.vals.map (·.inst x selfIm false)) (j := 0) (n := n)
        rw [Nat.zero_add] at this
        show RV P X0 (look (.sc .ud) (numbered 0 (d.pre.vals.map (·.inst x selfIm false))) n) _
        rw [this]
        exact zi5 hargs _ n
      · show (args.toArray ++ Array.replicate (fn.ntmps - args.toArray.size) undef).size = _
        rw [Array.size_append, Array.size_replicate]
        simp only [List.size_toArray]
        omega
    have Pa : Past P (kx X0) d.nb X0 w X0 w := by
      exact ⟨H, hX0, rfl, rfl, rfl, Nat.le_refl _, fun _ _ _ => rfl, fun id b h => .inr ⟨id, h⟩, fun _ h => .inl h, fun j hj => (Keeps.refl _ _).kept, fun j cells hj hc => BoxK.refl hc⟩
    obtain ⟨todo, a', w', v, X', p, h1, h2, h3, h4, h5, h6, h7⟩ := zw (b := b) (cs := cs) C (J_ok C hbody hfit n) fuel hJ hfit R (by rw [hob, FD.start_o]; rfl) (FD.start_free d x) Pa
    refine ⟨.returned v, w', { b.at a' todo with mode := .returning }, ⟨v, X', p, rfl, h4, h5, h6, h7⟩, ?_, ?_, ?_⟩
    · show Steps P (lone (Frame.enter P d.fn args.toArray .normal) cs w) (lone { b.at a' todo with mode := .returning } cs w')
      rw [henter]; exact h1
    · rfl
    · exact ⟨rfl, h2, rfl, fn, hfn, h3⟩
end
end Go.Eng
end
section
namespace Go.Eng
open Go Go.ChangeShapes
inductive Ty (P : Program) (B : Nat) : CK → C → Prop where
  | i (k : IntKind) (n : Int) (h : (Lit.int k n).wf = true) : Ty P B (.i k) (.i n)
  | b (x : Bool) : Ty P B .b (.b x)
  | s (x : ByteArray) (h : x.size ≤ B) : Ty P B .s (.s x)
  | l (e : TypeId) (xs : Rw) (hl : xs.length ≤ B) (hn : ∀ r ∈ xs, r.length = (kinds P 8 e).length) (h : ∀ r ∈ xs, ∀ (o : Nat) (k : CK) (c : C), (kinds P 8 e)[o]? = some k → r[o]? = some c → Ty P B k c) : Ty P B (.sl e) (.l xs)
def okFs (P : Program) (okT : TypeId → Bool) (total : Nat) : Nat → List Field → Bool
  | off, [] => Nat.beq off total
  | off, f :: fs => Nat.beq f.offset off && (okT f.type && okFs P okT total (off + P.cellsOf f.type) fs)
def okT (P : Program) : Nat → TypeId → Bool
  | 0, _ => false
  | d + 1, t => match P.underlying t with
    | some (.int _) => Nat.beq (P.cellsOf t) 1
    | some .bool => Nat.beq (P.cellsOf t) 1
    | some .string => Nat.beq (P.cellsOf t) 1
    | some (.slice e) => Nat.beq (P.cellsOf t) 1 && (okT P d e && (!Nat.beq (P.cellsOf e) 0 && !Nat.beq (P.bytesOf e) 0))
    | some (.struct fs) => okFs P (okT P d) (P.cellsOf t) 0 fs.toList
    | _ => false
theorem zkx {P : Program} {t : TypeId} : esz P t = P.cellsOf t := by
  unfold esz Program.cellsOf
  cases P.info? t <;> rfl
def Told (P : Program) (w : World) (B d : Nat) (ks : List CK) (cs : List Value) (xs : List C) : Prop :=
  cs.length = ks.length ∧ xs.length = cs.length ∧ ∀ (o : Nat) (v : Value), cs[o]? = some v → ∃ c, xs[o]? = some c ∧ CellOk (Con P w.heap (fun b => b < w.heap.size) d) (ks.getD o .x) v c ∧ Ty P B (ks.getD o .x) c
theorem Told.one {P : Program} {w : World} {B d : Nat} {k : CK} {v : Value} {c : C} (h : CellOk (Con P w.heap (fun b => b < w.heap.size) d) k v c) (hs : Ty P B k c) : Told P w B d [k] [v] [c] :=
  ⟨rfl, rfl, fun o u hu => by
    cases o with
    | zero => simp at hu; subst hu; exact ⟨c, rfl, h, hs⟩
    | succ o => simp at hu⟩
theorem Told.append {P : Program} {w : World} {B d : Nat} {ks ks' : List CK} {cs cs' : List Value} {xs xs' : List C} (h : Told P w B d ks cs xs) (h' : Told P w B d ks' cs' xs') : Told P w B d (ks ++ ks') (cs ++ cs') (xs ++ xs') := by
  obtain ⟨a, b, c⟩ := h
  obtain ⟨a', b', c'⟩ := h'
  refine ⟨by simp [a, a'], by simp [b, b'], fun o v hv => ?_⟩
  rcases Nat.lt_or_ge o cs.length with hl | hl
  · rw [List.getElem?_append_left hl] at hv
    obtain ⟨x, h1, h2, h3⟩ := c o v hv
    refine ⟨x, by rw [List.getElem?_append_left (by omega)]; exact h1, ?_⟩
    rw [List.getD_eq_getElem?_getD, List.getElem?_append_left (by omega), ← List.getD_eq_getElem?_getD]; exact ⟨h2, h3⟩
  · rw [List.getElem?_append_right hl] at hv
    obtain ⟨x, h1, h2, h3⟩ := c' _ v hv
    refine ⟨x, by rw [List.getElem?_append_right (by omega), b]; exact h1, ?_⟩
    rw [List.getD_eq_getElem?_getD, List.getElem?_append_right (by omega), ← a, ← List.getD_eq_getElem?_getD]; exact ⟨h2, h3⟩
theorem zfp {w : World} {a : Addr} {v : Value} (h : w.cell? a = some v) : a.spot = none ∧ ∃ cs ty fz, w.heap[a.block]? = some (.cells cs ty fz) ∧ cs[a.off]? = some v := by
  unfold World.cell? at h
  split at h
  · rename_i c ty fz hc
    cases hs : a.spot with
    | some n => rw [hs] at h; simp at h
    | none => rw [hs] at h; exact ⟨rfl, c, ty, fz, hc, by simpa using h⟩
  · cases h
theorem add_zero (a : Addr) : a.add 0 = a := by unfold Addr.add; simp
theorem zhj (a : Addr) (n : Nat) : (a.add n).block = a.block ∧ (a.add n).off = a.off + n := by
  unfold Addr.add
  split <;> simp_all
theorem zlz {α : Type} (n : Nat) (p : Nat → α → Prop) (h : ∀ i, i < n → ∃ x, p i x) : ∃ l : List α, l.length = n ∧ ∀ i x, l[i]? = some x → p i x := by
  induction n with
  | zero => exact ⟨[], rfl, fun i x hx => by simp at hx⟩
  | succ n ih =>
    obtain ⟨l, hl, hp⟩ := ih (fun i hi => h i (by omega))
    obtain ⟨x, hx⟩ := h n (by omega)
    refine ⟨l ++ [x], by simp [hl], fun i y hy => ?_⟩
    by_cases hi : i < n
    · rw [List.getElem?_append_left (by omega)] at hy; exact hp i y hy
    · rw [List.getElem?_append_right (by omega)] at hy
      have e : i - l.length = 0 := by
        rcases Nat.eq_zero_or_pos (i - l.length) with h0 | h0
        · exact h0
        · rw [List.getElem?_eq_none (by simp; omega)] at hy; cases hy
      rw [e] at hy
      simp at hy
      obtain rfl : i = n := by omega
      rw [← hy]; exact hx
theorem zhi {H : Type} {P : Program} {e : TypeId} : ∀ {l : List (DataW H)} {d : DataW H}, d ∈ l → ∀ {n : Nat}, n ∈ d.weights P e → n ∈ DataW.weightsAll P e l
  | x :: l, d, hd, n, hn => by
    simp only [DataW.weightsAll, List.mem_append]
    rcases List.mem_cons.1 hd with rfl | hd
    · exact .inl hn
    · exact .inr (zhi hd hn)
  | [], _, hd, _, _ => by cases hd
section
variable {P : Program} {H : Type} {enc : TypeId × Value → H} {w : World} {base : Nat} {sp : Nat → Bool} {held : Bool} {B : Nat}
theorem zhk {okT' : TypeId → Bool} {total k d n : Nat} {cs : List Value}
    (ih : ∀ {t : TypeId} {cs : List Value} {y : DataW H × List MemPlace}, okT' t = true → DataW.trod enc P w base sp held n t cs = some y → (∀ m ∈ y.1.weights P t, m ≤ B) → P.cellsOf t = (kinds P k t).length ∧ ∃ xs, Told P w B d (kinds P k t) cs xs) :
    ∀ {fs : List Field} {off : Nat} {ys : List (DataW H × List MemPlace)}, okFs P okT' total off fs = true → cs.length = total → ys.length = fs.length →
      (∀ (i : Nat) (f : Field), fs[i]? = some f → DataW.trod enc P w base sp held n f.type ((cs.drop f.offset).take (P.cellsOf f.type)) = ys[i]?) → (∀ m ∈ DataW.weightsEach P (fs.map (·.type)) (ys.map (·.1)), m ≤ B) →
      off ≤ total ∧ total = off + (fs.flatMap fun f => kinds P k f.type).length ∧ ∃ xs, Told P w B d (fs.flatMap fun f => kinds P k f.type) (cs.drop off) xs
  | [], off, ys, hok, hl, hy, hf, hw => by
    have := zb (show Nat.beq off total = true from hok)
    subst this
    refine ⟨Nat.le_refl _, by simp, [], ?_⟩
    rw [List.drop_of_length_le (by omega)]
    exact ⟨rfl, rfl, fun o v hv => by simp at hv⟩
  | f :: fs, off, [], hok, hl, hy, hf, hw => by simp at hy
  | f :: fs, off, y :: ys, hok, hl, hy, hf, hw => by
    simp only [okFs, Bool.and_eq_true] at hok
    have e := zb hok.1
    have h0 := hf 0 f rfl
    rw [e] at h0
    simp only [List.map_cons, DataW.weightsEach, List.mem_append] at hw
    obtain ⟨hc, xs, hx⟩ := ih hok.2.1 (show _ = some y from h0) fun m hm => hw m (.inl hm)
    obtain ⟨r1, r2, xs', hx'⟩ := zhk ih (fs := fs) (off := off + P.cellsOf f.type) (ys := ys) hok.2.2 hl (by simpa using hy) (fun i g hg => by simpa using hf (i + 1) g (by simpa using hg)) fun m hm => hw m (.inr hm)
    refine ⟨by omega, by rw [List.flatMap_cons, List.length_append]; omega, xs ++ xs', ?_⟩
    rw [List.flatMap_cons]
    have hsplit : cs.drop off = (cs.drop off).take (P.cellsOf f.type) ++ cs.drop (off + P.cellsOf f.type) := by
      rw [← List.drop_drop, List.take_append_drop]
    rw [hsplit]
    exact hx.append hx'
theorem ze9 : ∀ {d k : Nat} {t : TypeId} {fuel : Nat} {cs : List Value} {y : DataW H × List MemPlace}, d ≤ k → d ≤ 8 → okT P d t = true → DataW.trod enc P w base sp held fuel t cs = some y → (∀ m ∈ y.1.weights P t, m ≤ B) →
    P.cellsOf t = (kinds P k t).length ∧ ∃ xs, Told P w B d (kinds P k t) cs xs
  | 0, _, _, _, _, _, _, _, h, _, _ => by simp [okT] at h
  | d + 1, 0, _, _, _, _, hk, _, _, _, _ => by omega
  | d + 1, k + 1, t, fuel, cs, y, hk, h8, hok, h, hw => by
    simp only [okT] at hok
    cases hu : P.underlying t with
    | none => rw [hu] at hok; cases hok
    | some td =>
      rw [hu] at hok
      cases td <;> simp only at hok <;> try (cases hok; done)
      case int ik =>
        obtain ⟨n, rfl, rfl, wf⟩ := DataW.trod_int hu h
        refine ⟨by rw [zb hok]; simp [kinds, hu], [.i n], ?_⟩
        simp only [kinds, hu]
        exact Told.one rfl (.i ik n wf)
      case bool =>
        obtain ⟨n, rfl, rfl⟩ := DataW.trod_bool hu h
        refine ⟨by rw [zb hok]; simp [kinds, hu], [.b n], ?_⟩
        simp only [kinds, hu]
        exact Told.one rfl (.b n)
      case string =>
        obtain ⟨n, rfl, rfl, _⟩ := DataW.trod_string hu h
        refine ⟨by rw [zb hok]; simp [kinds, hu], [.s n], ?_⟩
        simp only [kinds, hu]
        exact Told.one rfl (.s n (hw n.size (by simp [DataW.weights])))
      case slice e =>
        simp only [Bool.and_eq_true, Bool.not_eq_true'] at hok
        obtain ⟨k1, k2, k3, k4⟩ := hok
        refine ⟨by rw [zb k1]; simp [kinds, hu], ?_⟩
        simp only [kinds, hu]
        have he0 : P.cellsOf e ≠ 0 := fun h => by rw [h] at k3; simp at k3
        have hb0 : P.bytesOf e ≠ 0 := fun h => by rw [h] at k4; simp at k4
        rcases Deep.open_slice hu h with ⟨rfl, rfl⟩ | ⟨a, len, cap, m, n, D, Pl, rfl, hb, hl, hm, hmm, rfl, hi⟩
        · exact ⟨[.l []], Told.one ⟨none, 0, rfl, Nat.le_refl _, .inl rfl⟩ (.l e [] (Nat.zero_le _) (fun r hr => by simp at hr) fun r hr => by simp at hr)⟩
        · have hlm : len ≤ m := by rw [hmm]; split <;> omega
          have hlenw : len * P.bytesOf e ≤ B := by
            refine Nat.le_trans ?_ (hw _ (by simp only [DataW.weights, hu]; exact List.mem_cons_self))
            apply Nat.mul_le_mul_right; simp
          have hlenB : len ≤ B := Nat.le_trans (Nat.le_mul_of_pos_right _ (by omega)) hlenw
          have key : ∀ i, i < len → ∃ r : List C, ∃ cs', w.cells? base (a.add (i * P.cellsOf e)) (P.cellsOf e) = some cs' ∧ Told P w B d (kinds P 8 e) cs' r ∧ P.cellsOf e = (kinds P 8 e).length := by
            intro i hil
            obtain ⟨cs', hc, ht⟩ := hi i (by omega)
            obtain ⟨hlen, r, hr⟩ := ze9 (d := d) (k := 8) (by omega) (by omega) k2 ht fun q hq => hw q (by
              simp only [DataW.weights, hu, List.mem_cons, List.mem_append]
              exact .inr (.inl (zhi (List.mem_map.2 ⟨i, by simpa using hil, rfl⟩) hq)))
            exact ⟨r, cs', hc, hr, hlen⟩
          obtain ⟨xs, hxl, hx⟩ := zlz len _ key
          refine ⟨[.l xs], Told.one ⟨some a, cap, by simp [C.list, hxl], by simp [C.list, hxl, hl], ?_⟩ (.l e xs (by omega) (fun r hr => ?_) fun r hr o k c hk hc => ?_)⟩
          · show Con P w.heap _ (d + 1) e (some a) xs
            cases xs with
            | nil => exact .inl rfl
            | cons r0 xs0 =>
              right
              have cellAt : ∀ i r o, (r0 :: xs0)[i]? = some r → o < P.cellsOf e → ∃ v c, w.cell? ((a.add (i * P.cellsOf e)).add o) = some v ∧ r[o]? = some c ∧ CellOk (Con P w.heap (fun b => b < w.heap.size) d) ((kinds P 8 e).getD o .x) v c := by
                intro i r o hr ho
                obtain ⟨cs', hc, ⟨q1, q2, q3⟩, q4⟩ := hx i r hr
                obtain ⟨_, hcl, hcc⟩ := World.cells?_some hc
                obtain ⟨v, hv⟩ : ∃ v, cs'[o]? = some v := ⟨_, List.getElem?_eq_getElem (by omega)⟩
                obtain ⟨c, c1, c2, _⟩ := q3 o v hv
                exact ⟨v, c, by rw [hcc o ho]; exact hv, c1, c2⟩
              obtain ⟨v0, c0, hv0, _, _⟩ := cellAt 0 r0 0 rfl (by omega)
              obtain ⟨s0, csb, ty, fz, hb1, _⟩ := zfp hv0
              rw [Nat.zero_mul, add_zero, add_zero] at s0 hb1
              refine ⟨a.block, a.off, csb, ty, fz, ?_, (Array.getElem?_eq_some_iff.1 hb1).1, hb1, fun i hil o ho => ?_⟩
              · cases a; simp only at s0; subst s0; rfl
              · rw [zkx] at ho ⊢
                obtain ⟨r, hr⟩ : ∃ r, (r0 :: xs0)[i]? = some r := ⟨_, List.getElem?_eq_getElem hil⟩
                obtain ⟨v, c, hv, hc, hcell⟩ := cellAt i r o hr ho
                obtain ⟨u0, csb', ty', fz', hb', hv'⟩ := zfp hv
                obtain ⟨ub1, uo1⟩ := zhj (a.add (i * P.cellsOf e)) o
                obtain ⟨ub2, uo2⟩ := zhj a (i * P.cellsOf e)
                rw [ub1, ub2, hb1] at hb'
                cases hb'
                rw [uo1, uo2] at hv'
                refine ⟨v, hv', ?_⟩
                have : rd (r0 :: xs0) i o = c := by
                  unfold rd
                  rw [List.getD_eq_getElem?_getD, List.getD_eq_getElem?_getD, hr, Option.getD_some, hc]; rfl
                rw [this]; exact hcell
          · obtain ⟨i, hil, rfl⟩ := List.getElem_of_mem hr
            obtain ⟨cs', hc', ⟨q1, q2, q3⟩, _⟩ := hx i _ (List.getElem?_eq_getElem hil)
            omega
          · obtain ⟨i, hil, rfl⟩ := List.getElem_of_mem hr
            obtain ⟨cs', hc', ⟨q1, q2, q3⟩, _⟩ := hx i _ (List.getElem?_eq_getElem hil)
            have hol := (List.getElem?_eq_some_iff.1 hc).1
            obtain ⟨v, hv⟩ : ∃ v, cs'[o]? = some v := ⟨_, List.getElem?_eq_getElem (by omega)⟩
            obtain ⟨c', c1, _, c3⟩ := q3 o v hv
            rw [hc] at c1
            cases c1
            rw [List.getD_eq_getElem?_getD, hk] at c3; exact c3
      case struct fs =>
        obtain ⟨ys, n, _, rfl, hl, hlen, hf⟩ := DataW.trod_struct hu h
        have := zhk (P := P) (enc := enc) (w := w) (base := base) (sp := sp) (held := held) (B := B) (okT' := okT P d) (total := P.cellsOf t) (k := k) (d := d) (n := n) (cs := cs)
          (fun {t cs y} h1 h2 h3 => ze9 (d := d) (k := k) (by omega) (by omega) h1 h2 h3) (fs := fs.toList) (off := 0) (ys := ys) hok hl (by simpa using hlen) (fun i f hi => hf i f (by simpa using hi)) (by simpa [DataW.weights, hu] using hw)
        obtain ⟨_, h2, xs, h3⟩ := this
        simp only [kinds, hu]
        refine ⟨by omega, xs, ?_⟩
        rw [List.drop_zero] at h3
        obtain ⟨t1, t2, t3⟩ := h3
        exact ⟨t1, t2, fun o v hv => let ⟨c, c1, c2, c3⟩ := t3 o v hv; ⟨c, c1, c2.mono fun _ _ _ hx => Con.up hx, c3⟩⟩
end
end Go.Eng
end
section
namespace Go.Eng
open Go Go.ChangeShapes Go.WideShapes Go.RowKit
def cellPat : CK → Nat → PS
  | .i k, n => .i k n
  | .b, n => .b n
  | .s, n => .s n
  | .sl e, n => .fz e false n
  | .x, _ => .un
def cellPats : List CK → Nat → List PS
  | [], _ => []
  | k :: ks, n => cellPat k n :: cellPats ks (n + 1)
def argPat (P : Program) (t : TypeId) (n : Nat) : PV := match isAg P t with
  | true => .ag (cellPats (kinds P 8 t) n)
  | false => .sc (cellPat ((kinds P 8 t).getD 0 .x) n)
def argPats (P : Program) : List TypeId → Nat → List PV
  | [], _ => []
  | t :: ts, n => argPat P t n :: argPats P ts (n + (kinds P 8 t).length)
def lfOf : C → Lf
  | .i n => .i n
  | .b x => .b x
  | .s x => .s x
  | .l xs => .l xs
def Fit : CK → C → Prop
  | .i _, c => ∃ n, c = .i n
  | .b, c => ∃ n, c = .b n
  | .s, c => ∃ n, c = .s n
  | .sl _, c => ∃ n, c = .l n
  | .x, _ => True
section
variable {P : Program} {w : World} {B : Nat}
def bare (β : Nat → Loc) (w : World) : Cx := ⟨β, fun fr b => fr = false ∧ b < w.heap.size, fun _ => .dead, w.heap, fun _ _ => ⟨0, 0, 0, true⟩⟩
theorem zkz {β : Nat → Loc} {k : CK} {v : Value} {c : C} {lv : Lv} {n : Nat} (hn : lv[n]? = some (lfOf c)) (hf : Fit k c) (h : CellOk (Con P w.heap (fun b => b < w.heap.size) 8) k v c) : RS P (bare β w) ((cellPat k n).inst lv selfIm false) v := by
  cases k
  · obtain ⟨m, rfl⟩ := hf; simp only [cellPat, PS.inst, g_of hn]; exact h
  · obtain ⟨m, rfl⟩ := hf; simp only [cellPat, PS.inst, g_of hn]; exact h
  · obtain ⟨m, rfl⟩ := hf; simp only [cellPat, PS.inst, g_of hn]; exact h
  · obtain ⟨m, rfl⟩ := hf
    simp only [cellPat, PS.inst, g_of hn]
    obtain ⟨A, cap, h1, h2, h3⟩ := h
    exact ⟨A, cap, h1, h2, Con.mono (fun b hb => ⟨rfl, hb⟩) (fun _ _ => rfl) h3⟩
  · exact h.elim
theorem zf7 {β : Nat → Loc} {lv : Lv} : ∀ {ks : List CK} {cs : List Value} {xs : List C} {n : Nat}, Told P w B 8 ks cs xs → (∀ (i : Nat) (k : CK) (c : C), ks[i]? = some k → xs[i]? = some c → Fit k c) → (∀ (i : Nat) (c : C), xs[i]? = some c → lv[n + i]? = some (lfOf c)) →
    RSs P (bare β w) ((cellPats ks n).map (·.inst lv selfIm false)) cs
  | [], [], xs, n, h, _, _ => .nil
  | [], _ :: _, xs, n, h, _, _ => by have := h.1; simp at this
  | _ :: _, [], xs, n, h, _, _ => by have := h.1; simp at this
  | k :: ks, v :: cs, [], n, h, _, _ => by have := h.2.1; simp at this
  | k :: ks, v :: cs, c :: xs, n, h, hf, hl => by
    obtain ⟨h1, h2, h3⟩ := h
    refine .cons ?_ (zf7 (xs := xs) (n := n + 1) ⟨by simpa using h1, by simpa using h2, fun o u hu => h3 (o + 1) u (by simpa using hu)⟩ (fun i k' c' a b => hf (i + 1) k' c' (by simpa using a) (by simpa using b)) fun i c' hc => by rw [show n + 1 + i = n + (i + 1) by omega]; exact hl (i + 1) c' (by simpa using hc))
    obtain ⟨c', e1, e2, _⟩ := h3 0 v rfl
    simp at e1; subst e1
    exact zkz (by simpa using hl 0 c rfl) (hf 0 k c rfl rfl) e2
theorem Ty.fit {k : CK} {c : C} (h : Ty P B k c) : Fit k c := by
  cases h <;> exact ⟨_, rfl⟩
theorem Told.tys {d : Nat} {ks : List CK} {cs : List Value} {xs : List C} (h : Told P w B d ks cs xs) : F2 (Ty P B) ks xs := by
  obtain ⟨h1, h2, h3⟩ := h
  have : ∀ (ks : List CK) (xs : List C), ks.length = xs.length → (∀ (o : Nat) (k : CK) (c : C), ks[o]? = some k → xs[o]? = some c → Ty P B k c) → F2 (Ty P B) ks xs := by
    intro ks
    induction ks with
    | nil => intro xs hl _; cases xs with
      | nil => exact .nil
      | cons _ _ => simp at hl
    | cons k ks ih => intro xs hl h; cases xs with
      | nil => simp at hl
      | cons c xs => exact .cons (h 0 k c rfl rfl) (ih xs (by simpa using hl) fun o k c a b => h (o + 1) k c (by simpa using a) (by simpa using b))
  refine this ks xs (by omega) fun o k c hk hc => ?_
  have hl := (List.getElem?_eq_some_iff.1 hk).1
  obtain ⟨v, hv⟩ : ∃ v, cs[o]? = some v := ⟨_, List.getElem?_eq_getElem (by omega)⟩
  obtain ⟨c', e1, _, e3⟩ := h3 o v hv
  rw [hc] at e1; cases e1
  rw [List.getD_eq_getElem?_getD, hk] at e3; exact e3
theorem F2.getI {α β : Type} {R : α → β → Prop} {xs : List α} {ys : List β} (h : F2 R xs ys) : ∀ (i : Nat) (x : α) (y : β), xs[i]? = some x → ys[i]? = some y → R x y := by
  induction h with
  | nil => intro i x y hx; simp at hx
  | cons h t ih => intro i x y hx hy; cases i with
    | zero => simp at hx hy; subst hx; subst hy; exact h
    | succ i => exact ih i x y (by simpa using hx) (by simpa using hy)
theorem F2.app {α β : Type} {R : α → β → Prop} {xs xs' : List α} {ys ys' : List β} (h : F2 R xs ys) (h' : F2 R xs' ys') : F2 R (xs ++ xs') (ys ++ ys') := by
  induction h with
  | nil => exact h'
  | cons h t ih => exact .cons h ih
theorem F2.len {α β : Type} {R : α → β → Prop} {xs : List α} {ys : List β} (h : F2 R xs ys) : xs.length = ys.length := by
  induction h with
  | nil => rfl
  | cons h t ih => simp [ih]
theorem zmb {H : Type} {enc : TypeId × Value → H} {base base2 : Nat} {sp : Nat → Bool} {held : Bool} {t : TypeId} {v : Value} {d : DataW H} {ps : List MemPlace} {r : Reach} (hok : okT P 8 t = true) (hv : Value.okWide P w r base2 t v) (h : DataW.Trod enc P w base sp held t v d ps)
    (hw : ∀ m ∈ d.weights P t, m ≤ B) : ∃ xs : List C, F2 (Ty P B) (kinds P 8 t) xs ∧
      ∀ (β : Nat → Loc) (lv : Lv) (n : Nat), (∀ (i : Nat) (c : C), xs[i]? = some c → lv[n + i]? = some (lfOf c)) → RV P (bare β w) ((argPat P t n).inst lv selfIm false) v := by
  obtain ⟨fuel, hf⟩ := h
  obtain ⟨_, xs, hx⟩ := ze9 (d := 8) (k := 8) (Nat.le_refl _) (Nat.le_refl _) hok hf hw
  refine ⟨xs, hx.tys, fun β lv n hl => ?_⟩
  · have key := zf7 (β := β) (lv := lv) (n := n) hx (fun i k c hk hc => (hx.tys.getI i k c hk hc).fit) hl
    unfold argPat
    have one : ∀ {k : CK}, kinds P 8 t = [k] → isAg P t = false → v.cells.toList = [v] → RV P (bare β w) (((match isAg P t with | true => .ag (cellPats (kinds P 8 t) n) | false => .sc (cellPat ((kinds P 8 t).getD 0 .x) n)) : PV).inst lv selfIm false) v := by
      intro k hk hag hc
      rw [hag, hk]
      rw [hk, hc] at key
      cases key with | cons a _ => exact a
    simp only [okT] at hok
    cases hu : P.underlying t with
    | none => rw [hu] at hok; cases hok
    | some td =>
      rw [hu] at hok
      cases td <;> simp only at hok <;> try (cases hok; done)
      case int ik => obtain ⟨m, rfl⟩ := okWide_int hu hv; exact one (k := .i ik) (by simp [kinds, hu]) (by simp [isAg, hu]) rfl
      case bool => obtain ⟨m, rfl⟩ := okWide_bool hu hv; exact one (k := .b) (by simp [kinds, hu]) (by simp [isAg, hu]) rfl
      case string => obtain ⟨m, rfl⟩ := okWide_string hu hv; exact one (k := .s) (by simp [kinds, hu]) (by simp [isAg, hu]) rfl
      case slice e => obtain ⟨a, b, c, rfl⟩ := okWide_slice hu hv; exact one (k := .sl e) (by simp [kinds, hu]) (by simp [isAg, hu]) rfl
      case struct fs =>
        obtain ⟨cs, rfl, _⟩ := okWide_struct hu hv
        have : isAg P t = true := by simp [isAg, hu]
        rw [this]
        exact ⟨cs, rfl, key⟩
theorem zf4 {H : Type} {enc : TypeId × Value → H} {base base2 : Nat} {sp : Nat → Bool} {held : Bool} {r : Reach} : ∀ {ts : List TypeId} {vs : List Value} {ds : List (DataW H)} {ps : List MemPlace}, (∀ t ∈ ts, okT P 8 t = true) →
    (∀ (j : Nat) (t : TypeId) (v : Value), ts[j]? = some t → vs[j]? = some v → Value.okWide P w r base2 t v) → DataW.TrodAll enc P w base sp held ts vs ds ps → (∀ m ∈ DataW.weightsEach P ts ds, m ≤ B) →
    ∃ xs : List C, F2 (Ty P B) (ts.flatMap (kinds P 8)) xs ∧
      ∀ (β : Nat → Loc) (lv : Lv) (n : Nat), (∀ (i : Nat) (c : C), xs[i]? = some c → lv[n + i]? = some (lfOf c)) → F2 (RV P (bare β w)) ((argPats P ts n).map (·.inst lv selfIm false)) vs
  | [], vs, ds, ps, _, _, h, _ => by
    obtain ⟨rfl, rfl, rfl⟩ := trodAll_nil h
    exact ⟨[], .nil, fun β lv n _ => .nil⟩
  | t :: ts, vs, ds, ps, hok, hv, h, hw => by
    obtain ⟨v, vs', d, ds', p, q, rfl, rfl, rfl, h0, hr⟩ := trodAll_cons h
    simp only [DataW.weightsEach, List.mem_append] at hw
    obtain ⟨xs, a1, a4⟩ := zmb (hok t (by simp)) (hv 0 t v rfl rfl) h0 fun m hm => hw m (.inl hm)
    obtain ⟨ys, b1, b4⟩ := zf4 (ts := ts) (fun t ht => hok t (by simp [ht])) (fun j t v a b => hv (j + 1) t v (by simpa using a) (by simpa using b)) hr fun m hm => hw m (.inr hm)
    refine ⟨xs ++ ys, by rw [List.flatMap_cons]; exact a1.app b1, fun β lv n hl => ?_⟩
    have a1' := a1.len
    refine .cons (a4 β lv n fun i c hc => hl i c (by rw [List.getElem?_append_left (List.getElem?_eq_some_iff.1 hc).1]; exact hc)) (b4 β lv _ fun i c hc => ?_)
    have := hl ((kinds P 8 t).length + i) c (by rw [a1', List.getElem?_append_right (by omega)]; simpa using hc)
    rw [show n + (kinds P 8 t).length + i = n + ((kinds P 8 t).length + i) by omega]; exact this
theorem zjb {s : Sig} (hs : SigOk P s) {ts : List TypeId} (hpre : s.pre = ⟨argPats P ts 0, []⟩) (hpost : s.post = ⟨[.sc (.b 0)], []⟩) {xs : List C} {args : Array Value} (hargs : ∀ (β : Nat → Loc) (lv : Lv) (n : Nat), (∀ (i : Nat) (c : C), xs[i]? = some c → lv[n + i]? = some (lfOf c)) → F2 (RV P (bare β w)) ((argPats P ts n).map (·.inst lv selfIm false)) args.toList)
    (hf : s.f (xs.map lfOf) = some [.b true]) : Calls P s.fn args w fun e w' => e = .returned (.bool true) ∧ Below w.heap.size w w' := by
  have hno : ∀ β id, ¬ Own (bare β w) id := fun β id h => h
  let X0 := bare (fun _ => ⟨0, 0, 0, true⟩) w
  have H : Heap P (kx X0) X0 := ⟨fun id => trivial, fun id id' b h => h.1.elim, fun id b h => h.1.elim, fun id b h => h.1.elim, fun id b h => h.1.elim, fun b h => (by cases h.1), fun b h => (by cases h.1), fun b h => h.2, fun b h => h.1, Nat.le_refl _⟩
  have ha := hargs (fun _ => ⟨0, 0, 0, true⟩) (xs.map lfOf) 0 fun i c hc => by rw [Nat.zero_add, List.getElem?_map, hc]; rfl
  have := hs w args.toList (xs.map lfOf) [.b true] X0 rfl (by rw [hpre]; funext j; simp [obOf, X0, bare]) (fun b h => by cases h.1) H (by rw [hpre]; exact ha) hf
  rw [Array.toArray_toList] at this
  refine this.mono ?_
  rintro e w' ⟨v, X', p, rfl, hp, hob, hrv, hpa⟩
  rw [hpost] at hp
  cases hp
  refine ⟨?_, hpa.os, hpa.tape, hpa.output, ?_, fun k hk => ?_⟩
  · have : v = .bool true := hrv
    rw [this]
  · rw [← hpa.hX]; exact hpa.sz
  · rw [← hpa.hX]; exact hpa.fr k hk fun id h => hno _ id h.1
end
end Go.Eng
end
section
namespace Go.Eng
open Go Go.ChangeShapes Go.WideShapes Go.RowKit
theorem zfm {P : Program} {H : Type} {enc : TypeId × Value → H} (hl : laidOutB P = true) {W W' : World} (hb : Below W.heap.size W W') : ∀ {ts : List TypeId} {vs : List Value} {ds : List (DataW H)} {ps : List MemPlace}, (∀ t ∈ ts, P.readableRec t = true ∧ t < P.types.size) →
    DataW.TrodAll enc P W 0 (fun _ => true) true ts vs ds ps → DataW.TrodAll enc P W' 0 (fun b => decide (b < W.heap.size)) true ts vs ds ps
  | [], vs, ds, ps, _, h => by
    obtain ⟨rfl, rfl, rfl⟩ := trodAll_nil h
    exact trodAll_mk0
  | t :: ts, vs, ds, ps, ht, h => by
    obtain ⟨v, vs', d, ds', p, q, rfl, rfl, rfl, h0, hr⟩ := trodAll_cons h
    obtain ⟨a, b⟩ := ht t (by simp)
    refine trodAll_cons_mk (Below.trod hl a b h0 hb ?_) (zfm hl hb (fun t ht' => ht t (by simp [ht'])) hr)
    obtain ⟨m, hm⟩ := h0
    exact DataW.trod_lt m _ _ _ hm
end Go.Eng
end
section
namespace Go.Eng
open Go
theorem zg7 : ∀ (gs : List Bool) (k : Option Lv), guards gs k = cond (gs.all id) k none
  | [], k => rfl
  | true :: r, k => by simpa [guards] using zg7 r k
  | false :: r, k => by simp [guards]
def Det (X : (St → List Log → Option Lv) → Option Lv) : Prop := ∃ r : Option (St × List Log), ∀ K, X K = r.bind fun x => K x.1 x.2
theorem Det.none : Det fun _ => none := ⟨.none, fun _ => rfl⟩
theorem Det.some (σ : St) (lg : List Log) : Det fun K => K σ lg := ⟨.some (σ, lg), fun _ => rfl⟩
theorem Det.cnd {X Y : (St → List Log → Option Lv) → Option Lv} (b : Bool) (hx : Det X) (hy : Det Y) : Det fun K => cond b (X K) (Y K) := by
  cases b
  · exact hy
  · exact hx
theorem Det.grd {X : (St → List Log → Option Lv) → Option Lv} (gs : List Bool) (hx : Det X) : Det fun K => guards gs (X K) := by
  simp only [zg7]; exact Det.cnd _ hx .none
variable {P : Program} {Γ : List Sig} {ops : Array Oper}
theorem zkw (o : Oper) (σ : St) (lg : List Log) : Det fun K => doOp P Γ ops o σ lg K := by
  unfold doOp
  cases hop : o.op with
  | call c =>
    cases hc : c.callee with
    | value v =>
      simp only [hc]
      generalize List.map (opnd σ.t) (Op.call c).operands.toList = vs
      match vs with
      | .sc (.fn f caps) :: args =>
        dsimp only
        cases hsg : sigOf f Γ with
        | none => exact .none
        | some s =>
          dsimp only
          cases hm : mtch P (rlk (more σ.o (more σ.o (more σ.o ((args ++ capArgs caps).flatMap AV.ids)))) σ.o) s.pre (args ++ capArgs caps) [] with
          | none => exact .none
          | some E =>
            dsimp only
            refine Det.cnd _ ?_ .none
            cases hf : s.f E.lv.reverse with
            | none => exact .none
            | some y => exact Det.cnd _ (.some _ _) .none
      | [] => exact .none
      | .ag _ :: _ => exact .none
      | .tu _ :: _ => exact .none
      | .sc .un :: _ | .sc .ud :: _ | .sc (.i _ _) :: _ | .sc (.b _) :: _ | .sc (.s _) :: _ | .sc .np :: _ | .sc (.pt _ _) :: _ | .sc (.pe _ _ _ _ _) :: _ | .sc (.po _ _ _ _) :: _ | .sc .ns :: _ | .sc (.fz _ _ _) :: _ | .sc (.ow _ _) :: _ | .sc (.sb _ _ _ _) :: _ | .sc (.mp _) :: _ | .sc .nm :: _ | .sc (.ri _ _ _ _) :: _ => exact .none
    | _ =>
      simp only [hc]
      generalize acore P _ _ _ _ = r
      cases r with
      | none => exact .none
      | some r => exact Det.grd _ (Det.cnd _ (.some _ _) .none)
  | _ =>
    dsimp only
    generalize acore P _ _ _ _ = r
    cases r with
    | none => exact .none
    | some r => exact Det.grd _ (Det.cnd _ (.some _ _) .none)
theorem zcz : ∀ (l : List Oper) (σ : St) (lg : List Log), Det fun K => runOps P Γ ops l σ lg K
  | [], σ, lg => .some σ lg
  | o :: r, σ, lg => by
    have one : ∀ σ lg, Det fun K => doOp P Γ ops o σ lg fun σ lg => runOps P Γ ops r σ lg K := fun σ lg => by
      obtain ⟨x, hx⟩ := zkw (P := P) (Γ := Γ) (ops := ops) o σ lg
      cases x with
      | none => exact ⟨.none, fun K => hx _⟩
      | some x =>
        obtain ⟨y, hy⟩ := zcz r x.1 x.2
        exact ⟨y, fun K => (hx _).trans (hy K)⟩
    unfold runOps
    cases o.guard with
    | none => exact one σ lg
    | some jw =>
      obtain ⟨j, want⟩ := jw
      dsimp only
      cases gdst ops j with
      | none => exact .none
      | some d =>
        dsimp only
        split
        · rename_i x hx
          cases x <;> cases want <;> simp only [cond_true, cond_false]
          · exact one _ _
          · exact zcz r _ _
          · exact zcz r _ _
          · exact one _ _
        · exact zcz r _ _
        · exact .none
def Tail (X : (Nat → Lv → Option Lv) → Option Lv) : Prop := (∃ r, ∀ A, X A = r) ∨ ∃ id lv, ∀ A, X A = A id lv
theorem Tail.const (r : Option Lv) : Tail fun _ => r := .inl ⟨r, fun _ => rfl⟩
theorem zht {draw : Bool} {σ : St} {K : (Nat → Lv → Option Lv) → St → Option Lv} (hK : ∀ σ, Tail fun A => K A σ) : Tail fun A => region P Γ ops draw σ (K A) := by
  unfold region
  obtain ⟨x, hx⟩ := zcz (P := P) (Γ := Γ) (ops := ops) ops.toList σ []
  cases x with
  | none => exact .inl ⟨none, fun A => hx _⟩
  | some x =>
    have : (fun A => runOps P Γ ops ops.toList σ [] fun σ lg => cond draw (cond (backw 0 ops.toList && chk 0 (masks ops.toList []) lg.reverse) (K A σ) none) (K A σ)) =
      fun A => cond draw (cond (backw 0 ops.toList && chk 0 (masks ops.toList []) x.2.reverse) (K A x.1) none) (K A x.1) := funext fun A => hx _
    rw [this]
    cases draw
    · exact hK _
    · cases (backw 0 ops.toList && chk 0 (masks ops.toList []) x.2.reverse)
      · exact .const none
      · exact hK _
variable {d : FD} {fn : Func}
theorem zz : ∀ (n : Nat) (k : List Item) (σ : St), Tail fun A => run P Γ d fn A n k σ
  | 0, _, _ => by unfold run; exact .const _
  | _ + 1, [], _ => by unfold run; exact .const _
  | n + 1, it :: k, σ => by
    cases it with
    | code c =>
      cases c with
      | skip => simpa only [run] using zz n k σ
      | label _ => simpa only [run] using zz n k σ
      | seq a b => simpa only [run] using zz n _ σ
      | cond c x y =>
        simp only [run]
        split
        · rename_i t ht
          cases t <;> simp only [cond_true, cond_false]
          · exact zz n _ σ
          · exact zz n _ σ
        · exact .const _
      | block id c => simpa only [run] using zz n _ σ
      | loop c => simpa only [run] using zz n _ σ
      | exit id =>
        simp only [run]
        cases exitTo id k with
        | none => exact .const _
        | some k' => exact zz n k' σ
      | ret => simp only [run]; exact .const _
      | region id ops dr =>
        simp only [run]
        cases cutOf id d.cuts with
        | none => exact zht fun σ => zz n k σ
        | some c =>
          dsimp only
          cases mtch P σ.o c.pat (c.slots.map σ.t) (knownUpTo d.nb) with
          | none => exact .const _
          | some E =>
            dsimp only
            cases (rbOk σ.o E.ids 0 c.pat.objs && rwOk σ.o d.nb 0 c.pat.objs)
            · exact .const _
            · exact .inr ⟨id, _, fun A => rfl⟩
      | _ => simp only [run]; exact .const _
    | inBlock i => simpa only [run] using zz n _ σ
    | inLoop c => simpa only [run] using zz n _ σ
    | _ => simp only [run]; exact .const _
theorem zhn (at_ : Option Nat) (lv : Lv) : (∃ r, ∀ A, seg P Γ d fn A at_ lv = r) ∨ ∃ id lv', ∀ A, seg P Γ d fn A at_ lv = A id lv' := by
  show Tail fun A => seg P Γ d fn A at_ lv
  unfold seg
  cases fn.body with
  | none => exact .const _
  | some body =>
    dsimp only
    cases at_ with
    | none => exact zz _ _ _
    | some id =>
      dsimp only
      cases cutOf id d.cuts with
      | none => exact .const _
      | some c =>
        dsimp only
        cases findR id body [] with
        | none => exact .const _
        | some r => obtain ⟨ops, dr, k⟩ := r; exact zht fun σ => zz _ _ _
theorem zjk (n : Nat) (at_ : Option Nat) (lv y : Lv) (h : J P Γ d fn n at_ lv = some y) : J P Γ d fn (n + 1) at_ lv = some y := by
  induction n generalizing at_ lv with
  | zero => simp [J] at h
  | succ n ih =>
    change seg P Γ d fn (fun id lv => J P Γ d fn (n + 1) (some id) lv) at_ lv = some y
    change seg P Γ d fn (fun id lv => J P Γ d fn n (some id) lv) at_ lv = some y at h
    rcases zhn (P := P) (Γ := Γ) (d := d) (fn := fn) at_ lv with ⟨r, hr⟩ | ⟨id, lv', hr⟩
    · rw [hr] at h ⊢; exact h
    · rw [hr] at h ⊢; exact ih _ _ h
theorem J_le {n m : Nat} (hnm : n ≤ m) {at_ : Option Nat} {lv y : Lv} (h : J P Γ d fn n at_ lv = some y) : J P Γ d fn m at_ lv = some y := by
  induction m with
  | zero => have : n = 0 := by omega
            subst this; exact h
  | succ m ih =>
    rcases Nat.lt_or_ge n (m + 1) with hl | hl
    · exact zjk _ _ _ _ (ih (by omega))
    · have : n = m + 1 := by omega
      subst this; exact h
open Classical in
noncomputable def Lim (P : Program) (Γ : List Sig) (d : FD) (fn : Func) (at_ : Option Nat) (lv : Lv) : Option Lv :=
  if h : ∃ y n, J P Γ d fn n at_ lv = some y then some h.choose else none
theorem zd4 {at_ : Option Nat} {lv y : Lv} : Lim P Γ d fn at_ lv = some y ↔ ∃ n, J P Γ d fn n at_ lv = some y := by
  unfold Lim
  split
  · rename_i h
    obtain ⟨n, hn⟩ := h.choose_spec
    constructor
    · intro e; cases e; exact ⟨n, hn⟩
    · rintro ⟨m, hm⟩
      have h1 := J_le (Nat.le_max_left n m) hn
      have h2 := J_le (Nat.le_max_right n m) hm
      exact h1.symm.trans h2
  · rename_i h
    constructor
    · intro e; cases e
    · rintro ⟨m, hm⟩; exact absurd ⟨y, m, hm⟩ h
theorem zd (at_ : Option Nat) (lv : Lv) : Lim P Γ d fn at_ lv = seg P Γ d fn (fun id lv => Lim P Γ d fn (some id) lv) at_ lv := by
  apply Option.ext
  intro y
  rw [zd4]
  rcases zhn (P := P) (Γ := Γ) (d := d) (fn := fn) at_ lv with ⟨r, hr⟩ | ⟨id, lv', hr⟩
  · rw [hr]
    constructor
    · rintro ⟨n, hn⟩
      cases n with
      | zero => simp [J] at hn
      | succ n => simp only [J] at hn; rw [hr] at hn; exact hn
    · intro h; exact ⟨1, by simp only [J]; rw [hr]; exact h⟩
  · rw [hr, zd4]
    constructor
    · rintro ⟨n, hn⟩
      cases n with
      | zero => simp [J] at hn
      | succ n => simp only [J] at hn; rw [hr] at hn; exact ⟨n, hn⟩
    · rintro ⟨n, hn⟩; exact ⟨n + 1, by simp only [J]; rw [hr]; exact hn⟩
theorem zf (hΓ : Known P Γ) (hm : P.follows .mixedOrders = true) (hfn : P.funcs[d.fn]? = some fn) (hok : d.ok fn = true) : SigOk P (d.sig (Lim P Γ d fn none)) ∧ (d.sig (Lim P Γ d fn none)).ok = true :=
  sound hΓ hm hfn hok fun x y h => zd4.1 h
end Go.Eng
end
section
namespace Go.Eng
open Go
def fnOkB (P : Program) (f : FuncId) : Bool := match P.funcs[f]? with
  | some fn => !(fn.name == "runtime.NumGoroutine") && fn.body.isSome
  | none => false
theorem zlt {P : Program} {f : FuncId} (h : fnOkB P f = true) : fnOk P f := by
  unfold fnOkB at h
  unfold fnOk
  cases hf : P.funcs[f]? with
  | none => rw [hf] at h; cases h
  | some fn =>
    rw [hf] at h
    simp only [Bool.and_eq_true, Bool.not_eq_true'] at h
    obtain ⟨c, hc⟩ := Option.isSome_iff_exists.1 h.2
    exact ⟨fn, c, rfl, h.1, hc⟩
theorem zg {P : Program} : Known P [] := fun s h => by cases h
theorem ze {P : Program} {s : Sig} {Γ : List Sig} (h : SigOk P s ∧ s.ok = true) (hf : fnOkB P s.fn = true) (hΓ : Known P Γ) : Known P (s :: Γ) := fun s' h' => by
  rcases List.mem_cons.1 h' with rfl | h'
  · exact ⟨h.1, h.2, zlt hf⟩
  · exact hΓ s' h'
end Go.Eng
end
