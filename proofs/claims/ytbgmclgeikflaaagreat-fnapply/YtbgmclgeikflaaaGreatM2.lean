/- The reckoner: symbolic steps over the model's code, proved sound. -/
import Derived.Deep.Slices
import Derived.SizedLaws
import Derived.WideShapes
import Derived.Below
import Derived.Carry
import Derived.OpenShut
import Derived.ChangeOld
import Derived.Sort.Grow
import Derived.Sort.EncStr
import Derived.Test.YtbgmclgeikflaaaGreatM1
set_option linter.unusedSimpArgs false
set_option linter.unusedVariables false
set_option linter.unusedSectionVars false
section
namespace Go.Eng
open Go
section
variable {P : Program} {K K' : Kx} {X : Cx} {w : World} {lk : Lk} {Ef : Env} {X1 : Cx} {p : Pat} {X' : Cx} {z : Bool}
theorem Ren.cells (R : Ren P K X w lk Ef X1 p X' z) {ps : List PS} {cells : List AS} {base : Nat} (hz : z = true → ps.all PS.nf = true) (hm : F2 (Met lk Ef) ps ((cells.drop base).take ps.length)) {cs : Array Value} {off : Nat}
    (hc : ∀ j x, cells[j]? = some x → ∃ v, cs[off + j]? = some v ∧ Eng.RS P X x v) : ∀ j y, (ps.map (·.inst Ef.lv.reverse selfIm false))[j]? = some y → ∃ v, cs[off + base + j]? = some v ∧ Eng.RS P X' y v := by
  intro j y hj
  rw [List.getElem?_map] at hj
  cases hp : ps[j]? with
  | none => rw [hp] at hj; cases hj
  | some q =>
    rw [hp] at hj
    simp at hj; subst hj
    obtain ⟨x, h1, h2⟩ := hm.get hp
    have hlt : j < ps.length := (List.getElem?_eq_some_iff.1 hp).1
    rw [List.getElem?_take_of_lt hlt, List.getElem?_drop] at h1
    obtain ⟨v, a, b⟩ := hc (base + j) x h1
    exact ⟨v, by rw [Nat.add_assoc]; exact a, R.RS (fun h => by have := hz h; rw [List.all_eq_true] at this; exact this q (List.mem_of_getElem? hp)) h2 b⟩
theorem Ren.AOok (R : Ren P K X w lk Ef X1 p X' z) (hR : ∀ (j : Nat) (ps : List PS) (id base : Nat), p.objs[j]? = some (.rb ps) → bd Ef.ids j = some (.o id base) → K'.R (X.β id).blk)
    (hf : (∀ (j : Nat) (e : TypeId) (n : Nat), p.objs[j]? ≠ some (.rw e true n)) ∨ K'.h0 = K.h0) (j : Nat) : Eng.AOok P K' X' j := by
  unfold Eng.AOok
  cases hp : p.objs[j]? with
  | none => rw [R.ob', hp]; trivial
  | some q =>
    obtain ⟨b, hb, hm⟩ := R.m j q hp
    have hl := R.β' j b q hb hp
    rw [R.ob', hp]
    cases q with
    | bx ps =>
      obtain ⟨id, base, cells, rfl, h1, h2, h3⟩ := hm
      have hk := R.H.ok id
      unfold Eng.AOok at hk
      rw [lk_rw R.hlk h1 (by simp)] at hk
      obtain ⟨cs, ty, a1, a2⟩ := hk
      simp only [PO.inst]
      rw [hl, R.h']
      exact ⟨cs, ty, a1, R.cells (fun h => R.obnf hp h) h3 a2⟩
    | rb ps =>
      obtain ⟨id, base, cells, rfl, h1, h2, h3⟩ := hm
      have hbox := zfe R.H (id := id) (cells := cells) (h1.imp (fun h => lk_rw R.hlk h (by simp)) fun h => lk_rw R.hlk h (by simp))
      obtain ⟨cs, ty, fz, a1, a2⟩ := hbox
      simp only [PO.inst]
      rw [hl, R.h']
      exact ⟨hR j ps id base hp hb, cs, ty, fz, a1, R.cells (fun h => R.obnf hp h) h3 a2⟩
    | rw e fr n =>
      simp only [MetO] at hm
      simp only [PO.inst, Bool.or_false]
      have low : ∀ {fr' : Bool} {cs : Array Value} {off : Nat} {xs : Rw}, (fr = true → fr' = true) → (Ef.af = true → fr' = true) → RowAt P (Con P X.h (X.F fr') 7) e cs off xs → RowAt P (Con P X'.h (X'.F fr) 7) e cs off xs := by
        intro fr' cs off xs h1 h2 h
        exact h.mono fun _ _ _ hx => Con.mono (fun n hn => R.F' fr fr' (fun h => by have := R.obnf hp h; simpa [PO.nf] using this) h1 h2 n (R.fz.stp.ext.F fr' n hn)) (fun n hn => by rw [R.h']) hx
      have hfr : ∀ {fr' : Bool} {blk : Nat}, (fr = true → fr' = true) → (fr' = true → K.h0.size ≤ blk) → fr = true → K'.h0.size ≤ blk := by
        intro fr' blk h1 h2 h3
        subst h3
        rcases hf with hf | hf
        · exact absurd hp (hf j e n)
        · rw [hf]; exact h2 (h1 rfl)
      rcases hm with ⟨id, fr', xs, ser, rfl, h1, h2, h3, h4⟩ | ⟨id, lo, hi, fr', xs, ser, rfl, h1, h2, h3, h4⟩ | ⟨rfl, h4⟩ <;> rw [g_of h4]
      · have hk := R.H.ok id
        unfold Eng.AOok at hk
        rw [lk_rw R.hlk h1 (by simp)] at hk
        rw [hl]
        rcases hk with ⟨a1, a2, a3⟩ | ⟨a1, a2, a3, cs, ty, a4, a5, a6⟩
        · exact .inl ⟨a1, a2, a3⟩
        · exact .inr ⟨a1, a2, hfr h2 a3, cs, ty, by rw [R.h']; exact a4, a5, low h2 h3 a6⟩
      · have hob := lk_rw R.hlk h1 (by simp)
        have hk := R.H.ok id
        unfold Eng.AOok at hk
        rw [hob] at hk
        rw [hl]
        show ((X.β id).nil = true ∧ Eng.sub xs lo hi = [] ∧ (X.β id).cap - lo = 0) ∨ ((X.β id).nil = false ∧ (Eng.sub xs lo hi).length ≤ (X.β id).cap - lo ∧ (fr = true → K'.h0.size ≤ (X.β id).blk) ∧
          ∃ cs ty, X'.h[(X.β id).blk]? = some (.cells cs ty (0, 0)) ∧ (if (X.β id).cap ≤ lo then (X.β id).off else (X.β id).off + lo * esz P e) + ((X.β id).cap - lo) * esz P e ≤ cs.size ∧
            RowAt P (Con P X'.h (X'.F fr) 7) e cs (if (X.β id).cap ≤ lo then (X.β id).off else (X.β id).off + lo * esz P e) (Eng.sub xs lo hi))
        have hlen : (Eng.sub xs lo hi).length ≤ xs.length - lo := by simp [Eng.sub]; omega
        rcases hk with ⟨a1, a2, a3⟩ | ⟨a1, a2, a3, cs, ty, a4, a5, a6⟩
        · exact .inl ⟨a1, by rw [a2]; simp [Eng.sub], by omega⟩
        · refine .inr ⟨a1, by omega, hfr h2 a3, cs, ty, by rw [R.h']; exact a4, ?_, ?_⟩
          · by_cases hc : (X.β id).cap ≤ lo
            · rw [if_pos hc, Nat.sub_eq_zero_of_le hc, Nat.zero_mul]; omega
            · rw [if_neg hc, Nat.add_assoc, ← Nat.add_mul, show lo + ((X.β id).cap - lo) = (X.β id).cap by omega]; exact a5
          · by_cases hc : (X.β id).cap ≤ lo
            · rw [if_pos hc]
              have : Eng.sub xs lo hi = [] := List.eq_nil_of_length_eq_zero (by omega)
              rw [this]; intro i hi; simp at hi
            · rw [if_neg hc]
              intro i hi' o ho
              obtain ⟨v, b1, b2⟩ := low h2 h3 a6 (lo + i) (by omega) o ho
              refine ⟨v, ?_, ?_⟩
              · rw [← b1]; congr 1; rw [Nat.add_mul]; omega
              · have : i < hi - lo := by simp [Eng.sub] at hi'; omega
                rw [zlz this]; exact b2
      · rw [hl]; exact .inl ⟨rfl, rfl, rfl⟩
    | mp kt vt n =>
      obtain ⟨id, es, rfl, h1, h2⟩ := hm
      have hk := R.H.ok id
      unfold Eng.AOok at hk
      rw [lk_rw R.hlk h1 (by simp)] at hk
      simp only [PO.inst, g_of h2]
      rw [hl, R.h']
      exact hk
theorem Ren.own (R : Ren P K X w lk Ef X1 p X' z) {j : Nat} (h : Own X' j) : ∃ b id, bd Ef.ids j = some b ∧ id ∈ b.ids ∧ Own X id ∧ (X'.β j).blk = (X.β id).blk := by
  unfold Own at h
  cases hp : p.objs[j]? with
  | none => rw [R.ob', hp] at h; exact h.elim
  | some q =>
    obtain ⟨b, hb, hm⟩ := R.m j q hp
    have hl := R.β' j b q hb hp
    rw [R.ob', hp] at h
    cases q with
    | bx ps =>
      obtain ⟨id, base, cells, rfl, h1, h2, h3⟩ := hm
      exact ⟨_, id, hb, by simp [Bd.ids], by unfold Own; rw [lk_rw R.hlk h1 (by simp)]; trivial, by rw [hl]; rfl⟩
    | rb ps => exact h.elim
    | rw e fr n =>
      simp only [PO.inst] at h
      simp only [MetO] at hm
      rcases hm with ⟨id, fr', xs, ser, rfl, h1, h2, h3, h4⟩ | ⟨id, lo, hi, fr', xs, ser, rfl, h1, h2, h3, h4⟩ | ⟨rfl, h4⟩
      · rw [hl] at h
        exact ⟨_, id, hb, by simp [Bd.ids], by unfold Own; rw [lk_rw R.hlk h1 (by simp)]; exact h, by rw [hl]; rfl⟩
      · rw [hl] at h
        exact ⟨_, id, hb, by simp [Bd.ids], by unfold Own; rw [lk_rw R.hlk h1 (by simp)]; exact h, by rw [hl]; rfl⟩
      · rw [hl] at h; simp [bdLoc] at h
    | mp kt vt n =>
      obtain ⟨id, es, rfl, h1, h2⟩ := hm
      exact ⟨_, id, hb, by simp [Bd.ids], by unfold Own; rw [lk_rw R.hlk h1 (by simp)]; trivial, by rw [hl]; rfl⟩
theorem zfr {α : Type} {f : α → List Nat} : ∀ {l : List α}, (l.flatMap f).Nodup → ∀ {x y : α} {a : Nat}, x ∈ l → y ∈ l → a ∈ f x → a ∈ f y → x = y
  | [], _, x, _, _, hx, _, _, _ => by simp at hx
  | z :: l, h, x, y, a, hx, hy, hax, hay => by
    rw [List.flatMap_cons, List.nodup_append] at h
    obtain ⟨_, h2, h3⟩ := h
    have mem : ∀ {x : α}, x ∈ l → a ∈ f x → a ∈ l.flatMap f := fun hx ha => List.mem_flatMap.2 ⟨_, hx, ha⟩
    rcases List.mem_cons.1 hx with e1 | hx' <;> rcases List.mem_cons.1 hy with e2 | hy'
    · rw [e1, e2]
    · subst e1; exact absurd rfl (h3 a hax a (mem hy' hay))
    · subst e2; exact absurd rfl (h3 a hay a (mem hx' hax))
    · exact zfr h2 hx' hy' hax hay
theorem Ren.heap (R : Ren P K X w lk Ef X1 p X' z) (hR : ∀ (j : Nat) (ps : List PS) (id base : Nat), p.objs[j]? = some (.rb ps) → bd Ef.ids j = some (.o id base) → K'.R (X.β id).blk)
    (hf : (∀ (j : Nat) (e : TypeId) (n : Nat), p.objs[j]? ≠ some (.rw e true n)) ∨ K'.h0 = K.h0) (nod : (Ef.ids.flatMap fun x => x.2.ids).Nodup) (nbo : ∀ id ∈ Ef.bo, id ∉ Ef.ids.flatMap fun x => x.2.ids)
    (hsub : ∀ b, X'.F false b → X1.F false b) (hle : ∀ b, X'.F true b → X'.F false b) (hfr : ∀ b, X'.F true b → K'.h0.size ≤ b) (hsz : K'.h0.size ≤ X.h.size) (hRsz : ∀ b, K'.R b → b < K'.h0.size)
    (hnR : ∀ j, Own X' j → ¬ K'.R (X'.β j).blk) (hoM : ∀ j, Own X' j → K'.M (X'.β j).blk ∨ K'.h0.size ≤ (X'.β j).blk) : Heap P K' X' := by
  have own1 : ∀ {j b id}, bd Ef.ids j = some b → id ∈ b.ids → Own X id → Own X1 id := by
    intro j b id hb hi ho
    have hn : id ∉ Ef.bo := fun h => nbo id h (List.mem_flatMap.2 ⟨_, zcc hb, hi⟩)
    unfold Own at ho ⊢
    rw [R.fz.ob, zhi hn, R.fz.β]; exact ho
  refine ⟨R.AOok hR hf, fun j j' h h' he => ?_, fun j h hF => ?_, hnR, hoM, hle, hfr, fun b hb => ?_, hRsz, by rw [R.h']; exact hsz⟩
  · obtain ⟨b, id, a1, a2, a3, a4⟩ := R.own h
    obtain ⟨b', id', b1, b2, b3, b4⟩ := R.own h'
    have := R.H.inj id id' a3 b3 (by rw [← a4, ← b4]; exact he)
    subst this
    have := zfr nod (zcc a1) (zcc b1) a2 b2
    cases this; rfl
  · obtain ⟨b, id, a1, a2, a3, a4⟩ := R.own h
    have := R.fz.stp.heap.nF id (own1 a1 a2 a3)
    rw [R.fz.β, ← a4] at this
    exact this (hsub _ hF)
  · rw [R.h', ← R.fz.h]; exact R.fz.stp.heap.Fsz b (hsub b hb)
end
end Go.Eng
end
section
namespace Go.Eng
open Go
structure Aft (P : Program) (X' X'' : Cx) (po : List PO) (sh : Bool) (y : Lv) (im : Im) (fo : Bool) : Prop where
  h : X''.h = X'.h
  F : ∀ fr b, (fr = true ∨ sh = true) → X'.F fr b → X''.F (fr || fo) b
  ob : ∀ j, X'.ob j = match po[j]? with | some q => q.inst y selfIm false | none => .dead
  bx : ∀ j ps, po[j]? = some (.bx ps) → (∃ cells, X''.ob (im j).1 = .bx cells) ∧ ∀ o, (X''.β (im j).1).ptr ((im j).2 + o) = (X'.β j).ptr o
  mp : ∀ j kt vt n, po[j]? = some (.mp kt vt n) → (∃ kt vt es, X''.ob (im j).1 = .mp kt vt es) ∧ (X''.β (im j).1).blk = (X'.β j).blk
  rw : ∀ j e fr n, po[j]? = some (.rw e fr n) → (∃ ser, X''.ob (im j).1 = .rw e (fr || fo) (g y n).list ser) ∧ X''.β (im j).1 = X'.β j
  nrb : ∀ (j : Nat) (ps : List PS), po[j]? ≠ some (.rb ps)
section
variable {P : Program} {X' X'' : Cx} {po : List PO} {sh : Bool} {y : Lv} {im : Im} {fo : Bool}
theorem Aft.box (R : Aft P X' X'' po sh y im fo) {j : Nat} {Q : Prop} (h : RefBx X' j Q) : (∃ cells, X''.ob (im j).1 = .bx cells) ∧ (∀ o, (X''.β (im j).1).ptr ((im j).2 + o) = (X'.β j).ptr o) ∧ Q := by
  unfold RefBx at h
  rw [R.ob] at h
  cases hp : po[j]? with
  | none => rw [hp] at h; exact h.elim
  | some q =>
    rw [hp] at h
    cases q with
    | bx ps => obtain ⟨a, b⟩ := R.bx j ps hp; exact ⟨a, b, h⟩
    | rb ps => exact absurd hp (R.nrb j ps)
    | rw e fr n => exact h.elim
    | mp kt vt n => exact h.elim
theorem Aft.RS (R : Aft P X' X'' po sh y im fo) {q : PS} {v : Value} (ht : q.tr = true ∨ sh = true) (hr : Eng.RS P X' (q.inst y selfIm false) v) : Eng.RS P X'' (q.inst y im fo) v := by
  cases q <;> simp only [PS.inst] at hr ⊢
  case un => trivial
  case i k n => exact hr
  case b n => exact hr
  case s n => exact hr
  case fz e fr n =>
    obtain ⟨A, cap, a, b, c⟩ := hr
    rw [Bool.or_false] at c
    exact ⟨A, cap, a, b, Con.mono (fun n hn => R.F fr n ht hn) (fun n hn => by rw [R.h]) c⟩
  case ow j =>
    obtain ⟨h1, h2⟩ := hr
    refine ⟨h1, ?_⟩
    have h2' : RefRw X' j 0 fun e xs => v = .slice (slAddr P e (X'.β j) 0) xs.length (X'.β j).cap := h2
    unfold RefRw at h2'
    rw [R.ob] at h2'
    cases hp : po[j]? with
    | none => rw [hp] at h2'; exact h2'.elim
    | some q =>
      rw [hp] at h2'
      cases q with
      | bx ps => obtain ⟨⟨c, hc⟩, _⟩ := R.bx j ps hp; unfold RefRw; rw [hc]; trivial
      | rb ps => exact absurd hp (R.nrb j ps)
      | rw e fr n =>
        obtain ⟨⟨ser, a⟩, b⟩ := R.rw j e fr n hp
        unfold RefRw
        rw [a]
        exact ⟨Nat.zero_le _, fun _ => by rw [b]; exact h2'.2 rfl⟩
      | mp kt vt n => obtain ⟨⟨_, _, _, hc⟩, _⟩ := R.mp j kt vt n hp; unfold RefRw; rw [hc]; trivial
  case pt j o =>
    obtain ⟨⟨c, hc⟩, b, d⟩ := R.box (show RefBx X' j _ from hr)
    refine RefBx.mk ⟨c, .inl hc⟩ ?_
    rw [b, d]
    show Value.pointer (some ((X'.β j).ptr (0 + o))) = _
    rw [Nat.zero_add]
  case fn f caps =>
    obtain ⟨h1, h2⟩ := hr
    refine ⟨fun c hc => ?_, ?_⟩
    · rw [List.mem_map] at hc
      obtain ⟨d, hd, rfl⟩ := hc
      obtain ⟨⟨c, hc⟩, _⟩ := R.box (h1 (d.1, 0 + d.2) (List.mem_map.2 ⟨d, hd, rfl⟩))
      exact RefBx.mk ⟨c, .inl hc⟩ trivial
    · rw [h2]
      simp only [List.map_map]
      congr 2
      apply List.map_congr_left
      intro d hd
      obtain ⟨_, b, _⟩ := R.box (h1 (d.1, 0 + d.2) (List.mem_map.2 ⟨d, hd, rfl⟩))
      show Value.pointer (some ((X'.β d.1).ptr (0 + d.2))) = Value.pointer (some ((X''.β (im d.1).1).ptr ((im d.1).2 + d.2)))
      rw [b, Nat.zero_add]
  case mp j =>
    have h2 : RefMp X' j (v = .map (some (X'.β j).blk)) := hr
    unfold RefMp at h2
    rw [R.ob] at h2
    cases hp : po[j]? with
    | none => rw [hp] at h2; exact h2.elim
    | some q =>
      rw [hp] at h2
      cases q with
      | bx ps => exact h2.elim
      | rb ps => exact h2.elim
      | rw e fr n => exact h2.elim
      | mp kt vt n =>
        obtain ⟨⟨_, _, _, a⟩, b⟩ := R.mp j kt vt n hp
        show RefMp X'' (im j).1 _
        unfold RefMp
        rw [a]
        show v = .map (some (X''.β (im j).1).blk)
        rw [b]; exact h2
theorem Aft.RSs (R : Aft P X' X'' po sh y im fo) : ∀ {ps : List PS} {vs : List Value}, (ps.all PS.tr = true ∨ sh = true) → Eng.RSs P X' (ps.map (·.inst y selfIm false)) vs → Eng.RSs P X'' (ps.map (·.inst y im fo)) vs
  | [], _, _, h => by cases h; exact .nil
  | p :: ps, _, ht, h => by
    cases h with
    | cons a b =>
      simp only [List.all_cons, Bool.and_eq_true] at ht
      exact .cons (R.RS (ht.imp (·.1) id) a) (R.RSs (ht.imp (·.2) id) b)
theorem Aft.RV (R : Aft P X' X'' po sh y im fo) {q : PV} {v : Value} (ht : q.tr = true ∨ sh = true) (hr : Eng.RV P X' (q.inst y selfIm false) v) : Eng.RV P X'' (q.inst y im fo) v := by
  cases q with
  | sc p => exact R.RS ht hr
  | ag ps => obtain ⟨cs, a, b⟩ := hr; exact ⟨cs, a, R.RSs ht b⟩
  | tu ts =>
    obtain ⟨vs, a, b⟩ := hr
    refine ⟨vs, a, ?_⟩
    have : ∀ {ts : List (Bool × List PS)} {us : List Value}, (ts.all (fun t => t.2.all PS.tr) = true ∨ sh = true) → F2 (RT P X') (ts.map fun x => (x.1, x.2.map (·.inst y selfIm false))) us → F2 (RT P X'') (ts.map fun x => (x.1, x.2.map (·.inst y im fo))) us := by
      intro ts
      induction ts with
      | nil => intro us _ h; cases h; exact .nil
      | cons t ts ih =>
        intro us ht h
        cases h with
        | cons a b =>
          simp only [List.all_cons, Bool.and_eq_true] at ht
          refine .cons ?_ (ih (ht.imp (·.2) id) b)
          obtain ⟨tb, tl⟩ := t
          cases tb
          · exact R.RSs (ht.imp (·.1) id) a
          · obtain ⟨cs, c1, c2⟩ := a; exact ⟨cs, c1, R.RSs (ht.imp (·.1) id) c2⟩
    exact this ht b
end
end Go.Eng
end
section
namespace Go.Eng
open Go
theorem zfj {α : Type} {d : α} : ∀ {l : List (Nat × α)} {n : Nat}, (∀ v, (n, v) ∉ l) → look d l n = d
  | [], _, _ => rfl
  | (k, v) :: r, n, h => by
    simp only [look]
    rw [zbq (fun e => by subst e; exact h v (by simp))]
    exact zfj fun v hv => h v (by simp [hv])
theorem ze1 {α : Type} {d : α} : ∀ {l : List (Nat × α)} {n : Nat} {v : α}, (n, v) ∈ l → (∀ v', (n, v') ∈ l → v' = v) → look d l n = v
  | [], _, _, h, _ => by simp at h
  | (k, u) :: r, n, v, h, hu => by
    simp only [look]
    by_cases e : k = n
    · subst e; simp; exact hu u (by simp)
    · rw [zbq e]
      rcases List.mem_cons.1 h with h | h
      · cases h; exact absurd rfl e
      · exact ze1 h fun v' hv => hu v' (by simp [hv])
theorem zdp {α : Type} : ∀ {l : List α} {n k : Nat} {x : α}, (k, x) ∈ numbered n l ↔ ∃ i, l[i]? = some x ∧ k = n + i
  | [], n, k, x => by simp [numbered]
  | y :: l, n, k, x => by
    simp only [numbered, List.mem_cons, zdp (l := l)]
    constructor
    · rintro (h | ⟨i, h1, h2⟩)
      · cases h; exact ⟨0, by simp, by simp⟩
      · exact ⟨i + 1, by simpa using h1, by omega⟩
    · rintro ⟨i, h1, h2⟩
      cases i with
      | zero => simp at h1; subst h1; left; simp [h2]
      | succ i => right; exact ⟨i, by simpa using h1, by omega⟩
theorem zd2 {lk : Lk} {ids : List (Nat × Bd)} {lv : Lv} {im : Im} {fo : Bool} {x : Nat × AO} : ∀ {n j : Nat} {ps : List PO}, x ∈ back lk ids lv im fo n j ps ↔ ∃ i p b, i < n ∧ ps[i]? = some p ∧ bd ids (j + i) = some b ∧ x ∈ back1 lk lv im fo b p
  | 0, j, ps => by simp [back]
  | n + 1, j, [] => by simp [back]
  | n + 1, j, p :: ps => by
    simp only [back]
    have ih := @zd2 lk ids lv im fo x n (j + 1) ps
    cases hb : bd ids j with
    | none =>
      simp only [ih]
      constructor
      · rintro ⟨i, q, b, h1, h2, h3, h4⟩
        exact ⟨i + 1, q, b, by omega, by simpa using h2, by rw [← h3]; congr 1; omega, h4⟩
      · rintro ⟨i, q, b, h1, h2, h3, h4⟩
        cases i with
        | zero => simp at h3; rw [hb] at h3; cases h3
        | succ i => exact ⟨i, q, b, by omega, by simpa using h2, by rw [← h3]; congr 1; omega, h4⟩
    | some b =>
      simp only [List.mem_append, ih]
      constructor
      · rintro (h | ⟨i, q, b, h1, h2, h3, h4⟩)
        · exact ⟨0, p, b, by omega, by simp, hb, h⟩
        · exact ⟨i + 1, q, b, by omega, by simpa using h2, by rw [← h3]; congr 1; omega, h4⟩
      · rintro ⟨i, q, b', h1, h2, h3, h4⟩
        cases i with
        | zero => simp at h3 h2; rw [hb] at h3; cases h3; subst h2; exact .inl h4
        | succ i => exact .inr ⟨i, q, b', by omega, by simpa using h2, by rw [← h3]; congr 1; omega, h4⟩
theorem zfo {lk : Lk} {lv : Lv} {im : Im} {fo : Bool} {b : Bd} {p : PO} {id : Nat} {o : AO} (h : (id, o) ∈ back1 lk lv im fo b p) : ∃ base, b = .o id base ∧
    ((∃ qs cells, p = .bx qs ∧ lk id = .bx cells ∧ o = .bx (setMany cells base (qs.map (·.inst lv im fo)))) ∨ (∃ kt vt n, p = .mp kt vt n ∧ o = .mp kt vt (g lv n).map) ∨ ∃ e fr n e' fr' xs ser, p = .rw e fr n ∧ lk id = .rw e' fr' xs ser ∧ o = .rw e (fr || fo) (g lv n).list ser) := by
  unfold back1 at h
  split at h
  · rename_i id' base qs
    split at h
    · rename_i cells hl
      simp at h
      obtain ⟨rfl, rfl⟩ := h
      exact ⟨base, rfl, .inl ⟨qs, cells, rfl, hl, rfl⟩⟩
    · simp at h
  · simp at h
    obtain ⟨rfl, rfl⟩ := h
    exact ⟨_, rfl, .inr (.inl ⟨_, _, _, rfl, rfl⟩)⟩
  · rename_i id' base e fr n
    split at h
    · rename_i e' fr' xs ser hl
      simp at h
      obtain ⟨rfl, rfl⟩ := h
      exact ⟨base, rfl, .inr (.inr ⟨e, fr, n, e', fr', xs, ser, rfl, hl, rfl⟩)⟩
    · simp at h
  · simp at h
theorem zdx {nb : Nat} {ids : List (Nat × Bd)} {id : Nat} {o : AO} : ∀ {ps : List PO} {j : Nat}, (id, o) ∈ given nb ids j ps ↔ o = .gone ∧ ∃ i e fr n b, nb ≤ j + i ∧ ps[i]? = some (.rw e fr n) ∧ bd ids (j + i) = some b ∧ id ∈ b.ids
  | [], j => by simp [given]
  | p :: ps, j => by
    have ih := @zdx nb ids id o ps (j + 1)
    have skip : (nb ≤ j → ∀ e fr n, p = .rw e fr n → ∀ b, bd ids j = some b → id ∉ b.ids) → ((o = .gone ∧ ∃ i e fr n b, nb ≤ j + 1 + i ∧ ps[i]? = some (.rw e fr n) ∧ bd ids (j + 1 + i) = some b ∧ id ∈ b.ids) ↔
        (o = .gone ∧ ∃ i e fr n b, nb ≤ j + i ∧ (p :: ps)[i]? = some (.rw e fr n) ∧ bd ids (j + i) = some b ∧ id ∈ b.ids)) := by
      intro hp
      constructor
      · rintro ⟨h0, i, e, fr, n, b, hn, h1, h2, h3⟩
        exact ⟨h0, i + 1, e, fr, n, b, by omega, by simpa using h1, by rw [← h2]; congr 1; omega, h3⟩
      · rintro ⟨h0, i, e, fr, n, b, hn, h1, h2, h3⟩
        cases i with
        | zero => simp at h1 h2; exact absurd h3 (hp (by omega) _ _ _ h1 b h2)
        | succ i => exact ⟨h0, i, e, fr, n, b, by omega, by simpa using h1, by rw [← h2]; congr 1; omega, h3⟩
    simp only [given]
    cases hble : Nat.ble nb j
    · rw [cond_false, ih]
      refine skip fun hn => ?_
      rw [Nat.ble_eq_true_of_le hn] at hble; cases hble
    have hnb := Nat.le_of_ble_eq_true hble
    rw [cond_true]
    split
    · rename_i e fr n id' base hb
      rw [List.mem_cons, ih]
      constructor
      · rintro (h | ⟨h0, i, e, fr, n, b, hn, h1, h2, h3⟩)
        · cases h; exact ⟨rfl, 0, e, fr, n, _, by omega, rfl, hb, by simp [Bd.ids]⟩
        · exact ⟨h0, i + 1, e, fr, n, b, by omega, by simpa using h1, by rw [← h2]; congr 1; omega, h3⟩
      · rintro ⟨h0, i, e, fr, n, b, hn, h1, h2, h3⟩
        cases i with
        | zero => simp at h1 h2; rw [hb] at h2; cases h2; simp [Bd.ids] at h3; left; rw [h0, h3]
        | succ i => exact .inr ⟨h0, i, e, fr, n, b, by omega, by simpa using h1, by rw [← h2]; congr 1; omega, h3⟩
    · rename_i e fr n id' lo hi hb
      rw [List.mem_cons, ih]
      constructor
      · rintro (h | ⟨h0, i, e, fr, n, b, hn, h1, h2, h3⟩)
        · cases h; exact ⟨rfl, 0, e, fr, n, _, by omega, rfl, hb, by simp [Bd.ids]⟩
        · exact ⟨h0, i + 1, e, fr, n, b, by omega, by simpa using h1, by rw [← h2]; congr 1; omega, h3⟩
      · rintro ⟨h0, i, e, fr, n, b, hn, h1, h2, h3⟩
        cases i with
        | zero => simp at h1 h2; rw [hb] at h2; cases h2; simp [Bd.ids] at h3; left; rw [h0, h3]
        | succ i => exact .inr ⟨h0, i, e, fr, n, b, by omega, by simpa using h1, by rw [← h2]; congr 1; omega, h3⟩
    · rename_i hn1 hn2
      rw [ih]
      refine skip fun _ e fr n hp b hb hm => ?_
      cases b with
      | o id' base => exact hn1 e fr n id' base hp hb
      | nil => simp [Bd.ids] at hm
      | sb id' lo hi => exact hn2 e fr n id' lo hi hp hb
theorem zc5 : ∀ {n : Nat} {ps qs : List PO}, stays n ps qs = true → ∀ j, j < n → (∃ as bs, ps[j]? = some (.bx as) ∧ qs[j]? = some (.bx bs) ∧ as.length = bs.length) ∨ (∃ kt vt a b, ps[j]? = some (.mp kt vt a) ∧ qs[j]? = some (.mp kt vt b)) ∨ ∃ e fr a fr' b, ps[j]? = some (.rw e fr a) ∧ qs[j]? = some (.rw e fr' b)
  | 0, _, _, _, j, hj => by omega
  | n + 1, ps, qs, h, j, hj => by
    unfold stays at h
    split at h
    · rename_i hx; cases hx
    · rename_i n' as r bs r' hx
      cases hx
      simp only [Bool.and_eq_true] at h
      cases j with
      | zero => exact .inl ⟨as, bs, rfl, rfl, zg h.1⟩
      | succ j => simpa using zc5 h.2 j (by omega)
    · rename_i n' kt vt a r kt' vt' b r' hx
      cases hx
      simp only [Bool.and_eq_true] at h
      have e1 := zg h.1.1; have e2 := zg h.1.2; subst e1 e2
      cases j with
      | zero => exact .inr (.inl ⟨kt, vt, a, b, rfl, rfl⟩)
      | succ j => simpa using zc5 h.2 j (by omega)
    · rename_i n' e fr a r e' fr' b r' hx
      cases hx
      simp only [Bool.and_eq_true] at h
      have e1 := zg h.1; subst e1
      cases j with
      | zero => exact .inr (.inr ⟨e, fr, a, fr', b, rfl, rfl⟩)
      | succ j => simpa using zc5 h.2 j (by omega)
    · cases h
theorem zh3 {ids : List (Nat × Bd)} : ∀ {n j : Nat} {ps : List PO}, bdOk ids n j ps = true → ∀ i e fr a, i < n → ps[i]? = some (.rw e fr a) → ∃ id base, bd ids (j + i) = some (.o id base)
  | 0, j, ps, h, i, e, fr, a, hi, hp => by omega
  | n + 1, j, [], h, i, e, fr, a, hi, hp => by simp at hp
  | n + 1, j, p :: ps, h, i, e, fr, a, hi, hp => by
    cases i with
    | zero =>
      simp at hp; subst hp
      simp only [bdOk, Bool.and_eq_true] at h
      have h1 := h.1
      split at h1
      · rename_i id base hb; exact ⟨id, base, hb⟩
      · cases h1
    | succ i =>
      have h2 : bdOk ids n (j + 1) ps = true := by
        cases p <;> simp only [bdOk, Bool.and_eq_true] at h <;> first | exact h.2 | exact h
      have := zh3 h2 i e fr a (by omega) (by simpa using hp)
      rw [show j + (i + 1) = j + 1 + i by omega]; exact this
theorem zj0 {lk : Lk} : ∀ {n j : Nat} {ps : List PO}, rwOk lk n j ps = true → ∀ i e fr a, i < n → ps[i]? = some (.rw e fr a) → ∃ e fr xs, lk (j + i) = .rw e fr xs 0
  | 0, j, ps, h, i, e, fr, a, hi, hp => by omega
  | n + 1, j, [], h, i, e, fr, a, hi, hp => by simp at hp
  | n + 1, j, p :: ps, h, i, e, fr, a, hi, hp => by
    cases i with
    | zero =>
      simp at hp; subst hp
      simp only [rwOk, Bool.and_eq_true] at h
      have h1 := h.1
      split at h1
      · rename_i e fr xs hb; exact ⟨e, fr, xs, hb⟩
      · cases h1
    | succ i =>
      have h2 : rwOk lk n (j + 1) ps = true := by
        cases p <;> simp only [rwOk, Bool.and_eq_true] at h <;> first | exact h.2 | exact h
      have := zj0 h2 i e fr a (by omega) (by simpa using hp)
      rw [show j + (i + 1) = j + 1 + i by omega]; exact this
end Go.Eng
end
section
namespace Go.Eng
open Go
def kx (X0 : Cx) : Kx := ⟨X0.h, fun b => b < X0.h.size ∧ ∀ j, Own X0 j → (X0.β j).blk ≠ b, fun b => ∃ j, Own X0 j ∧ (X0.β j).blk = b⟩
structure Past (P : Program) (K : Kx) (nb : Nat) (X0 : Cx) (w0 : World) (X : Cx) (w : World) : Prop where
  heap : Heap P K X
  hX : X.h = w.heap
  os : w.os = w0.os
  tape : w.tape = w0.tape
  output : w.output = w0.output
  sz : X0.h.size ≤ X.h.size
  fr : ∀ b, b < X0.h.size → (∀ id, Own X0 id → (X0.β id).blk ≠ b) → X.h[b]? = X0.h[b]?
  own : ∀ id, Own X id → X0.h.size ≤ (X.β id).blk ∨ ∃ id0, Own X0 id0 ∧ (X0.β id0).blk = (X.β id).blk
  Fnew : ∀ b, X.F false b → X0.F false b ∨ X0.h.size ≤ b ∨ ∃ id, Own X0 id ∧ (X0.β id).blk = b
  kp : ∀ j, j < nb → Keeps X0 X j
  box : ∀ j cells, j < nb → X0.ob j = .bx cells → BoxK X0 X j cells.length
def obOf (ps : List PO) (y : Lv) : Nat → AO := fun j => match ps[j]? with | some q => q.inst y selfIm false | none => .dead
structure Cal (P : Program) (K : Kx) (X : Cx) (w : World) (lk : Lk) (E : Env) (s : Sig) (nid : Nat) (y : Lv) (X1 X0 Xb X' : Cx) (w' : World) : Prop where
  R : Ren P K X w lk E X1 s.pre X0 true
  H0 : Heap P (kx X0) X0
  F0 : ∀ fr b, X0.F fr b ↔ fr = false ∧ X1.F E.af b
  nod : (E.ids.flatMap fun x => x.2.ids).Nodup
  nbo : ∀ id ∈ E.bo, id ∉ E.ids.flatMap fun x => x.2.ids
  ok : s.ok = true
  dead : ∀ t, t < s.post.objs.length - s.nb → X.ob (nid + t) = .dead
  b : (s.sh = true ∧ Xb = X1) ∨ (s.sh = false ∧ Xb = X)
  pa : Past P (kx X0) s.nb X0 w X' w'
  ob' : X'.ob = obOf s.post.objs y
  whole : bdOk E.ids s.nb 0 s.pre.objs = true
section
variable {P : Program} {K : Kx} {X : Cx} {w : World} {lk : Lk} {E : Env} {s : Sig} {nid : Nat} {y : Lv} {X1 X0 Xb X' : Cx} {w' : World}
def Set_ (E : Env) (s : Sig) (nid : Nat) (id : Nat) : Prop := (∃ t, t < s.post.objs.length - s.nb ∧ id = nid + t) ∨ ∃ j b, bd E.ids j = some b ∧ id ∈ b.ids ∧ (j < s.nb ∨ ∃ e fr n, s.pre.objs[j]? = some (.rw e fr n))
def wsOf (s : Sig) (lk : Lk) (nid : Nat) (E : Env) (y : Lv) : List (Nat × AO) :=
  back lk E.ids y (bdIm E.ids s.nb nid) E.af s.nb 0 s.post.objs ++ (numbered nid ((s.post.objs.drop s.nb).map (·.inst y (bdIm E.ids s.nb nid) E.af)) ++ given s.nb E.ids 0 s.pre.objs)
def cxOf (s : Sig) (lk : Lk) (nid : Nat) (E : Env) (y : Lv) (Xb X' : Cx) : Cx :=
  ⟨fun id => if nid ≤ id ∧ id < nid + (s.post.objs.length - s.nb) then X'.β (s.nb + (id - nid)) else Xb.β id,
   fun fr b => Xb.F fr b ∨ X'.F true b ∨ (s.sh = true ∧ (fr = false ∨ E.af = true) ∧ X'.F false b), updl Xb.ob (wsOf s lk nid E y), X'.h⟩
theorem Cal.parts (C : Cal P K X w lk E s nid y X1 X0 Xb X' w') : s.pre.nf = true ∧ stays s.nb s.pre.objs s.post.objs = true ∧ (∀ q ∈ s.pre.objs.drop s.nb, q.lent = true) ∧ (∀ q ∈ s.post.objs.drop s.nb, q.new = true) ∧ s.post.vals.length = 1 ∧ (s.sh = true ∨ s.post.tr = true) := by
  have := C.ok
  simp only [Sig.ok, Bool.and_eq_true, List.all_eq_true, Bool.or_eq_true] at this
  exact ⟨this.1, this.2.1, this.2.2.1, this.2.2.2.1, zg this.2.2.2.2.1, this.2.2.2.2.2⟩
theorem Cal.uniq (C : Cal P K X w lk E s nid y X1 X0 Xb X' w') {j j' id : Nat} {b b' : Bd} (h : bd E.ids j = some b) (h' : bd E.ids j' = some b') (hi : id ∈ b.ids) (hi' : id ∈ b'.ids) : j = j' ∧ b = b' := by
  have := zfr C.nod (zcc h) (zcc h') hi hi'
  cases this; exact ⟨rfl, rfl⟩
theorem Cal.nobo (C : Cal P K X w lk E s nid y X1 X0 Xb X' w') {j id : Nat} {b : Bd} (h : bd E.ids j = some b) (hi : id ∈ b.ids) : id ∉ E.bo := fun hm => C.nbo id hm (List.mem_flatMap.2 ⟨_, zcc h, hi⟩)
theorem Cal.Xbob (C : Cal P K X w lk E s nid y X1 X0 Xb X' w') {id : Nat} (h : id ∉ E.bo) : Xb.ob id = X.ob id := by
  rcases C.b with ⟨_, h1⟩ | ⟨_, h1⟩
  · rw [h1, C.R.fz.ob, zhi h]
  · rw [h1]
theorem Cal.Xbβ (C : Cal P K X w lk E s nid y X1 X0 Xb X' w') : Xb.β = X.β := by
  rcases C.b with ⟨_, h1⟩ | ⟨_, h1⟩
  · rw [h1, C.R.fz.β]
  · rw [h1]
theorem Cal.Xbh (C : Cal P K X w lk E s nid y X1 X0 Xb X' w') : Xb.h = X.h := by
  rcases C.b with ⟨_, h1⟩ | ⟨_, h1⟩
  · rw [h1, C.R.fz.h]
  · rw [h1]
theorem Cal.XbH (C : Cal P K X w lk E s nid y X1 X0 Xb X' w') : Heap P K Xb := by
  rcases C.b with ⟨_, h1⟩ | ⟨_, h1⟩
  · rw [h1]; exact C.R.fz.stp.heap
  · rw [h1]; exact C.R.H
theorem Cal.h0 (C : Cal P K X w lk E s nid y X1 X0 Xb X' w') : X0.h = X.h := C.R.h'
theorem Cal.Xbdead (C : Cal P K X w lk E s nid y X1 X0 Xb X' w') {id : Nat} (h : X.ob id = .dead) : Xb.ob id = .dead := by
  rcases C.b with ⟨_, h1⟩ | ⟨_, h1⟩
  · by_cases hm : id ∈ E.bo
    · rw [h1, C.R.fz.ob]
      show look (X.ob id) (frz lk E.bo) id = .dead
      rw [zfj, h]
      intro v hv
      have : ∀ {l : List Nat}, (id, v) ∈ frz lk l → ∃ e fr xs ser, lk id = .rw e fr xs ser := by
        intro l
        induction l with
        | nil => intro h; simp [frz] at h
        | cons i l ih =>
          intro h
          simp only [frz] at h
          split at h
          · rename_i hl
            rcases List.mem_cons.1 h with h | h
            · cases h; exact ⟨_, _, _, _, hl⟩
            · exact ih h
          · exact ih h
      obtain ⟨e, fr, xs, ser, hl⟩ := this hv
      have := lk_rw C.R.hlk hl (by simp)
      rw [h] at this; cases this
    · rw [C.Xbob hm, h]
  · rw [h1, h]
theorem Cal.alive (C : Cal P K X w lk E s nid y X1 X0 Xb X' w') {j id : Nat} {b : Bd} (h : bd E.ids j = some b) (hi : id ∈ b.ids) : X.ob id ≠ .dead := by
  obtain ⟨q, hq, hm, _⟩ := C.R.at_ h
  cases q <;> simp only [MetO] at hm
  · obtain ⟨id', base, cells, rfl, h1, _⟩ := hm
    simp [Bd.ids] at hi; subst hi
    rw [lk_rw C.R.hlk h1 (by simp)]; simp
  · obtain ⟨id', base, cells, rfl, h1, _⟩ := hm
    simp [Bd.ids] at hi; subst hi
    rcases h1 with h1 | h1 <;> rw [lk_rw C.R.hlk h1 (by simp)] <;> simp
  · rcases hm with ⟨id', fr', xs, ser, rfl, h1, _⟩ | ⟨id', lo, hi', fr', xs, ser, rfl, h1, _⟩ | ⟨rfl, _⟩
    · simp [Bd.ids] at hi; subst hi; rw [lk_rw C.R.hlk h1 (by simp)]; simp
    · simp [Bd.ids] at hi; subst hi; rw [lk_rw C.R.hlk h1 (by simp)]; simp
    · simp [Bd.ids] at hi
  · obtain ⟨id', es, rfl, h1, _⟩ := hm
    simp [Bd.ids] at hi; subst hi
    rw [lk_rw C.R.hlk h1 (by simp)]; simp
theorem Cal.fresh (C : Cal P K X w lk E s nid y X1 X0 Xb X' w') {j id t : Nat} {b : Bd} (h : bd E.ids j = some b) (hi : id ∈ b.ids) (ht : t < s.post.objs.length - s.nb) : id ≠ nid + t := fun e => by
  subst e; exact C.alive h hi (C.dead t ht)
theorem Cal.other (C : Cal P K X w lk E s nid y X1 X0 Xb X' w') {id : Nat} (h : ¬ Set_ E s nid id) (d : AO) : look d (wsOf s lk nid E y) id = d := by
  apply zfj
  intro v hv
  simp only [wsOf, List.mem_append] at hv
  rcases hv with hv | hv | hv
  · obtain ⟨i, p, b, h1, h2, h3, h4⟩ := zd2.1 hv
    obtain ⟨base, rfl, _⟩ := zfo h4
    rw [Nat.zero_add] at h3
    exact h (.inr ⟨i, _, h3, by simp [Bd.ids], .inl h1⟩)
  · obtain ⟨t, h1, h2⟩ := zdp.1 hv
    have := (List.getElem?_eq_some_iff.1 h1).1
    simp at this
    exact h (.inl ⟨t, by omega, h2⟩)
  · obtain ⟨_, i, e, fr, n, b, _, h1, h2, h3⟩ := zdx.1 hv
    rw [Nat.zero_add] at h2
    exact h (.inr ⟨i, b, h2, h3, .inr ⟨e, fr, n, h1⟩⟩)
theorem Cal.new (C : Cal P K X w lk E s nid y X1 X0 Xb X' w') {t : Nat} {q : PO} (ht : s.post.objs[s.nb + t]? = some q) (d : AO) : look d (wsOf s lk nid E y) (nid + t) = q.inst y (bdIm E.ids s.nb nid) E.af := by
  have hl : t < s.post.objs.length - s.nb := by have := (List.getElem?_eq_some_iff.1 ht).1; omega
  have hq : ((s.post.objs.drop s.nb).map (·.inst y (bdIm E.ids s.nb nid) E.af))[t]? = some (q.inst y (bdIm E.ids s.nb nid) E.af) := by
    rw [List.getElem?_map, List.getElem?_drop, ht]; rfl
  apply ze1
  · simp only [wsOf, List.mem_append]
    exact .inr (.inl (zdp.2 ⟨t, hq, rfl⟩))
  · intro v hv
    simp only [wsOf, List.mem_append] at hv
    rcases hv with hv | hv | hv
    · obtain ⟨i, p, b, h1, h2, h3, h4⟩ := zd2.1 hv
      obtain ⟨base, rfl, _⟩ := zfo h4
      exact absurd rfl (C.fresh h3 (by simp [Bd.ids]) hl)
    · obtain ⟨t', h1, h2⟩ := zdp.1 hv
      have : t' = t := by omega
      subst this; rw [hq] at h1; cases h1; rfl
    · obtain ⟨_, i, e, fr, n, b, _, h1, h2, h3⟩ := zdx.1 hv
      exact absurd rfl (C.fresh h2 h3 hl)
theorem Cal.gone (C : Cal P K X w lk E s nid y X1 X0 Xb X' w') {j id : Nat} {b : Bd} {e : TypeId} {fr : Bool} {n : Nat} (hj : s.nb ≤ j) (h : bd E.ids j = some b) (hi : id ∈ b.ids) (hq : s.pre.objs[j]? = some (.rw e fr n)) (d : AO) :
    look d (wsOf s lk nid E y) id = .gone := by
  apply ze1
  · simp only [wsOf, List.mem_append]
    exact .inr (.inr (zdx.2 ⟨rfl, j, e, fr, n, b, by omega, hq, by rw [Nat.zero_add]; exact h, hi⟩))
  · intro v hv
    simp only [wsOf, List.mem_append] at hv
    rcases hv with hv | hv | hv
    · obtain ⟨i, p, b', h1, h2, h3, h4⟩ := zd2.1 hv
      obtain ⟨base, rfl, _⟩ := zfo h4
      have := (C.uniq h h3 hi (by simp [Bd.ids])).1
      omega
    · obtain ⟨t, h1, h2⟩ := zdp.1 hv
      have hl := (List.getElem?_eq_some_iff.1 h1).1
      simp at hl
      exact absurd h2 (C.fresh h hi (by omega))
    · exact (zdx.1 hv).1
theorem Cal.kept (C : Cal P K X w lk E s nid y X1 X0 Xb X' w') {j id base : Nat} {p : PO} {o : AO} (hj : j < s.nb) (h : bd E.ids j = some (.o id base)) (hp : s.post.objs[j]? = some p) (ho : back1 lk y (bdIm E.ids s.nb nid) E.af (.o id base) p = [(id, o)]) (d : AO) :
    look d (wsOf s lk nid E y) id = o := by
  apply ze1
  · simp only [wsOf, List.mem_append]
    exact .inl (zd2.2 ⟨j, p, _, hj, hp, by rw [Nat.zero_add]; exact h, by rw [ho]; simp⟩)
  · intro v hv
    simp only [wsOf, List.mem_append] at hv
    rcases hv with hv | hv | hv
    · obtain ⟨i, p', b', h1, h2, h3, h4⟩ := zd2.1 hv
      obtain ⟨base', rfl, _⟩ := zfo h4
      rw [Nat.zero_add] at h3
      obtain ⟨rfl, e⟩ := C.uniq (id := id) h h3 (by simp [Bd.ids]) (by simp [Bd.ids])
      cases e
      rw [hp] at h2; cases h2
      rw [ho] at h4; simpa using h4
    · obtain ⟨t, h1, h2⟩ := zdp.1 hv
      have hl := (List.getElem?_eq_some_iff.1 h1).1
      simp at hl
      exact absurd h2 (C.fresh h (by simp [Bd.ids]) (by omega))
    · obtain ⟨_, i, e, fr, n, b', hn, h1, h2, h3⟩ := zdx.1 hv
      rw [Nat.zero_add] at h2
      obtain ⟨rfl, _⟩ := C.uniq h h2 (by simp [Bd.ids]) h3
      omega
theorem Cal.per (C : Cal P K X w lk E s nid y X1 X0 Xb X' w') {j : Nat} (hj : j < s.nb) :
    (∃ id base cells as bs, bd E.ids j = some (.o id base) ∧ s.pre.objs[j]? = some (.bx as) ∧ s.post.objs[j]? = some (.bx bs) ∧ as.length = bs.length ∧ lk id = .bx cells ∧ X.ob id = .bx cells ∧ base + as.length ≤ cells.length ∧
      (∀ d, look d (wsOf s lk nid E y) id = .bx (setMany cells base (bs.map (·.inst y (bdIm E.ids s.nb nid) E.af)))) ∧ X0.β j = ⟨(X.β id).blk, (X.β id).off + base, (X.β id).cap, (X.β id).nil⟩) ∨
    (∃ id kt vt a c es, bd E.ids j = some (.o id 0) ∧ s.pre.objs[j]? = some (.mp kt vt a) ∧ s.post.objs[j]? = some (.mp kt vt c) ∧ X.ob id = .mp kt vt es ∧ (∀ d, look d (wsOf s lk nid E y) id = .mp kt vt (g y c).map) ∧ X0.β j = ⟨(X.β id).blk, (X.β id).off, (X.β id).cap, (X.β id).nil⟩) ∨
    ∃ id e fr a fr2 c fr' xs ser, bd E.ids j = some (.o id 0) ∧ s.pre.objs[j]? = some (.rw e fr a) ∧ s.post.objs[j]? = some (.rw e fr2 c) ∧ X.ob id = .rw e fr' xs ser ∧ (∀ d, look d (wsOf s lk nid E y) id = .rw e (fr2 || E.af) (g y c).list ser) ∧ X0.β j = X.β id ∧ X0.ob j = .rw e fr xs 0 ∧ (E.af = true → fr' = true) := by
  rcases zc5 C.parts.2.1 j hj with ⟨as, bs, h1, h2, h3⟩ | ⟨kt, vt, a, c, h1, h2⟩ | ⟨e, fr, a, fr2, c, h1, h2⟩
  · obtain ⟨b, hb, id, base, cells, rfl, h5, h6, _⟩ := C.R.m j _ h1
    have h7 := lk_rw C.R.hlk h5 (by simp)
    exact .inl ⟨id, base, cells, as, bs, hb, h1, h2, h3, h5, h7, h6, fun d => C.kept hj hb h2 (by simp [back1, h5]) d, by rw [C.R.β' j _ _ hb h1]; rfl⟩
  · obtain ⟨b, hb, id, es, rfl, h5, _⟩ := C.R.m j _ h1
    have h7 := lk_rw C.R.hlk h5 (by simp)
    exact .inr (.inl ⟨id, kt, vt, a, c, es, hb, h1, h2, h7, fun d => C.kept hj hb h2 (by simp [back1]) d, by rw [C.R.β' j _ _ hb h1]; rfl⟩)
  · obtain ⟨b, hb, hm⟩ := C.R.m j _ h1
    obtain ⟨id0, base0, hb0⟩ := zh3 C.whole j e fr a hj h1
    rw [Nat.zero_add, hb] at hb0
    cases hb0
    rcases hm with ⟨id, fr', xs, ser, hbe, h5, h6, h7, h8⟩ | ⟨id, lo, hi, fr', xs, ser, hbe, _⟩ | ⟨hbe, _⟩ <;> cases hbe
    have h9 := lk_rw C.R.hlk h5 (by simp)
    refine .inr (.inr ⟨_, e, fr, a, fr2, c, fr', xs, ser, hb, h1, h2, h9, fun d => C.kept hj hb h2 (by simp [back1, h5]) d, by rw [C.R.β' j _ _ hb h1]; rfl, ?_, h7⟩)
    rw [C.R.ob', h1]
    simp only [PO.inst, Bool.or_false]
    rw [g_of h8]; rfl
theorem Cal.keeps (C : Cal P K X w lk E s nid y X1 X0 Xb X' w') {j : Nat} (hj : j < s.nb) : X'.β j = X0.β j ∧ ∀ e fr xs e' fr' ys, X0.ob j = .rw e fr xs 0 → X'.ob j = .rw e' fr' ys 0 → ys.length = xs.length := by
  have hk := C.pa.kp j hj
  unfold Keeps at hk
  have hob0 : ∀ q, s.pre.objs[j]? = some q → X0.ob j = q.inst E.lv.reverse selfIm false := fun q hq => by rw [C.R.ob', hq]
  have hob1 : ∀ q, s.post.objs[j]? = some q → X'.ob j = q.inst y selfIm false := fun q hq => by rw [C.ob']; unfold obOf; rw [hq]
  rcases zc5 C.parts.2.1 j hj with ⟨as, bs, h1, h2, h3⟩ | ⟨kt, vt, a, c, h1, h2⟩ | ⟨e, fr, a, fr2, c, h1, h2⟩
  · rw [hob0 _ h1] at hk ⊢
    exact ⟨hk.2, fun _ _ _ _ _ _ h => by cases h⟩
  · rw [hob0 _ h1] at hk ⊢
    exact ⟨hk.2, fun _ _ _ _ _ _ h => by cases h⟩
  · rw [hob0 _ h1, hob1 _ h2] at hk
    rw [hob0 _ h1, hob1 _ h2]
    simp only [PO.inst] at hk ⊢
    rcases hk with hc | ⟨⟨fr', xs', hc | hc, hl⟩, hb⟩ | ⟨e', fr', xs', ser', hc | hc, hl⟩
    · cases hc
    · cases hc
      exact ⟨hb, fun _ _ _ _ _ _ h h' => by cases h; cases h'; exact hl⟩
    · cases hc
    · cases hc; omega
    · cases hc
theorem Cal.im_lt (C : Cal P K X w lk E s nid y X1 X0 Xb X' w') {j id base : Nat} (hj : j < s.nb) (h : bd E.ids j = some (.o id base)) : bdIm E.ids s.nb nid j = (id, base) := by
  have : Nat.ble s.nb j = false := by
    cases hb : Nat.ble s.nb j with
    | false => rfl
    | true => have := Nat.le_of_ble_eq_true hb; omega
  simp [bdIm, this, h]
theorem Cal.im_ge {j : Nat} (hj : s.nb ≤ j) : bdIm E.ids s.nb nid j = (nid + (j - s.nb), 0) := by
  simp [bdIm, Nat.ble_eq_true_of_le hj]
end
end Go.Eng
end
section
namespace Go.Eng
open Go
section
variable {P : Program} {K : Kx} {X : Cx} {w : World} {lk : Lk} {E : Env} {s : Sig} {nid : Nat} {y : Lv} {X1 X0 Xb X' : Cx} {w' : World}
theorem Cal.XXob (C : Cal P K X w lk E s nid y X1 X0 Xb X' w') (id : Nat) : ((cxOf s lk nid E y Xb X')).ob id = look (Xb.ob id) (wsOf s lk nid E y) id := rfl
theorem Cal.XXβnew {t : Nat} (ht : t < s.post.objs.length - s.nb) : ((cxOf s lk nid E y Xb X')).β (nid + t) = X'.β (s.nb + t) := by
  show (if _ then _ else _) = _
  rw [if_pos ⟨by omega, by omega⟩]; congr 1; omega
theorem Cal.XXβold {id : Nat} (h : ¬ ∃ t, t < s.post.objs.length - s.nb ∧ id = nid + t) : ((cxOf s lk nid E y Xb X')).β id = Xb.β id := by
  show (if _ then _ else _) = _
  rw [if_neg fun hc => h ⟨id - nid, by omega, by omega⟩]
theorem Cal.XXβbd (C : Cal P K X w lk E s nid y X1 X0 Xb X' w') {j id : Nat} {b : Bd} (h : bd E.ids j = some b) (hi : id ∈ b.ids) : ((cxOf s lk nid E y Xb X')).β id = X.β id := by
  rw [Cal.XXβold fun ⟨t, ht, e⟩ => C.fresh h hi ht e, C.Xbβ]
theorem Cal.perβ (C : Cal P K X w lk E s nid y X1 X0 Xb X' w') {j id base : Nat} (hj : j < s.nb) (h : bd E.ids j = some (.o id base)) : (X'.β j).blk = (X.β id).blk ∧ (X'.β j).off = (X.β id).off + base := by
  rw [(C.keeps hj).1]
  rcases C.per hj with ⟨id', base', _, _, _, h1, _, _, _, _, _, _, _, h2⟩ | ⟨id', _, _, _, _, _, h1, _, _, _, _, h2⟩ | ⟨id', _, _, _, _, _, _, _, _, h1, _, _, _, _, h2, _⟩
  · rw [h] at h1; cases h1; rw [h2]; exact ⟨rfl, rfl⟩
  · rw [h] at h1; cases h1; rw [h2]; exact ⟨rfl, rfl⟩
  · rw [h] at h1; cases h1; rw [h2]; exact ⟨rfl, rfl⟩
theorem Cal.perOwn (C : Cal P K X w lk E s nid y X1 X0 Xb X' w') {j : Nat} (hj : j < s.nb) (h0 : Own X0 j) : Own X' j := by
  have hb := (C.keeps hj).1
  unfold Own at h0 ⊢
  rw [C.ob', hb]
  unfold obOf
  rcases C.per hj with ⟨_, _, _, _, _, _, _, h1, _⟩ | ⟨_, _, _, _, _, _, _, _, h1, _⟩ | ⟨_, _, _, _, _, _, _, _, _, _, _, h1, _, _, _, h3, _⟩ <;> rw [h1]
  · trivial
  · trivial
  · rw [h3] at h0; exact h0
theorem Cal.own0 (C : Cal P K X w lk E s nid y X1 X0 Xb X' w') {j : Nat} (h : Own X0 j) : ∃ b id, bd E.ids j = some b ∧ id ∈ b.ids ∧ Set_ E s nid id ∧ Own Xb id ∧ (Xb.β id).blk = (X0.β j).blk ∧ (j < s.nb ∨ ∃ e fr n, s.pre.objs[j]? = some (.rw e fr n)) := by
  obtain ⟨b, id, h1, h2, h3, h4⟩ := C.R.own h
  have hk : j < s.nb ∨ ∃ e fr n, s.pre.objs[j]? = some (.rw e fr n) := by
    rcases Nat.lt_or_ge j s.nb with hl | hl
    · exact .inl hl
    · obtain ⟨q, hq, hm, hob, _⟩ := C.R.at_ h1
      have hlent := C.parts.2.2.1 q (List.mem_of_getElem? (i := j - s.nb) (by rw [List.getElem?_drop, show s.nb + (j - s.nb) = j by omega]; exact hq))
      cases q with
      | bx ps => cases hlent
      | rb ps => unfold Own at h; rw [hob] at h; exact h.elim
      | rw e fr n => exact .inr ⟨e, fr, n, hq⟩
      | mp kt vt n => cases hlent
  refine ⟨b, id, h1, h2, .inr ⟨j, b, h1, h2, hk⟩, ?_, by rw [C.Xbβ, h4], hk⟩
  unfold Own at h3 ⊢
  rw [C.Xbob (C.nobo h1 h2), C.Xbβ]; exact h3
theorem Cal.F'ok (C : Cal P K X w lk E s nid y X1 X0 Xb X' w') {b : Nat} (h : X'.F false b) : X1.F E.af b ∨ X.h.size ≤ b ∨ ∃ j, Own X0 j ∧ (X0.β j).blk = b ∧ s.nb ≤ j := by
  rcases C.pa.Fnew b h with h1 | h1 | ⟨j, h1, h2⟩
  · exact .inl ((C.F0 _ _).1 h1).2
  · rw [C.h0] at h1; exact .inr (.inl h1)
  · refine .inr (.inr ⟨j, h1, h2, ?_⟩)
    rcases Nat.lt_or_ge j s.nb with hl | hl
    · exact absurd (h2 ▸ h) (by rw [← (C.keeps hl).1]; exact C.pa.heap.nF j (C.perOwn hl h1))
    · exact hl
theorem Cal.ownS (C : Cal P K X w lk E s nid y X1 X0 Xb X' w') {id : Nat} (hs : Set_ E s nid id) (h : Own (cxOf s lk nid E y Xb X') id) : ∃ j, Own X' j ∧ (X'.β j).blk = (((cxOf s lk nid E y Xb X')).β id).blk ∧ id = (bdIm E.ids s.nb nid j).1 := by
  rcases hs with ⟨t, ht, rfl⟩ | ⟨j, b, hb, hi, hj⟩
  · have hq : s.post.objs[s.nb + t]? = some s.post.objs[s.nb + t] := List.getElem?_eq_getElem (by omega)
    have ho := C.new hq (Xb.ob (nid + t))
    refine ⟨s.nb + t, ?_, by rw [Cal.XXβnew ht], by rw [Cal.im_ge (by omega)]; show _ = nid + _; omega⟩
    unfold Own at h ⊢
    rw [C.XXob, ho] at h
    rw [C.ob']
    unfold obOf
    rw [hq]
    generalize s.post.objs[s.nb + t] = q at h
    cases q with
    | bx ps => trivial
    | rb ps => exact h.elim
    | rw e fr n => simp only [PO.inst] at h ⊢; rw [Cal.XXβnew ht] at h; exact h
    | mp kt vt n => trivial
  · rcases Nat.lt_or_ge j s.nb with hl | hl
    · rcases C.per hl with ⟨id', base, _, _, _, h1, hp1, hp2, _⟩ | ⟨id', _, _, _, _, _, h1, hp1, hp2, _⟩ | ⟨id', e, _, _, _, _, _, _, ser, h1, hp1, hp2, _, h5, h2, _⟩
      · rw [hb] at h1; cases h1
        simp [Bd.ids] at hi; subst hi
        exact ⟨j, by unfold Own; rw [C.ob']; unfold obOf; rw [hp2]; trivial, by rw [C.XXβbd hb (by simp [Bd.ids])]; exact (C.perβ hl hb).1, by rw [C.im_lt hl hb]⟩
      · rw [hb] at h1; cases h1
        simp [Bd.ids] at hi; subst hi
        exact ⟨j, by unfold Own; rw [C.ob']; unfold obOf; rw [hp2]; trivial, by rw [C.XXβbd hb (by simp [Bd.ids])]; exact (C.perβ hl hb).1, by rw [C.im_lt hl hb]⟩
      · rw [hb] at h1; cases h1
        simp [Bd.ids] at hi; subst hi
        refine ⟨j, ?_, by rw [C.XXβbd hb (by simp [Bd.ids])]; exact (C.perβ hl hb).1, by rw [C.im_lt hl hb]⟩
        unfold Own at h ⊢
        rw [C.XXob, h5, C.XXβbd hb (by simp [Bd.ids])] at h
        rw [C.ob', (C.keeps hl).1, h2]
        unfold obOf
        rw [hp2]
        exact h
    · obtain ⟨e, fr, n, hq⟩ := hj.resolve_left (by omega)
      unfold Own at h
      rw [C.XXob, C.gone hl hb hi hq] at h
      exact h.elim
theorem Cal.size (C : Cal P K X w lk E s nid y X1 X0 Xb X' w') : X.h.size ≤ X'.h.size := by rw [← C.h0]; exact C.pa.sz
theorem Cal.turn (C : Cal P K X w lk E s nid y X1 X0 Xb X' w') : Turn P K Xb (cxOf s lk nid E y Xb X') (Set_ E s nid) := by
  have ownb : ∀ {j b id}, bd E.ids j = some b → id ∈ b.ids → (Own Xb id ↔ Own X id) := fun hb hi => by
    unfold Own; rw [C.Xbob (C.nobo hb hi), C.Xbβ]
  refine ⟨fun fr b h => .inl h, fun b h => ?_, fun b h => ?_, fun b h => ?_, ?_, fun b hb hno => ?_, fun id hs => ?_, fun id hs => ?_, fun id hs => ?_, fun id hs ho => ?_, fun id id' hs hs' ho ho' he => ?_⟩
  · rcases h with h | h | ⟨h1, _, h2⟩
    · exact .inl (C.XbH.Fle b h)
    · exact .inr (.inl h)
    · exact .inr (.inr ⟨h1, .inl rfl, h2⟩)
  · rcases h with h | h | ⟨h1, h2, h3⟩
    · exact C.XbH.Ffr b h
    · have := C.pa.heap.Ffr b h
      rw [show (kx X0).h0 = X0.h from rfl, C.h0] at this
      exact Nat.le_trans C.R.H.sz this
    · have haf : E.af = true := h2.resolve_left (by simp)
      rcases C.F'ok h3 with h4 | h4 | ⟨j, h4, h5, h6⟩
      · rw [haf] at h4; exact C.R.fz.stp.heap.Ffr b h4
      · exact Nat.le_trans C.R.H.sz h4
      · obtain ⟨bb, id, a1, a2, a3, a4, a5, a6⟩ := C.own0 h4
        obtain ⟨e, fr, n, hq⟩ := a6.resolve_left (by omega)
        rw [← h5, ← a5, C.Xbβ]
        have hX := (ownb a1 a2).1 a4
        obtain ⟨bb', hb', hm⟩ := C.R.m j _ hq
        rw [a1] at hb'; cases hb'
        have key : ∀ {fr' : Bool} {xs : Rw} {ser : Nat}, lk id = .rw e fr' xs ser → fr' = true → K.h0.size ≤ (X.β id).blk := by
          intro fr' xs ser hl hfr
          have hob := lk_rw C.R.hlk hl (by simp)
          have hk := C.R.H.ok id
          unfold AOok at hk
          unfold Own at hX
          rw [hob] at hk hX
          rcases hk with ⟨hn, _⟩ | ⟨_, _, hn, _⟩
          · rw [hX] at hn; cases hn
          · exact hn hfr
        rcases hm with ⟨id', fr', xs, ser, rfl, b1, b2, b3, b4⟩ | ⟨id', lo, hi, fr', xs, ser, rfl, b1, b2, b3, b4⟩ | ⟨rfl, _⟩
        · simp [Bd.ids] at a2; subst a2; exact key b1 (b3 haf)
        · simp [Bd.ids] at a2; subst a2; exact key b1 (b3 haf)
        · simp [Bd.ids] at a2
  · have inr : ∀ {b}, X'.F false b → X.h.size ≤ b → (Xb.h.size ≤ b ∧ b < ((cxOf s lk nid E y Xb X')).h.size) := fun hf hs => ⟨by rw [C.Xbh]; exact hs, C.pa.heap.Fsz _ hf⟩
    rcases h with h | h | ⟨h1, h2, h3⟩
    · exact .inl h
    · have := C.pa.heap.Ffr b h
      rw [show (kx X0).h0 = X0.h from rfl, C.h0] at this
      exact .inr (.inl (inr (C.pa.heap.Fle b h) this))
    · have hXb : Xb = X1 := by
        rcases C.b with ⟨_, h⟩ | ⟨h, _⟩
        · exact h
        · rw [h1] at h; cases h
      rcases C.F'ok h3 with h4 | h4 | ⟨j, h4, h5, _⟩
      · left; rw [hXb]
        cases haf : E.af
        · rw [haf] at h4; exact h4
        · rw [haf] at h4; exact C.R.fz.stp.heap.Fle b h4
      · exact .inr (.inl (inr h3 h4))
      · obtain ⟨_, id, _, _, a3, a4, a5, _⟩ := C.own0 h4
        exact .inr (.inr ⟨id, a3, a4, a5.trans h5⟩)
  · rw [C.Xbh]; exact C.size
  · show X'.h[b]? = _
    rw [C.Xbh] at hb ⊢
    rw [← C.h0]
    refine C.pa.fr b (by rw [C.h0]; exact hb) fun j hj he => ?_
    obtain ⟨_, id, _, _, a3, a4, a5, _⟩ := C.own0 hj
    exact hno id a3 a4 (a5.trans he)
  · rw [C.XXob, C.other hs]
  · exact Cal.XXβold fun h => hs (.inl h)
  · unfold Keeps
    rcases hs with ⟨t, ht, rfl⟩ | ⟨j, b, hb, hi, hj⟩
    · rw [C.Xbdead (C.dead t ht)]; trivial
    · rw [C.Xbob (C.nobo hb hi), C.XXβbd hb hi, C.Xbβ, C.XXob]
      rcases Nat.lt_or_ge j s.nb with hl | hl
      · rcases C.per hl with ⟨id', base, cells, as, bs, h1, _, _, _, _, h2, _, h3, _⟩ | ⟨id', kt, vt, _, c, es, h1, _, _, h2, h3, _⟩ | ⟨id', e, fr, a, fr2, c, fr', xs, ser, h1, _, hp2, h2, h3, _, h5, _⟩
        · rw [hb] at h1; cases h1
          simp [Bd.ids] at hi; subst hi
          rw [h2, h3]
          exact ⟨by simp, rfl⟩
        · rw [hb] at h1; cases h1
          simp [Bd.ids] at hi; subst hi
          rw [h2, h3]
          exact ⟨by simp, rfl⟩
        · rw [hb] at h1; cases h1
          simp [Bd.ids] at hi; subst hi
          rw [h2, h3]
          refine .inr (.inl ⟨⟨_, _, .inl rfl, ?_⟩, rfl⟩)
          refine (C.keeps hl).2 _ _ _ e fr2 _ h5 ?_
          rw [C.ob']; unfold obOf; rw [hp2]
          simp [PO.inst]
      · obtain ⟨e, fr, n, hq⟩ := hj.resolve_left (by omega)
        rw [C.gone hl hb hi hq]
        obtain ⟨bb', hb', hm⟩ := C.R.m j _ hq
        rw [hb] at hb'; cases hb'
        rcases hm with ⟨id', fr', xs, ser, rfl, b1, _⟩ | ⟨id', lo, hi, fr', xs, ser, rfl, b1, _⟩ | ⟨rfl, _⟩
        · simp [Bd.ids] at hi; subst hi; rw [lk_rw C.R.hlk b1 (by simp)]; exact .inl rfl
        · simp [Bd.ids] at hi; subst hi; rw [lk_rw C.R.hlk b1 (by simp)]; exact .inl rfl
        · simp [Bd.ids] at hi
  · obtain ⟨j, h1, h2, h3⟩ := C.ownS hs ho
    have hwas : Xb.h.size ≤ (((cxOf s lk nid E y Xb X')).β id).blk ∨ ∃ id0, Set_ E s nid id0 ∧ Own Xb id0 ∧ (Xb.β id0).blk = (((cxOf s lk nid E y Xb X')).β id).blk := by
      rw [← h2, C.Xbh, ← C.h0]
      rcases C.pa.own j h1 with h | ⟨j0, h4, h5⟩
      · exact .inl h
      · obtain ⟨_, id0, _, _, a3, a4, a5, _⟩ := C.own0 h4
        exact .inr ⟨id0, a3, a4, a5.trans h5⟩
    refine ⟨hwas, fun hF => ?_⟩
    have nF := C.pa.heap.nF j h1
    rw [h2] at nF
    rcases hF with hF | hF | ⟨_, _, hF⟩
    · rcases hwas with h | ⟨id0, _, h4, h5⟩
      · have := C.XbH.Fsz _ hF; omega
      · exact C.XbH.nF id0 h4 (h5 ▸ hF)
    · exact nF (C.pa.heap.Fle _ hF)
    · exact nF hF
  · obtain ⟨j, h1, h2, h3⟩ := C.ownS hs ho
    obtain ⟨j', h1', h2', h3'⟩ := C.ownS hs' ho'
    have := C.pa.heap.inj j j' h1 h1' (by rw [h2, h2', he])
    rw [h3, h3', this]
end
end Go.Eng
end
section
namespace Go.Eng
open Go
section
variable {P : Program} {K : Kx} {X : Cx} {w : World} {lk : Lk} {E : Env} {s : Sig} {nid : Nat} {y : Lv} {X1 X0 Xb X' : Cx} {w' : World}
theorem Cal.newq (C : Cal P K X w lk E s nid y X1 X0 Xb X' w') {j : Nat} (hj : s.nb ≤ j) {q : PO} (hq : s.post.objs[j]? = some q) : ((cxOf s lk nid E y Xb X')).ob (nid + (j - s.nb)) = q.inst y (bdIm E.ids s.nb nid) E.af ∧ ((cxOf s lk nid E y Xb X')).β (nid + (j - s.nb)) = X'.β j ∧ q.new = true := by
  have hl := (List.getElem?_eq_some_iff.1 hq).1
  have e : s.nb + (j - s.nb) = j := by omega
  refine ⟨by rw [C.XXob]; exact C.new (by rw [e]; exact hq) _, by rw [Cal.XXβnew (by omega), e], ?_⟩
  exact C.parts.2.2.2.1 q (List.mem_of_getElem? (i := j - s.nb) (by rw [List.getElem?_drop, e]; exact hq))
theorem Cal.aft (C : Cal P K X w lk E s nid y X1 X0 Xb X' w') : Aft P X' (cxOf s lk nid E y Xb X') s.post.objs s.sh y (bdIm E.ids s.nb nid) E.af := by
  refine ⟨rfl, fun fr b h hF => ?_, fun j => by rw [C.ob']; rfl, fun j ps hp => ?_, fun j kt vt n hp => ?_, fun j e fr n hp => ?_, fun j ps hp => ?_⟩
  · cases fr
    · have hs : s.sh = true := h.resolve_left (by simp)
      refine .inr (.inr ⟨hs, ?_, hF⟩)
      cases E.af <;> simp
    · exact .inr (.inl hF)
  · rcases Nat.lt_or_ge j s.nb with hl | hl
    · rcases C.per hl with ⟨id, base, cells, as, bs, h1, _, h2, _, _, _, _, h3, _⟩ | ⟨_, _, _, _, _, _, _, _, h2, _⟩ | ⟨_, _, _, _, _, _, _, _, _, _, _, h2, _⟩
      · rw [C.im_lt hl h1]
        refine ⟨⟨_, by rw [C.XXob]; exact h3 _⟩, fun o => ?_⟩
        obtain ⟨a, b⟩ := C.perβ hl h1
        rw [C.XXβbd h1 (by simp [Bd.ids])]
        simp [Loc.ptr, a, b, Nat.add_assoc]
      · rw [hp] at h2; cases h2
      · rw [hp] at h2; cases h2
    · rw [Cal.im_ge hl]
      obtain ⟨a, b, _⟩ := C.newq hl hp
      exact ⟨⟨_, a⟩, fun o => by rw [b]; simp [Loc.ptr]⟩
  · rcases Nat.lt_or_ge j s.nb with hl | hl
    · rcases C.per hl with ⟨_, _, _, _, _, _, _, h2, _⟩ | ⟨id, kt', vt', _, c, es, h1, _, h2, _, h3, _⟩ | ⟨_, _, _, _, _, _, _, _, _, _, _, h2, _⟩
      · rw [hp] at h2; cases h2
      · rw [C.im_lt hl h1]
        exact ⟨⟨_, _, _, by rw [C.XXob]; exact h3 _⟩, by rw [C.XXβbd h1 (by simp [Bd.ids]), (C.perβ hl h1).1]⟩
      · rw [hp] at h2; cases h2
    · rw [Cal.im_ge hl]
      obtain ⟨a, b, _⟩ := C.newq hl hp
      exact ⟨⟨_, _, _, a⟩, by rw [b]⟩
  · rcases Nat.lt_or_ge j s.nb with hl | hl
    · rcases C.per hl with ⟨_, _, _, _, _, _, _, h2, _⟩ | ⟨_, _, _, _, _, _, _, _, h2, _⟩ | ⟨id, _, _, _, _, _, _, _, ser, h1, _, h2, _, h3, h4, _⟩
      · rw [hp] at h2; cases h2
      · rw [hp] at h2; cases h2
      · rw [hp] at h2; cases h2
        rw [C.im_lt hl h1]
        exact ⟨⟨ser, by rw [C.XXob]; exact h3 _⟩, by rw [C.XXβbd h1 (by simp [Bd.ids]), (C.keeps hl).1, h4]⟩
    · rw [Cal.im_ge hl]
      obtain ⟨a, b, _⟩ := C.newq hl hp
      exact ⟨⟨0, a⟩, b⟩
  · rcases Nat.lt_or_ge j s.nb with hl | hl
    · rcases C.per hl with ⟨_, _, _, _, _, _, _, h2, _⟩ | ⟨_, _, _, _, _, _, _, _, h2, _⟩ | ⟨_, _, _, _, _, _, _, _, _, _, _, h2, _⟩ <;> rw [hp] at h2 <;> cases h2
    · cases (C.newq hl hp).2.2
theorem Cal.trq (C : Cal P K X w lk E s nid y X1 X0 Xb X' w') {j : Nat} {q : PO} (hq : s.post.objs[j]? = some q) : q.tr = true ∨ s.sh = true := by
  rcases C.parts.2.2.2.2.2 with h | h
  · exact .inr h
  · simp only [Pat.tr, Bool.and_eq_true, List.all_eq_true] at h
    exact .inl (h.2 q (List.mem_of_getElem? hq))
theorem Cal.rowfr (C : Cal P K X w lk E s nid y X1 X0 Xb X' w') (haf : E.af = true) {j : Nat} (h : Own X0 j) (hr : ∃ e fr n, s.pre.objs[j]? = some (.rw e fr n)) : K.h0.size ≤ (X0.β j).blk := by
  obtain ⟨bb, id, a1, a2, a3, a4, a5, a6⟩ := C.own0 h
  obtain ⟨e, fr, n, hq⟩ := hr
  rw [← a5, C.Xbβ]
  have hX : Own X id := by unfold Own at a4 ⊢; rw [C.Xbob (C.nobo a1 a2), C.Xbβ] at a4; exact a4
  obtain ⟨bb', hb', hm⟩ := C.R.m j _ hq
  rw [a1] at hb'; cases hb'
  have key : ∀ {fr' : Bool} {xs : Rw} {ser : Nat}, lk id = .rw e fr' xs ser → fr' = true → K.h0.size ≤ (X.β id).blk := by
    intro fr' xs ser hl hfr
    have hob := lk_rw C.R.hlk hl (by simp)
    have hk := C.R.H.ok id
    unfold AOok at hk
    unfold Own at hX
    rw [hob] at hk hX
    rcases hk with ⟨hn, _⟩ | ⟨_, _, hn, _⟩
    · rw [hX] at hn; cases hn
    · exact hn hfr
  rcases hm with ⟨id', fr', xs, ser, rfl, b1, b2, b3, b4⟩ | ⟨id', lo, hi, fr', xs, ser, rfl, b1, b2, b3, b4⟩ | ⟨rfl, _⟩
  · simp [Bd.ids] at a2; subst a2; exact key b1 (b3 haf)
  · simp [Bd.ids] at a2; subst a2; exact key b1 (b3 haf)
  · simp [Bd.ids] at a2
theorem Cal.cells (C : Cal P K X w lk E s nid y X1 X0 Xb X' w') {ps : List PS} (ht : ps.all PS.tr = true ∨ s.sh = true) {cs : Array Value} {off : Nat} (h : ∀ j x, (ps.map (·.inst y selfIm false))[j]? = some x → ∃ v, cs[off + j]? = some v ∧ RS P X' x v) :
    ∀ j x, (ps.map (·.inst y (bdIm E.ids s.nb nid) E.af))[j]? = some x → ∃ v, cs[off + j]? = some v ∧ RS P (cxOf s lk nid E y Xb X') x v := by
  intro j x hx
  rw [List.getElem?_map] at hx
  cases hp : ps[j]? with
  | none => rw [hp] at hx; cases hx
  | some q =>
    rw [hp] at hx; simp at hx; subst hx
    obtain ⟨v, a, b⟩ := h j (q.inst y selfIm false) (by rw [List.getElem?_map, hp]; rfl)
    refine ⟨v, a, C.aft.RS (ht.imp (fun h => ?_) id) b⟩
    rw [List.all_eq_true] at h
    exact h q (List.mem_of_getElem? hp)
theorem Cal.okS (C : Cal P K X w lk E s nid y X1 X0 Xb X' w') (id : Nat) (hs : Set_ E s nid id) : AOok P K (cxOf s lk nid E y Xb X') id := by
  have T := C.turn
  have hext := T.ext C.XbH
  unfold AOok
  rcases hs with ⟨t, ht, rfl⟩ | ⟨j, b, hb, hi, hj⟩
  · have hq : s.post.objs[s.nb + t]? = some s.post.objs[s.nb + t] := List.getElem?_eq_getElem (by omega)
    generalize s.post.objs[s.nb + t] = q at hq
    obtain ⟨a, b, c⟩ := C.newq (by omega) hq
    rw [show s.nb + t - s.nb = t by omega] at a b
    rw [a, b]
    have hk := C.pa.heap.ok (s.nb + t)
    unfold AOok at hk
    rw [C.ob'] at hk
    unfold obOf at hk
    rw [hq] at hk
    have htr := C.trq hq
    cases q with
    | rb ps => cases c
    | bx ps =>
      obtain ⟨cs, ty, h1, h2⟩ := hk
      exact ⟨cs, ty, h1, C.cells htr h2⟩
    | mp kt vt n => exact hk
    | rw e fr n =>
      simp only [PO.inst, Bool.or_false] at hk ⊢
      rcases hk with hk | ⟨h1, h2, h3, cs, ty, h4, h5, h6⟩
      · exact .inl hk
      · refine .inr ⟨h1, h2, fun hfr => ?_, cs, ty, h4, h5, h6.mono fun _ _ _ hx => Con.mono (fun n hn => C.aft.F fr n htr hn) (fun _ _ => rfl) hx⟩
        have hsz : K.h0.size ≤ X.h.size := C.R.H.sz
        cases fr with
        | true => have := h3 rfl; rw [show (kx X0).h0 = X0.h from rfl, C.h0] at this; exact Nat.le_trans hsz this
        | false =>
          have haf : E.af = true := by simpa using hfr
          have hown : Own X' (s.nb + t) := by unfold Own; rw [C.ob']; unfold obOf; rw [hq]; exact h1
          rcases C.pa.own _ hown with h | ⟨j0, h7, h8⟩
          · rw [C.h0] at h; exact Nat.le_trans hsz h
          · rw [← h8]
            refine C.rowfr haf h7 ?_
            rcases Nat.lt_or_ge j0 s.nb with hl | hl
            · have := C.pa.heap.inj j0 (s.nb + t) (C.perOwn hl h7) hown (by rw [(C.keeps hl).1]; exact h8)
              omega
            · obtain ⟨_, _, _, _, _, _, _, a6⟩ := C.own0 h7
              exact a6.resolve_left (by omega)
  · rw [C.XXob, C.XXβbd hb hi]
    rcases Nat.lt_or_ge j s.nb with hl | hl
    · rcases C.per hl with ⟨id', base, cells, as, bs, h1, hpre, h2, hlen, hlk, h3, hle, h4, h5⟩ | ⟨id', kt, vt, _, c, es, h1, _, h2, _, h4, h5⟩ | ⟨id', e, fr, a, fr2, c, fr', xs, ser, h1, hpre, h2, h3, h4, h5, h6, h7⟩
      · rw [hb] at h1; cases h1
        simp [Bd.ids] at hi; subst hi
        rw [h4]
        have hk := C.pa.heap.ok j
        unfold AOok at hk
        rw [C.ob'] at hk
        unfold obOf at hk
        rw [h2] at hk
        obtain ⟨cs', ty', a1, a2⟩ := hk
        have hk0 := C.XbH.ok id
        unfold AOok at hk0
        rw [C.Xbob (C.nobo hb (by simp [Bd.ids])), h3, C.Xbβ, C.Xbh] at hk0
        obtain ⟨cs, ty, b1, b2⟩ := hk0
        obtain ⟨e1, e2⟩ := C.perβ hl hb
        rw [e1] at a1
        rw [e2] at a2
        have hob0 : X0.ob j = .bx (as.map (·.inst E.lv.reverse selfIm false)) := by rw [C.R.ob', hpre]; rfl
        obtain ⟨_, _, hbx⟩ := C.pa.box j _ hl hob0
        have hb0 := (C.keeps hl).1
        rw [← hb0, e1, e2, C.h0] at hbx
        obtain ⟨cs2, c1, c2, c3⟩ := hbx cs ty b1
        rw [a1] at c1
        cases c1
        refine ⟨cs', ty', a1, fun i x hx => ?_⟩
        rw [zge (by rw [List.length_map, ← hlen]; exact hle)] at hx
        rw [List.length_map] at hx
        by_cases hin : base ≤ i ∧ i < base + bs.length
        · rw [if_pos hin] at hx
          obtain ⟨v, d1, d2⟩ := C.cells (C.trq h2) a2 (i - base) x hx
          exact ⟨v, by rw [← d1]; congr 1; omega, d2⟩
        · rw [if_neg hin] at hx
          obtain ⟨v, d1, d2⟩ := b2 i x hx
          refine ⟨v, ?_, d2.ext hext⟩
          rw [c3 _ (by rw [List.length_map, hlen]; omega)]; exact d1
      · rw [hb] at h1; cases h1
        simp [Bd.ids] at hi; subst hi
        rw [h4]
        have hk := C.pa.heap.ok j
        unfold AOok at hk
        rw [C.ob'] at hk
        unfold obOf at hk
        rw [h2] at hk
        rw [(C.perβ hl hb).1] at hk
        exact hk
      · rw [hb] at h1; cases h1
        simp [Bd.ids] at hi; subst hi
        rw [h4]
        have hk := C.pa.heap.ok j
        unfold AOok at hk
        rw [C.ob'] at hk
        unfold obOf at hk
        rw [h2] at hk
        have htr := C.trq h2
        simp only [PO.inst, Bool.or_false] at hk ⊢
        rw [(C.keeps hl).1, h5] at hk
        rcases hk with hk | ⟨k1, k2, k3, cs, ty, k4, k5, k6⟩
        · exact .inl hk
        · refine .inr ⟨k1, k2, fun hfr => ?_, cs, ty, k4, k5, k6.mono fun _ _ _ hx => Con.mono (fun n hn => C.aft.F fr2 n htr hn) (fun _ _ => rfl) hx⟩
          have hsz : K.h0.size ≤ X.h.size := C.R.H.sz
          cases fr2 with
          | true => have := k3 rfl; rw [show (kx X0).h0 = X0.h from rfl, C.h0] at this; exact Nat.le_trans hsz this
          | false =>
            have haf : E.af = true := by simpa using hfr
            have := C.rowfr haf (j := j) (by unfold Own; rw [h6, h5]; exact k1) ⟨_, _, _, hpre⟩
            rw [h5] at this; exact this
    · obtain ⟨e, fr, n, hq⟩ := hj.resolve_left (by omega)
      rw [C.gone hl hb hi hq]; trivial
theorem Cal.boxS (C : Cal P K X w lk E s nid y X1 X0 Xb X' w') (id : Nat) (cells : List AS) (hs : Set_ E s nid id) (hc : Xb.ob id = .bx cells) : BoxK Xb (cxOf s lk nid E y Xb X') id cells.length := by
  rcases hs with ⟨t, ht, rfl⟩ | ⟨j, b, hb, hi, hj⟩
  · rw [C.Xbdead (C.dead t ht)] at hc; cases hc
  · rw [C.Xbob (C.nobo hb hi)] at hc
    rcases Nat.lt_or_ge j s.nb with hl | hl
    · rcases C.per hl with ⟨id', base, cells', as, bs, h1, hpre, h2, hlen, hlk, h3, hle, h4, h5⟩ | ⟨id', kt, vt, _, c, es, h1, _, h2, h3, h4, h5⟩ | ⟨id', e, fr, a, fr2, c, fr', xs, ser, h1, hpre, h2, h3, _⟩
      · rw [hb] at h1; cases h1
        simp [Bd.ids] at hi; subst hi
        rw [h3] at hc; cases hc
        refine ⟨⟨_, by rw [C.XXob, h4], zff⟩, by rw [C.XXβbd hb (by simp [Bd.ids]), C.Xbβ], fun cs ty hcs => ?_⟩
        have hob0 : X0.ob j = .bx (as.map (·.inst E.lv.reverse selfIm false)) := by rw [C.R.ob', hpre]; rfl
        obtain ⟨_, _, hbx⟩ := C.pa.box j _ hl hob0
        obtain ⟨e1, e2⟩ := C.perβ hl hb
        have hb0 := (C.keeps hl).1
        rw [← hb0, e1, e2, C.h0] at hbx
        rw [C.Xbβ, C.Xbh] at hcs
        obtain ⟨cs', c1, c2, c3⟩ := hbx cs ty hcs
        rw [C.Xbβ]
        refine ⟨cs', c1, c2, fun c hc => c3 c ?_⟩
        rw [List.length_map]
        omega
      · rw [hb] at h1; cases h1
        simp [Bd.ids] at hi; subst hi
        rw [h3] at hc; cases hc
      · rw [hb] at h1; cases h1
        simp [Bd.ids] at hi; subst hi
        rw [h3] at hc; cases hc
    · obtain ⟨e, fr, n, hq⟩ := hj.resolve_left (by omega)
      obtain ⟨bb', hb', hm⟩ := C.R.m j _ hq
      rw [hb] at hb'; cases hb'
      rcases hm with ⟨id', fr', xs, ser, rfl, b1, _⟩ | ⟨id', lo, hi', fr', xs, ser, rfl, b1, _⟩ | ⟨rfl, _⟩
      · simp [Bd.ids] at hi; subst hi; rw [lk_rw C.R.hlk b1 (by simp)] at hc; cases hc
      · simp [Bd.ids] at hi; subst hi; rw [lk_rw C.R.hlk b1 (by simp)] at hc; cases hc
      · simp [Bd.ids] at hi
end
def SigOk (P : Program) (s : Sig) : Prop := ∀ (w : World) (args : List Value) (x y : Lv) (X0 : Cx), X0.h = w.heap → X0.ob = obOf s.pre.objs x → (∀ b, ¬ X0.F true b) → Heap P (kx X0) X0 →
  F2 (RV P X0) (s.pre.vals.map (·.inst x selfIm false)) args → s.f x = some y →
  Calls P s.fn args.toArray w fun e w' => ∃ v X' p, e = .returned v ∧ s.post.vals = [p] ∧ X'.ob = obOf s.post.objs y ∧ RV P X' (p.inst y selfIm false) v ∧ Past P (kx X0) s.nb X0 w X' w'
theorem zml (s : Sig) (lk : Lk) (nid : Nat) (E : Env) (y : Lv) (f : Nat → AO) : updl f (called s lk nid E y).ws = updl (updl f (cond s.sh (frz lk E.bo) [])) (wsOf s lk nid E y) := by
  simp only [called, wsOf, zsy]
theorem znp {P : Program} {K : Kx} {X : Cx} {w : World} {lk : Lk} (H : Heap P K X) (hX : X.h = w.heap) (hlk : ∀ id, lk id = X.ob id ∨ lk id = .dead) {s : Sig} (hs : SigOk P s) (hok : s.ok = true) {vs : List AV} {us : List Value} (hv : F2 (RV P X) vs us)
    {E : Env} (hm : mtch lk s.pre vs [] = some E) (hwh : bdOk E.ids s.nb 0 s.pre.objs = true) {y : Lv} (hy : s.f E.lv.reverse = some y) {nid : Nat} (dead : ∀ t, t < s.post.objs.length - s.nb → X.ob (nid + t) = .dead) :
    Calls P s.fn us.toArray w fun e w' => ∃ v X'', e = .returned v ∧ X''.ob = updl X.ob (called s lk nid E y).ws ∧ RV P X'' (called s lk nid E y).v v ∧ Stp P K X w X'' w' := by
  obtain ⟨m1, m2, _, nod, nbo, mlt⟩ := zma hm
  obtain ⟨X1, Fz⟩ := frzs H hX hlk E.bo
  let X0 : Cx := ⟨fun j => match bd E.ids j, s.pre.objs[j]? with | some b, some q => bdLoc P X q.el b | _, _ => ⟨0, 0, 0, true⟩, fun fr b => fr = false ∧ X1.F E.af b, obOf s.pre.objs E.lv.reverse, X.h⟩
  have hnf : s.pre.nf = true := by
    have := hok
    simp only [Sig.ok, Bool.and_eq_true] at this
    exact this.1
  have R : Ren P K X w lk E X1 s.pre X0 true := by
    refine ⟨H, hX, hlk, Fz, m2, fun j b hb => ?_, rfl, fun j => rfl, fun j b q hb hq => ?_, fun _ => hnf, fun fr fr' h1 h2 h3 b hb => ?_⟩
    · have := mlt _ (zcc hb)
      exact ⟨_, List.getElem?_eq_getElem this⟩
    · show (match bd E.ids j, s.pre.objs[j]? with | some b, some q => bdLoc P X q.el b | _, _ => _) = _
      rw [hb, hq]
    · refine ⟨h1 rfl, ?_⟩
      cases haf : E.af
      · cases fr'
        · exact hb
        · exact Fz.stp.heap.Fle b hb
      · rw [h3 haf] at hb; exact hb
  have hno : ∀ (j : Nat) (e : TypeId) (n : Nat), s.pre.objs[j]? ≠ some (.rw e true n) := fun j e n hq => by have := R.obnf hq rfl; simp [PO.nf] at this
  have H0 : Heap P (kx X0) X0 := by
    refine R.heap (K' := kx X0) (fun j ps id base hp hb => ?_) (.inl hno) nod nbo (fun b hb => ?_) (fun b hb => ?_) (fun b hb => ?_) (Nat.le_refl _) (fun b hb => hb.1) (fun j hj hR => hR.2 j hj rfl) (fun j hj => .inl ⟨j, hj, rfl⟩)
    · have hlt : ∀ {o : Obj}, X.h[(X.β id).blk]? = some o → (X.β id).blk < X.h.size := fun h => (Array.getElem?_eq_some_iff.1 h).1
      obtain ⟨q, hq, hmo, hob, _⟩ := R.at_ hb
      rw [hp] at hq; cases hq
      obtain ⟨id', base', cells, e, h1, _⟩ := hmo
      cases e
      refine ⟨?_, fun j' hj' he => ?_⟩
      · obtain ⟨_, _, _, h2, _⟩ := zfe H (id := id) (cells := cells) (h1.imp (fun h => lk_rw hlk h (by simp)) fun h => lk_rw hlk h (by simp))
        exact hlt h2
      · obtain ⟨b', id'', a1, a2, a3, a4⟩ := R.own hj'
        rw [a4] at he
        rcases h1 with h1 | h1
        · have ho : Own X id := by unfold Own; rw [lk_rw hlk h1 (by simp)]; trivial
          have := H.inj id'' id a3 ho he
          subst this
          have := zfr nod (zcc a1) (zcc hb) a2 (by simp [Bd.ids])
          cases this
          unfold Own at hj'
          rw [hob] at hj'
          exact hj'
        · have hk := H.ok id
          unfold AOok at hk
          rw [lk_rw hlk h1 (by simp)] at hk
          exact H.nR id'' a3 (he ▸ hk.1)
    · obtain ⟨_, hb⟩ := hb
      cases haf : E.af
      · rw [haf] at hb; exact hb
      · rw [haf] at hb; exact Fz.stp.heap.Fle b hb
    · cases hb.1
    · cases hb.1
  have hargs : F2 (RV P X0) (s.pre.vals.map (·.inst E.lv.reverse selfIm false)) us := by
    have key : ∀ {ps : List PV} {xs : List AV}, F2 (MetV lk E) ps xs → ps.all PV.nf = true → ∀ {us : List Value}, F2 (RV P X) xs us → F2 (RV P X0) (ps.map (·.inst E.lv.reverse selfIm false)) us := by
      intro ps xs hf
      induction hf with
      | nil => intro _ us h; cases h; exact .nil
      | cons h1 _ ih =>
        intro hn us h
        simp only [List.all_cons, Bool.and_eq_true] at hn
        cases h with
        | cons a b => exact .cons (R.RV (fun _ => hn.1) h1 a) (ih hn.2 b)
    have hn := hnf
    simp only [Pat.nf, Bool.and_eq_true] at hn
    exact key m1 hn.1 hv
  refine Calls.mono (hs w us E.lv.reverse y X0 hX rfl (fun b hb => by cases hb.1) H0 hargs hy) ?_
  rintro e w' ⟨v, X', p, he, hp, hob, hrv, hpa⟩
  refine ⟨v, cxOf s lk nid E y (if s.sh = true then X1 else X) X', he, ?_, ?_, ?_⟩
  all_goals
    have C : Cal P K X w lk E s nid y X1 X0 (if s.sh = true then X1 else X) X' w' := by
      refine ⟨R, H0, fun fr b => Iff.rfl, nod, nbo, hok, dead, ?_, hpa, hob, hwh⟩
      cases hsh : s.sh
      · exact .inr ⟨rfl, by simp⟩
      · exact .inl ⟨rfl, by simp⟩
  · rw [zml]
    show updl _ _ = _
    congr 1
    cases hsh : s.sh
    · rfl
    · exact Fz.ob
  · have : (called s lk nid E y).v = p.inst y (bdIm E.ids s.nb nid) E.af := by simp [called, hp]
    rw [this]
    refine C.aft.RV ?_ hrv
    rcases C.parts.2.2.2.2.2 with h | h
    · exact .inr h
    · simp only [Pat.tr, Bool.and_eq_true, List.all_eq_true] at h
      exact .inl (h.1 p (by rw [hp]; simp))
  · have hst : Stp P K X w (if s.sh = true then X1 else X) w := by
      cases hsh : s.sh
      · simpa using Stp.refl H hX
      · simpa using Fz.stp
    exact hst.trans H (C.turn.stp C.XbH C.okS hpa.hX hpa.os hpa.tape hpa.output C.boxS)
end Go.Eng
end
section
namespace Go.Eng
open Go
abbrev Tm := Nat → AV
def tput (t : Tm) : Option Nat → AV → Tm
  | none, _ => t
  | some d, v => upd t d v
theorem St.put_t (σ : St) (dst : Option Nat) (v : AV) : (σ.put dst v).t = tput σ.t dst v := by
  cases dst with
  | none => rfl
  | some d =>
    funext n
    show look σ.dv ((d, v) :: σ.tm) n = upd σ.t d v n
    simp only [look, upd]
    by_cases h : n = d
    · subst h; simp
    · rw [zbq (Ne.symm h), if_neg h]; rfl
theorem St.put_o (σ : St) (dst : Option Nat) (v : AV) : (σ.put dst v).o = σ.o := by cases dst <;> rfl
theorem St.put_nx (σ : St) (dst : Option Nat) (v : AV) : (σ.put dst v).nx = σ.nx := by cases dst <;> rfl
theorem St.apply_t (σ : St) (dst : Option Nat) (v : AV) (ws : List (Nat × AO)) (nn : Nat) : (σ.apply dst v ws nn).t = tput σ.t dst v := by
  rw [← St.put_t]; rfl
theorem St.apply_nx (σ : St) (dst : Option Nat) (v : AV) (ws : List (Nat × AO)) (nn : Nat) : (σ.apply dst v ws nn).nx = σ.nx + nn := by cases dst <;> rfl
def fnOk (P : Program) (f : FuncId) : Prop := ∃ fn c, P.funcs[f]? = some fn ∧ (fn.name == "runtime.NumGoroutine") = false ∧ fn.body = some c
def Known (P : Program) (Γ : List Sig) : Prop := ∀ s ∈ Γ, SigOk P s ∧ s.ok = true ∧ fnOk P s.fn
structure Pa where
  v : AV
  ws : List (Nat × AO)
  nn : Nat
  ids : List Nat
  nid : Nat
inductive Act1 (P : Program) (Γ : List Sig) (o : Oper) (t : Tm) (ob : Lk) (p : Pa) : Prop where
  | core (r : AR) (ids : p.ids = opIds o.op (o.op.operands.toList.map (opnd t))) (h : acore P o.op (rlk p.ids ob) p.nid (o.op.operands.toList.map (opnd t)) = some r) (hg : ∀ b ∈ r.gs, b = true)
      (v : p.v = r.v) (ws : p.ws = r.ws) (nn : p.nn = r.nn)
  | call (c : Call) (fv : Operand) (f : Nat) (caps : List (Nat × Nat)) (s : Sig) (E : Env) (y : Lv) (hop : o.op = .call c) (hc : c.callee = .value fv) (hv : opnd t fv = .sc (.fn f caps)) (hs : sigOf f Γ = some s)
      (ids : p.ids = more ob (more ob (more ob ((c.args.toList.map (opnd t) ++ capArgs caps).flatMap AV.ids)))) (hm : mtch (rlk p.ids ob) s.pre (c.args.toList.map (opnd t) ++ capArgs caps) [] = some E) (hwh : bdOk E.ids s.nb 0 s.pre.objs = true) (hy : s.f E.lv.reverse = some y)
      (v : p.v = (called s (rlk p.ids ob) p.nid E y).v) (ws : p.ws = (called s (rlk p.ids ob) p.nid E y).ws) (nn : p.nn = (called s (rlk p.ids ob) p.nid E y).nn)
inductive Did (P : Program) (Γ : List Sig) (ops : Array Oper) (o : Oper) (t : Tm) (ob : Lk) (p : Pa) : Prop where
  | skip (j : Nat) (want : Bool) (d : Nat) (hg : o.guard = some (j, want)) (hd : gdst ops j = some d) (h : t d = .sc (.b (!want)) ∨ t d = .sc .ud) (v : p.v = .sc .ud) (ws : p.ws = []) (nn : p.nn = 0) (ids : p.ids = [])
  | act (hg : o.guard = none ∨ ∃ j want d, o.guard = some (j, want) ∧ gdst ops j = some d ∧ t d = .sc (.b want)) (h : Act1 P Γ o t ob p) (hw : wsOk p.nid p.nn p.ws = true)
structure Rep (P : Program) (K : Kx) (nt : Nat) (t : Tm) (X : Cx) (a : Act) (w : World) : Prop where
  heap : Heap P K X
  hX : X.h = w.heap
  tm : ∀ n, RV P X (t n) (a.tmps.getD n undef)
  sz : a.tmps.size = nt
  df : a.defers = []
theorem zew {P : Program} {X : Cx} {t : Tm} {a : Act} (h : ∀ n, RV P X (t n) (a.tmps.getD n undef)) (x : Operand) : RV P X (opnd t x) (a.eval x) := by
  cases x with
  | tmp n => exact h n
  | const v => exact zeh v
  | func f => exact ⟨fun c hc => (by simp at hc), rfl⟩
  | global g => trivial
theorem Rep.put {P : Program} {K : Kx} {nt : Nat} {t : Tm} {X X' : Cx} {a : Act} {w w' : World} (R : Rep P K nt t X a w) (S : Stp P K X w X' w') {dst : Option Nat} (hd : ∀ d, dst = some d → d < nt) {v : AV} {u : Value} (hv : RV P X' v u) :
    Rep P K nt (tput t dst v) X' (a.put dst u) w' := by
  refine ⟨S.heap, S.hX, fun n => ?_, ?_, ?_⟩
  · cases dst with
    | none => exact (R.tm n).ext S.ext
    | some d =>
      have hlt : d < a.tmps.size := by rw [R.sz]; exact hd d rfl
      show RV P X' (upd t d v n) ((a.tmps.setIfInBounds d u).getD n undef)
      by_cases h : n = d
      · subst h
        rw [upd_same, Array.getD_eq_getD_getElem?, Array.getElem?_setIfInBounds_self_of_lt hlt]
        exact hv
      · rw [zb1 _ _ h, Array.getD_eq_getD_getElem?, Array.getElem?_setIfInBounds_ne (Ne.symm h), ← Array.getD_eq_getD_getElem?]
        exact (R.tm n).ext S.ext
  · cases dst with
    | none => exact R.sz
    | some d => show (a.tmps.setIfInBounds d u).size = nt; rw [Array.size_setIfInBounds]; exact R.sz
  · cases dst <;> exact R.df
theorem zk2 {X : Cx} {ids : List Nat} (id : Nat) : rlk ids X.ob id = X.ob id ∨ rlk ids X.ob id = .dead := by
  unfold rlk
  cases has ids id
  · exact .inr rfl
  · exact .inl rfl
theorem zrv {P : Program} {f : FuncId} {fn : Func} {c : Code} (hf : P.funcs[f]? = some fn) (hname : (fn.name == "runtime.NumGoroutine") = false) (hb : fn.body = some c) (args : Array Value) (w : World) :
    (callFunc f args).run P w = .ok (.enter f args) w := by
  have h1 : fn.name ≠ "runtime.NumGoroutine" := by simpa using hname
  simp [callFunc, hf, h1, hb]
theorem znv {P : Program} {ρ : Operand → Value} {o : Oper} {c : Call} {fv : Operand} {f : FuncId} {cap : Array Value} (hop : o.op = .call c) (hc : c.callee = .value fv) (hv : ρ fv = .func (.func f) #[] cap) (hf : fnOk P f) (w : World) :
    (execOp ρ o).run P w = .ok (.enter f (c.args.map ρ ++ cap)) w := by
  obtain ⟨fn, b, h1, h2, h3⟩ := hf
  unfold execOp
  rw [hop]
  simp only [resolve, hc, hv, Deferred.ofValue, Sem.run_bind, Sem.run_pure, Result.andThen_ok, invoke, Array.empty_append]
  exact zrv h1 h2 h3 _ w
theorem zkg {f : Nat} {s : Sig} : ∀ {Γ : List Sig}, sigOf f Γ = some s → s ∈ Γ ∧ s.fn = f
  | [], h => by simp [sigOf] at h
  | x :: r, h => by
    simp only [sigOf] at h
    cases hb : Nat.beq x.fn f <;> simp [hb] at h
    · have := zkg h; exact ⟨by simp [this.1], this.2⟩
    · subst h; exact ⟨by simp, zg hb⟩
theorem F2.map_l {α β γ : Type} {R : α → β → Prop} {f : γ → α} {g : γ → β} (h : ∀ c, R (f c) (g c)) : ∀ l : List γ, F2 R (l.map f) (l.map g)
  | [] => .nil
  | c :: l => .cons (h c) (F2.map_l h l)
theorem zrh {P : Program} {X : Cx} {caps : List (Nat × Nat)} (h : ∀ c ∈ caps, RefBx X c.1 True) : F2 (RV P X) (capArgs caps) (caps.map fun c => Value.pointer (some ((X.β c.1).ptr c.2))) := by
  induction caps with
  | nil => exact .nil
  | cons c r ih =>
    refine .cons ?_ (ih fun d hd => h d (by simp [hd]))
    have := h c (by simp)
    exact this.imp fun _ => rfl
section
variable {P : Program} {Γ : List Sig} {ops : Array Oper} {K : Kx} {nt : Nat}
theorem ztg {o : Oper} (h : o.guard = none) (f : Nat → Option Bool) : Region.wanted o f = true := by simp [Region.wanted, h]
theorem zlg {a : Act} {t : Tm} {X : Cx} (hd : ∀ n, RV P X (t n) (a.tmps.getD n undef)) {j d : Nat} (hj : gdst ops j = some d) {x : Bool} (hx : t d = .sc (.b x)) : yielded ops a.tmps j = some x := by
  have h := hd d
  rw [hx] at h
  have h : a.tmps.getD d undef = .bool x := h
  unfold yielded
  unfold gdst at hj
  rw [hj]
  rw [Array.getD_eq_getD_getElem?] at h
  cases ht : a.tmps[d]? with
  | none => rw [ht] at h; simp [undef] at h
  | some v => rw [ht] at h; simp at h; subst h; simp [ht]
theorem zso {a : Act} {t : Tm} {X : Cx} (hd : ∀ n, RV P X (t n) (a.tmps.getD n undef)) {j d : Nat} (hj : gdst ops j = some d) (hx : t d = .sc .ud) : yielded ops a.tmps j = none := by
  have h := hd d
  rw [hx] at h
  have h : a.tmps.getD d undef = undef := h
  unfold yielded
  unfold gdst at hj
  rw [hj]
  rw [Array.getD_eq_getD_getElem?] at h
  cases ht : a.tmps[d]? with
  | none => simp [ht]
  | some v => rw [ht] at h; simp at h; subst h; simp [ht, undef]
theorem zlf (hΓ : Known P Γ) {o : Oper} {i : Nat} (hi : ops[i]? = some o) {t : Tm} {X : Cx} {a : Act} {w : World} (R : Rep P K nt t X a w) (hdst : ∀ d, o.dst = some d → d < nt) {p : Pa} (D : Did P Γ ops o t X.ob p) (dead : ∀ k, k < p.nn → X.ob (p.nid + k) = .dead)
    {Q : Exit → Act → World → Prop} {G : Act → World → Prop} (hG : ∀ a' w' X', Rep P K nt (tput t o.dst p.v) X' a' w' → X'.ob = updl X.ob p.ws → Stp P K X w X' w' → G a' w') : wpOp P ops Q i G a w := by
  unfold wpOp
  rw [hi]
  cases D with
  | skip j want d hg hd h v ws nn ids =>
    have hw : Region.wanted o (yielded ops a.tmps) = false := by
      simp only [Region.wanted, hg]
      rcases h with h | h
      · rw [zlg R.tm hd h]; cases want <;> rfl
      · rw [zso R.tm hd h]; rfl
    simp only [hw, Bool.false_eq_true, if_false]
    have S := Stp.refl R.heap R.hX
    exact hG _ _ X (by rw [v]; exact R.put S hdst rfl) (by rw [ws]; rfl) S
  | act hg h hwk =>
    have hw : Region.wanted o (yielded ops a.tmps) = true := by
      rcases hg with hg | ⟨j, want, d, hg, hd, h⟩
      · exact ztg hg _
      · simp only [Region.wanted, hg]
        rw [zlg R.tm hd h]; simp
    simp only [hw, if_true]
    left
    cases h with
    | core r ids h hgs v ws nn =>
      obtain ⟨n, u, w', X', h1, h2, h3, h4, h5⟩ := zn5 R.heap R.hX (zk2 (ids := p.ids)) (ρ := a.eval) (fun x _ => zew R.tm x) (fun gl => ⟨_, rfl⟩) h hgs fun hn => by simpa using dead 0 (by rw [nn]; omega)
      have G' := hG (a.put o.dst u) w' X' (by rw [v]; exact R.put h5 hdst h4) (by rw [ws]; exact h3) h5
      unfold Oper.wp
      rw [h1]
      rcases h2 with rfl | ⟨rfl, rfl⟩
      · exact G'
      · exact G'
    | call c fv f caps s E y hop hc hv hs ids hm hwh hy v ws nn =>
      obtain ⟨hsm, hsf⟩ := zkg hs
      obtain ⟨k1, k2, k3⟩ := hΓ s hsm
      have hfv := zew R.tm fv
      rw [hv] at hfv
      obtain ⟨b1, b2⟩ := hfv
      unfold Oper.wp
      rw [znv hop hc b2 (hsf ▸ k3)]
      show Calls P f _ w _
      rw [← hsf]
      have hargs : F2 (RV P X) (c.args.toList.map (opnd t) ++ capArgs caps) (c.args.toList.map a.eval ++ caps.map fun c => Value.pointer (some ((X.β c.1).ptr c.2))) := (F2.map_l (fun x => zew R.tm x) _).append (zrh b1)
      have hcall := znp R.heap R.hX (zk2 (ids := p.ids)) k1 k2 hargs hm hwh hy (nid := p.nid) (fun t ht => dead t (by rw [nn]; exact ht))
      have e : (c.args.map a.eval ++ (caps.map fun c => Value.pointer (some ((X.β c.1).ptr c.2))).toArray) = (c.args.toList.map a.eval ++ caps.map fun c => Value.pointer (some ((X.β c.1).ptr c.2))).toArray := by
        apply Array.toList_inj.1; simp
      rw [e]
      refine Calls.mono hcall ?_
      rintro e w' ⟨u, X', rfl, h1, h2, h3⟩
      exact hG (a.put o.dst u) w' X' (by rw [v]; exact R.put h3 hdst h2) (by rw [ws]; exact h1) h3
end
end Go.Eng
end
section
namespace Go.Eng
open Go
structure Sx where
  t : Tm
  ob : Nat → AO
  nx : Nat
def St.sx (σ : St) : Sx := ⟨σ.t, σ.o, σ.nx⟩
def Sx.step (s : Sx) (o : Oper) (p : Pa) : Sx := ⟨tput s.t o.dst p.v, updl s.ob p.ws, s.nx + p.nn⟩
inductive Runs (P : Program) (Γ : List Sig) (ops : Array Oper) : List Oper → Sx → List Pa → Sx → Prop where
  | nil (s : Sx) : Runs P Γ ops [] s [] s
  | cons {o : Oper} {r : List Oper} {s s' : Sx} {p : Pa} {ps : List Pa} (nid : p.nid = s.nx) (d : Did P Γ ops o s.t s.ob p) (h : Runs P Γ ops r (s.step o p) ps s') : Runs P Γ ops (o :: r) s (p :: ps) s'
def logOf (ops : Array Oper) (o : Oper) (p : Pa) : Log := ⟨match o.dst with | some d => bit d | none => 0, bits (o.looksAt ops), bits p.ids, bits (p.ws.map (·.1))⟩
section
variable {P : Program} {Γ : List Sig} {ops : Array Oper}
theorem zs7 {gs : List Bool} {k : Option Lv} {y : Lv} (h : guards gs k = some y) : (∀ b ∈ gs, b = true) ∧ k = some y := by
  induction gs with
  | nil => exact ⟨fun b h => by simp at h, h⟩
  | cons b r ih =>
    simp only [guards] at h
    cases b
    · cases h
    · obtain ⟨a, c⟩ := ih h
      exact ⟨fun x hx => (List.mem_cons.1 hx).elim id (a x), c⟩
theorem zjz {o : Oper} {σ : St} {lg : List Log} {K : St → List Log → Option Lv} {y : Lv}
    (h : (let vs := o.op.operands.toList.map (opnd σ.t); let ids := opIds o.op vs
      match acore P o.op (rlk ids σ.o) σ.nx vs with
      | none => none
      | some r => guards r.gs (cond (wsOk σ.nx r.nn r.ws) (K (σ.apply o.dst r.v r.ws r.nn) ((⟨match o.dst with | some d => bit d | none => 0, bits (o.looksAt ops), bits ids, bits (r.ws.map (·.1))⟩ : Log) :: lg)) none)) = some y) :
    ∃ p σ', p.nid = σ.nx ∧ Act1 P Γ o σ.t σ.o p ∧ wsOk p.nid p.nn p.ws = true ∧ σ'.sx = σ.sx.step o p ∧ K σ' (logOf ops o p :: lg) = some y := by
  simp only at h
  split at h
  · cases h
  · rename_i r hr
    obtain ⟨h1, h2⟩ := zs7 h
    cases hb : wsOk σ.nx r.nn r.ws <;> simp only [hb, cond_false, cond_true] at h2
    · cases h2
    exact ⟨⟨r.v, r.ws, r.nn, _, σ.nx⟩, _, rfl, .core r rfl hr h1 rfl rfl rfl, hb, by simp only [St.sx, Sx.step, St.apply_t, St.apply_o, St.apply_nx], h2⟩
theorem zqp {o : Oper} {σ : St} {lg : List Log} {K : St → List Log → Option Lv} {y : Lv} (h : doOp P Γ ops o σ lg K = some y) :
    ∃ p σ', p.nid = σ.nx ∧ Act1 P Γ o σ.t σ.o p ∧ wsOk p.nid p.nn p.ws = true ∧ σ'.sx = σ.sx.step o p ∧ K σ' (logOf ops o p :: lg) = some y := by
  unfold doOp at h
  simp only at h
  split at h
  · rename_i c hop
    split at h
    · rename_i fv hc
      have hops : o.op.operands.toList = fv :: c.args.toList := by rw [hop]; simp [Op.operands, Call.operands, hc]
      rw [hops] at h
      simp only [List.map_cons] at h
      split at h
      · rename_i f caps args hv
        obtain ⟨hfv', hargs⟩ := List.cons.inj hv
        subst hargs
        split at h
        · cases h
        · rename_i s hs
          split at h
          · cases h
          · rename_i E hm
            generalize hids : more σ.o (more σ.o (more σ.o _)) = ids at hm h
            cases hwh : bdOk E.ids s.nb 0 s.pre.objs <;> rw [hwh] at h
            · cases h
            rw [cond_true] at h
            obtain ⟨z, hz, h⟩ := Option.bind_eq_some_iff.1 h
            generalize hb : wsOk σ.nx (called s _ σ.nx E z).nn (called s _ σ.nx E z).ws = bb at h
            cases bb
            · cases h
            simp only [cond_true] at h
            refine ⟨⟨(called s (rlk ids σ.o) σ.nx E z).v, (called s (rlk ids σ.o) σ.nx E z).ws, (called s (rlk ids σ.o) σ.nx E z).nn, ids, σ.nx⟩, _, rfl, .call c fv f caps s E z hop hc hfv' hs hids.symm hm hwh hz rfl rfl rfl, hb, ?_, h⟩
            simp only [St.sx, Sx.step, St.apply_t, St.apply_o, St.apply_nx]
      · cases h
    · exact zjz h
  · exact zjz h
theorem zgh : ∀ {l : List Oper} {σ : St} {lg : List Log} {K : St → List Log → Option Lv} {y : Lv}, runOps P Γ ops l σ lg K = some y →
    ∃ ps σ', Runs P Γ ops l σ.sx ps σ'.sx ∧ K σ' ((List.zipWith (logOf ops) l ps).reverse ++ lg) = some y
  | [], σ, lg, K, y, h => ⟨[], σ, .nil _, h⟩
  | o :: r, σ, lg, K, y, h => by
    have put_sx : ∀ {d : Nat} {x : AV}, σ.t d = x → (σ.put (some d) x).sx = σ.sx := by
      intro d x hx
      simp only [St.sx, St.put_t, St.put_o, St.put_nx, tput, zi9 hx]
    have doIt : ∀ {σ0 : St}, σ0.sx = σ.sx → (o.guard = none ∨ ∃ j want d, o.guard = some (j, want) ∧ gdst ops j = some d ∧ σ.t d = .sc (.b want)) → doOp P Γ ops o σ0 lg (fun σ lg => runOps P Γ ops r σ lg K) = some y →
        ∃ ps σ', Runs P Γ ops (o :: r) σ.sx ps σ'.sx ∧ K σ' ((List.zipWith (logOf ops) (o :: r) ps).reverse ++ lg) = some y := by
      intro σ0 e hg h
      obtain ⟨p, σ1, h1, h2, h3, h4, h5⟩ := zqp h
      obtain ⟨ps, σ', h6, h7⟩ := zgh h5
      have e1 : σ0.t = σ.t := congrArg Sx.t e
      have e2 : σ0.o = σ.o := congrArg Sx.ob e
      have e3 : σ0.nx = σ.nx := congrArg Sx.nx e
      rw [e1, e2] at h2
      rw [e] at h4
      refine ⟨p :: ps, σ', .cons (h1.trans e3) (.act hg h2 h3) (h4 ▸ h6), ?_⟩
      simpa using h7
    have skipIt : ∀ {σ0 : St} {j : Nat} {want : Bool} {d : Nat}, σ0.sx = σ.sx → o.guard = some (j, want) → gdst ops j = some d → (σ.t d = .sc (.b (!want)) ∨ σ.t d = .sc .ud) → runOps P Γ ops r (σ0.put o.dst (.sc .ud)) (skipLog ops o :: lg) K = some y →
        ∃ ps σ', Runs P Γ ops (o :: r) σ.sx ps σ'.sx ∧ K σ' ((List.zipWith (logOf ops) (o :: r) ps).reverse ++ lg) = some y := by
      intro σ0 j want d e hg hd ht h
      obtain ⟨ps, σ', h6, h7⟩ := zgh h
      refine ⟨⟨.sc .ud, [], 0, [], σ.nx⟩ :: ps, σ', .cons rfl (.skip j want d hg hd ht rfl rfl rfl rfl) ?_, ?_⟩
      · have : (σ0.put o.dst (.sc .ud)).sx = σ.sx.step o ⟨.sc .ud, [], 0, [], σ.nx⟩ := by
          rw [← e]
          simp only [St.sx, Sx.step, St.put_t, St.put_o, St.put_nx, updl_nil, Nat.add_zero]
        rw [this] at h6; exact h6
      · rw [List.zipWith_cons_cons, List.reverse_cons, List.append_assoc, List.singleton_append]
        exact h7
    simp only [runOps] at h
    split at h
    · rename_i hg
      exact doIt rfl (.inl hg) h
    · rename_i j want hg
      split at h
      · cases h
      · rename_i d hd
        split at h
        · rename_i x hx
          cases x <;> cases want <;> simp only [cond_false, cond_true] at h
          · exact doIt (put_sx hx) (.inr ⟨j, false, d, hg, hd, hx⟩) h
          · exact skipIt (put_sx hx) hg hd (.inl hx) h
          · exact skipIt (put_sx hx) hg hd (.inl hx) h
          · exact doIt (put_sx hx) (.inr ⟨j, true, d, hg, hd, hx⟩) h
        · rename_i hx
          exact skipIt rfl hg hd (.inr hx) h
        · cases h
def Sx.free (s : Sx) : Prop := ∀ k, s.nx ≤ k → s.ob k = .dead
theorem zpw {nx nn : Nat} {ws : List (Nat × AO)} (h : wsOk nx nn ws = true) {x : Nat × AO} (hx : x ∈ ws) : x.1 < nx + nn := by
  simp only [wsOk, Bool.and_eq_true, List.all_eq_true] at h
  exact Nat.le_of_ble_eq_true (h.1 x hx)
theorem zot {nx nn : Nat} {ws : List (Nat × AO)} (h : wsOk nx nn ws = true) {t : Nat} (ht : t < nn) : nx + t ∈ ws.map (·.1) := by
  simp only [wsOk, Bool.and_eq_true, List.all_eq_true] at h
  exact zeo.1 (h.2 t (List.mem_range.2 ht))
theorem Did.ws_lt {o : Oper} {t : Tm} {ob : Lk} {p : Pa} (h : Did P Γ ops o t ob p) {x : Nat × AO} (hx : x ∈ p.ws) : x.1 < p.nid + p.nn := by
  cases h with
  | skip j want d hg hd h v ws nn ids => rw [ws] at hx; simp at hx
  | act hg h hw => exact zpw hw hx
theorem Did.ws_new {o : Oper} {t : Tm} {ob : Lk} {p : Pa} (h : Did P Γ ops o t ob p) {k : Nat} (hk : k < p.nn) : p.nid + k ∈ p.ws.map (·.1) := by
  cases h with
  | skip j want d hg hd h v ws nn ids => rw [nn] at hk; omega
  | act hg h hw => exact zot hw hk
theorem zdk {d : AO} {ws : List (Nat × AO)} {n : Nat} (h : n ∉ ws.map (·.1)) : look d ws n = d := zfj fun v hv => h (List.mem_map.2 ⟨_, hv, rfl⟩)
theorem Sx.free.step {s : Sx} (h : s.free) {o : Oper} {p : Pa} (hn : p.nid = s.nx) (d : Did P Γ ops o s.t s.ob p) : (s.step o p).free := by
  intro k hk
  have hk : s.nx + p.nn ≤ k := hk
  show look (s.ob k) p.ws k = .dead
  rw [zdk, h k (by omega)]
  intro hm
  obtain ⟨x, hx, rfl⟩ := List.mem_map.1 hm
  have := d.ws_lt hx
  omega
theorem Runs.free {l : List Oper} {s s' : Sx} {ps : List Pa} (h : Runs P Γ ops l s ps s') (hf : s.free) : s'.free := by
  induction h with
  | nil => exact hf
  | cons nid d h ih => exact ih (hf.step nid d)
theorem zko (hΓ : Known P Γ) {K : Kx} {nt : Nat} (hd : ∀ o ∈ ops.toList, ∀ d, o.dst = some d → d < nt) {Q : Exit → Act → World → Prop} : ∀ {l pre : List Oper} {s s' : Sx} {ps : List Pa} {X : Cx} {a : Act} {w : World}, ops.toList = pre ++ l → Runs P Γ ops l s ps s' → s.free →
    X.ob = s.ob → Rep P K nt s.t X a w → (∀ a' w' X', Rep P K nt s'.t X' a' w' → X'.ob = s'.ob → Stp P K X w X' w' → Q .normal a' w') → wpOps P ops Q (List.range' pre.length l.length) a w
  | [], pre, s, _, _, X, a, w, he, .nil _, hf, hob, R, hQ => by
    simp only [List.length_nil, List.range'_zero, wpOps]
    exact hQ a w X R hob (Stp.refl R.heap R.hX)
  | o :: r, pre, s, s', _, X, a, w, he, .cons (p := p) nid d h, hf, hob, R, hQ => by
    rw [List.length_cons, List.range'_succ, wpOps_cons]
    have hi : ops[pre.length]? = some o := by rw [← Array.getElem?_toList, he]; simp
    refine zlf hΓ hi R (hd o (by rw [he]; simp)) (p := p) (by rw [hob]; exact d) (fun k hk => by rw [hob]; exact hf _ (by omega)) fun a' w' X' R' hob' S => ?_
    have := zko hΓ hd (Q := Q) (l := r) (pre := pre ++ [o]) (X := X') (a := a') (w := w') (by rw [he]; simp) h (hf.step nid d) (by rw [hob', hob]; rfl) R' fun a'' w'' X'' R'' h1 h2 => hQ a'' w'' X'' R'' h1 (S.trans R.heap h2)
    rw [List.length_append, List.length_singleton] at this
    exact this
end
end Go.Eng
end
section
namespace Go.Eng
open Go
section
variable {P : Program} {Γ : List Sig} {ops : Array Oper}
theorem zdn {ob : Lk} {ids : List Nat} {id : Nat} (h : id ∈ ids) : id ∈ more ob ids := by unfold more; exact List.mem_append_left _ h
theorem zgn {ob ob' : Lk} {ids : List Nat} (h : ∀ id ∈ ids, ob id = ob' id) : more ob ids = more ob' ids := by
  unfold more
  congr 1
  induction ids with
  | nil => rfl
  | cons x r ih => rw [List.flatMap_cons, List.flatMap_cons, ih fun id hi => h id (by simp [hi]), h x (by simp)]
theorem zjl {ob ob' : Lk} {ids : List Nat} (h : ∀ id ∈ ids, ob id = ob' id) : rlk ids ob = rlk ids ob' := by
  funext id
  unfold rlk
  cases hh : has ids id
  · rfl
  · exact h id (zeo.1 hh)
theorem zf9 {o : Oper} {t t' : Tm} (h : ∀ n ∈ o.looksAt ops, t n = t' n) {x : Operand} (hx : x ∈ o.op.operands.toList) : opnd t x = opnd t' x := by
  cases x with
  | tmp n => exact h n (List.mem_append_left _ (List.mem_filterMap.2 ⟨.tmp n, hx, rfl⟩))
  | _ => rfl
theorem Act1.congr {o : Oper} {t t' : Tm} {ob ob' : Lk} {p : Pa} (h : Act1 P Γ o t ob p) (ht : ∀ n ∈ o.looksAt ops, t n = t' n) (ho : ∀ id ∈ p.ids, ob id = ob' id) : Act1 P Γ o t' ob' p := by
  cases h with
  | core r ids h hg v ws nn =>
    have e : o.op.operands.toList.map (opnd t) = o.op.operands.toList.map (opnd t') := List.map_congr_left fun x hx => zf9 ht hx
    rw [e] at ids h
    rw [zjl ho] at h
    exact .core r ids h hg v ws nn
  | call c fv f caps s E y hop hc hv hs ids hm hwh hy v ws nn =>
    have hops : o.op.operands.toList = fv :: c.args.toList := by rw [hop]; simp [Op.operands, Call.operands, hc]
    have e : c.args.toList.map (opnd t) = c.args.toList.map (opnd t') := List.map_congr_left fun x hx => zf9 ht (by rw [hops]; simp [hx])
    have e' : opnd t fv = opnd t' fv := zf9 ht (by rw [hops]; simp)
    rw [e] at ids hm
    rw [zjl ho] at hm v ws nn
    refine .call c fv f caps s E y hop hc (e' ▸ hv) hs ?_ hm hwh hy v ws nn
    rw [ids] at ho ⊢
    have h1 := zgn (ids := (c.args.toList.map (opnd t') ++ capArgs caps).flatMap AV.ids) fun id hi => ho id (zdn (zdn (zdn hi)))
    rw [← h1]
    have h2 := zgn (ids := more ob ((c.args.toList.map (opnd t') ++ capArgs caps).flatMap AV.ids)) fun id hi => ho id (zdn (zdn hi))
    rw [← h2]
    exact zgn fun id hi => ho id (zdn hi)
theorem Did.congr {o : Oper} {t t' : Tm} {ob ob' : Lk} {p : Pa} (h : Did P Γ ops o t ob p) (ht : ∀ n ∈ o.looksAt ops, t n = t' n) (ho : ∀ id ∈ p.ids, ob id = ob' id) : Did P Γ ops o t' ob' p := by
  have hgd : ∀ {j want d}, o.guard = some (j, want) → gdst ops j = some d → d ∈ o.looksAt ops := by
    intro j want d hg hd
    refine List.mem_append_right _ ?_
    rw [hg]
    unfold gdst at hd
    simp [hd]
  cases h with
  | skip j want d hg hd h v ws nn ids => exact .skip j want d hg hd (by rw [← ht d (hgd hg hd)]; exact h) v ws nn ids
  | act hg h hw =>
    refine .act ?_ (h.congr ht ho) hw
    rcases hg with hg | ⟨j, want, d, hg, hd, h⟩
    · exact .inl hg
    · exact .inr ⟨j, want, d, hg, hd, by rw [← ht d (hgd hg hd)]; exact h⟩
abbrev OP := Oper × Pa
def foldD (D : Nat → Bool) : Nat → List OP → Sx → Sx
  | _, [], s => s
  | i, x :: r, s => foldD D (i + 1) r (cond (D i) (s.step x.1 x.2) s)
theorem zds {D D' : Nat → Bool} : ∀ {L : List OP} {j : Nat} {s : Sx}, (∀ k, k < L.length → D (j + k) = D' (j + k)) → foldD D j L s = foldD D' j L s
  | [], _, _, _ => rfl
  | x :: L, j, s, h => by
    simp only [foldD]
    rw [show D j = D' j from h 0 (by simp)]
    exact zds fun k hk => by rw [show j + 1 + k = j + (k + 1) by omega]; exact h (k + 1) (by simp; omega)
theorem zf7 {D : Nat → Bool} : ∀ {L L' : List OP} {j : Nat} {s : Sx}, foldD D j (L ++ L') s = foldD D (j + L.length) L' (foldD D j L s)
  | [], _, _, _ => rfl
  | x :: L, L', j, s => by
    simp only [List.cons_append, foldD, List.length_cons]
    rw [zf7, show j + 1 + L.length = j + (L.length + 1) by omega]
theorem zl2 {D D' : Nat → Bool} {n : Nat} : ∀ {L : List OP} {j : Nat} {s s' : Sx}, s.t n = s'.t n → (∀ k x, L[k]? = some x → D (j + k) ≠ D' (j + k) → x.1.dst ≠ some n) → (foldD D j L s).t n = (foldD D' j L s').t n
  | [], _, _, _, h, _ => h
  | x :: L, j, s, s', h, hd => by
    simp only [foldD]
    refine zl2 ?_ fun k y hy hk => hd (k + 1) y (by simpa using hy) (by rw [show j + (k + 1) = j + 1 + k by omega]; exact hk)
    have h0 := hd 0 x (by simp)
    simp only [Nat.add_zero] at h0
    have key : ∀ s : Sx, x.1.dst ≠ some n → (s.step x.1 x.2).t n = s.t n := by
      intro s hn
      show tput s.t x.1.dst x.2.v n = s.t n
      cases hx : x.1.dst with
      | none => rfl
      | some d => exact zb1 _ _ fun e => hn (by rw [hx, e])
    have both : (s.step x.1 x.2).t n = (s'.step x.1 x.2).t n := by
      show tput s.t x.1.dst x.2.v n = tput s'.t x.1.dst x.2.v n
      cases hx : x.1.dst with
      | none => exact h
      | some d => simp only [tput, upd]; rw [h]
    cases h1 : D j <;> cases h2 : D' j <;> simp only [cond_true, cond_false]
    · exact h
    · rw [key _ (h0 (by rw [h1, h2]; simp))]; exact h
    · rw [key _ (h0 (by rw [h1, h2]; simp))]; exact h
    · exact both
theorem zgi {D D' : Nat → Bool} {id : Nat} : ∀ {L : List OP} {j : Nat} {s s' : Sx}, s.ob id = s'.ob id → (∀ k x, L[k]? = some x → D (j + k) ≠ D' (j + k) → id ∉ x.2.ws.map (·.1)) → (foldD D j L s).ob id = (foldD D' j L s').ob id
  | [], _, _, _, h, _ => h
  | x :: L, j, s, s', h, hd => by
    simp only [foldD]
    refine zgi ?_ fun k y hy hk => hd (k + 1) y (by simpa using hy) (by rw [show j + (k + 1) = j + 1 + k by omega]; exact hk)
    have h0 := hd 0 x (by simp)
    simp only [Nat.add_zero] at h0
    have key : ∀ s : Sx, id ∉ x.2.ws.map (·.1) → (s.step x.1 x.2).ob id = s.ob id := fun s hn => zdk hn
    have both : (s.step x.1 x.2).ob id = (s'.step x.1 x.2).ob id := by
      show look (s.ob id) x.2.ws id = look (s'.ob id) x.2.ws id
      rw [h]
    cases h1 : D j <;> cases h2 : D' j <;> simp only [cond_true, cond_false]
    · exact h
    · rw [key _ (h0 (by rw [h1, h2]; simp))]; exact h
    · rw [key _ (h0 (by rw [h1, h2]; simp))]; exact h
    · exact both
def Same (s s' : Sx) : Prop := s.t = s'.t ∧ s.ob = s'.ob
theorem Same.step {s s' : Sx} (h : Same s s') (o : Oper) (p : Pa) : Same (s.step o p) (s'.step o p) := by
  obtain ⟨h1, h2⟩ := h
  exact ⟨by show tput _ _ _ = tput _ _ _; rw [h1], by show updl _ _ = updl _ _; rw [h2]⟩
theorem zkr {D : Nat → Bool} : ∀ {L : List OP} {j : Nat} {s s' : Sx}, Same s s' → Same (foldD D j L s) (foldD D j L s')
  | [], _, _, _, h => h
  | x :: L, j, s, s', h => by
    simp only [foldD]
    apply zkr
    cases D j
    · exact h
    · exact h.step _ _
def Apart (a b : OP) : Prop := (∀ d, a.1.dst = some d → b.1.dst ≠ some d) ∧ ∀ n ∈ a.2.ws.map (·.1), n ∉ b.2.ws.map (·.1)
theorem Apart.comm {a b : OP} (h : Apart a b) (s : Sx) : Same ((s.step a.1 a.2).step b.1 b.2) ((s.step b.1 b.2).step a.1 a.2) := by
  obtain ⟨h1, h2⟩ := h
  constructor
  · show tput (tput s.t a.1.dst a.2.v) b.1.dst b.2.v = tput (tput s.t b.1.dst b.2.v) a.1.dst a.2.v
    cases ha : a.1.dst with
    | none => rfl
    | some d =>
      cases hb : b.1.dst with
      | none => rfl
      | some e =>
        have hne : d ≠ e := fun hx => h1 d ha (hx ▸ hb)
        funext n
        simp only [tput, upd]
        by_cases h3 : n = e
        · subst h3; simp [Ne.symm hne]
        · by_cases h4 : n = d
          · subst h4; simp [h3]
          · simp [h3, h4]
  · funext n
    show look (look (s.ob n) a.2.ws n) b.2.ws n = look (look (s.ob n) b.2.ws n) a.2.ws n
    by_cases hn : n ∈ a.2.ws.map (·.1)
    · rw [zdk (ws := b.2.ws) (h2 n hn), zdk (ws := b.2.ws) (h2 n hn)]
    · rw [zdk (ws := a.2.ws) hn, zdk (ws := a.2.ws) hn]
theorem Same.trans {a b c : Sx} (h : Same a b) (k : Same b c) : Same a c := ⟨h.1.trans k.1, h.2.trans k.2⟩
theorem Same.symm {a b : Sx} (h : Same a b) : Same b a := ⟨h.1.symm, h.2.symm⟩
theorem zh6 {D : Nat → Bool} {a : OP} : ∀ {L : List OP} {j : Nat} {s : Sx}, (∀ k x, L[k]? = some x → D (j + k) = true → Apart a x) → Same (foldD D j L (s.step a.1 a.2)) ((foldD D j L s).step a.1 a.2)
  | [], _, _, _ => ⟨rfl, rfl⟩
  | x :: L, j, s, h => by
    simp only [foldD]
    have ih := fun s => zh6 (D := D) (a := a) (L := L) (j := j + 1) (s := s) fun k y hy hk => h (k + 1) y (by simpa using hy) (by rw [show j + (k + 1) = j + 1 + k by omega]; exact hk)
    cases hD : D j
    · exact ih s
    · exact (zkr ((h 0 x (by simp) (by simpa using hD)).comm s)).trans (ih _)
theorem zo5 {D : Nat → Bool} {a : OP} {L1 L2 : List OP} {s : Sx} (hD : D L1.length = false) (h : ∀ k x, L2[k]? = some x → D (L1.length + 1 + k) = true → Apart a x) :
    Same (foldD (fun k => Nat.beq k L1.length || D k) 0 (L1 ++ a :: L2) s) ((foldD D 0 (L1 ++ a :: L2) s).step a.1 a.2) := by
  rw [zf7, zf7]
  simp only [foldD, Nat.zero_add]
  have h1 : foldD (fun k => Nat.beq k L1.length || D k) 0 L1 s = foldD D 0 L1 s := zds fun k hk => by
    rw [Nat.zero_add, zbq (by omega)]; rfl
  rw [h1, show (Nat.beq L1.length L1.length || D L1.length) = true by simp, hD]
  simp only [cond_true, cond_false]
  rw [zds (D' := D) fun k hk => by rw [zbq (by omega)]; rfl]
  exact zh6 h
theorem Runs.at_ : ∀ {l : List Oper} {s s' : Sx} {ps : List Pa}, Runs P Γ ops l s ps s' → s.free → ∀ j, s' = foldD (fun _ => true) j (l.zip ps) s ∧ (l.zip ps).map (·.1) = l ∧
    ∀ i x, (l.zip ps)[i]? = some x → Did P Γ ops x.1 (foldD (fun k => Nat.blt k (j + i)) j (l.zip ps) s).t (foldD (fun k => Nat.blt k (j + i)) j (l.zip ps) s).ob x.2 ∧
      x.2.nid = (foldD (fun k => Nat.blt k (j + i)) j (l.zip ps) s).nx ∧ (foldD (fun k => Nat.blt k (j + i)) j (l.zip ps) s).free
  | [], s, _, _, .nil _, hf, j => ⟨rfl, rfl, fun i x h => by simp at h⟩
  | o :: r, s, s', _, .cons (p := p) (ps := ps) nid d h, hf, j => by
    obtain ⟨a, b, c⟩ := Runs.at_ h (hf.step nid d) (j + 1)
    refine ⟨a, by simp only [List.zip_cons_cons, List.map_cons, b], fun i x hx => ?_⟩
    cases i with
    | zero =>
      simp only [List.zip_cons_cons, List.getElem?_cons_zero, Option.some.injEq] at hx
      subst hx
      have e : foldD (fun k => Nat.blt k (j + 0)) j ((o :: r).zip (p :: ps)) s = s := by
        rw [zds (D' := fun _ => false) fun k hk => ?_]
        · have : ∀ {L : List OP} {j : Nat} {s : Sx}, foldD (fun _ => false) j L s = s := by
            intro L
            induction L with
            | nil => intros; rfl
            | cons x L ih => intros; exact ih
          exact this
        · have : ¬ (j + k) < j + 0 := by omega
          cases hb : Nat.blt (j + k) (j + 0) with
          | false => rfl
          | true => exact absurd (Nat.blt_eq.mp hb) this
      rw [e]
      exact ⟨d, nid, hf⟩
    | succ i =>
      simp only [List.zip_cons_cons, List.getElem?_cons_succ] at hx
      have := c i x hx
      have e : foldD (fun k => Nat.blt k (j + (i + 1))) j ((o :: r).zip (p :: ps)) s = foldD (fun k => Nat.blt k (j + 1 + i)) (j + 1) (r.zip ps) (s.step o p) := by
        simp only [List.zip_cons_cons, foldD]
        rw [show j + (i + 1) = j + 1 + i by omega, show Nat.blt j (j + 1 + i) = true from Nat.blt_eq.mpr (by omega)]
        rfl
      rw [e]; exact this
end
end Go.Eng
end
section
namespace Go.Eng
open Go
theorem zhj {n k : Nat} : (bit n).testBit k = decide (n = k) := by
  unfold bit
  rw [Nat.one_shiftLeft, Nat.testBit_two_pow]
theorem zcw {l : List Nat} {k : Nat} : (bits l).testBit k = true ↔ k ∈ l := by
  induction l with
  | nil => simp [bits]
  | cons n l ih =>
    have : bits (n :: l) = bit n ||| bits l := rfl
    rw [this, Nat.testBit_or, zhj, Bool.or_eq_true, ih, decide_eq_true_eq, List.mem_cons]
    exact or_congr_left eq_comm
theorem zd4 {a b k : Nat} (h : a &&& b = 0) (ha : a.testBit k = true) : b.testBit k ≠ true := fun hb => by
  have : (a &&& b).testBit k = true := by rw [Nat.testBit_and, ha, hb]; rfl
  rw [h] at this; simp at this
theorem zgy {a b : Nat} (h : a ||| b = 0) : a = 0 ∧ b = 0 := Nat.or_eq_zero_iff.1 h
def dbit (o : Oper) : Nat := match o.dst with | some d => bit d | none => 0
theorem zet {o : Oper} {d : Nat} (h : o.dst = some d) : (dbit o).testBit d = true := by simp [dbit, h, zhj]
structure Free (ops : Array Oper) (a b : OP) : Prop where
  dt : ∀ d, a.1.dst = some d → d ∉ b.1.looksAt ops
  td : ∀ d, b.1.dst = some d → d ∉ a.1.looksAt ops
  dd : ∀ d, a.1.dst = some d → b.1.dst ≠ some d
  wr : ∀ n ∈ a.2.ws.map (·.1), n ∉ b.2.ids
  rw : ∀ n ∈ b.2.ws.map (·.1), n ∉ a.2.ids
  ww : ∀ n ∈ a.2.ws.map (·.1), n ∉ b.2.ws.map (·.1)
theorem zsd {ops : Array Oper} {a b : OP} (h : conf (logOf ops a.1 a.2) (logOf ops b.1 b.2) = false) : Free ops a b := by
  have h1 : Nat.beq ((dbit a.1 &&& (bits (b.1.looksAt ops) ||| dbit b.1)) ||| ((dbit b.1 &&& bits (a.1.looksAt ops)) ||| ((bits (a.2.ws.map (·.1)) &&& (bits b.2.ids ||| bits (b.2.ws.map (·.1)))) ||| (bits (b.2.ws.map (·.1)) &&& bits a.2.ids)))) 0 = true := by
    have : (!Nat.beq ((dbit a.1 &&& (bits (b.1.looksAt ops) ||| dbit b.1)) ||| ((dbit b.1 &&& bits (a.1.looksAt ops)) ||| ((bits (a.2.ws.map (·.1)) &&& (bits b.2.ids ||| bits (b.2.ws.map (·.1)))) ||| (bits (b.2.ws.map (·.1)) &&& bits a.2.ids)))) 0) = false := h
    simpa using this
  have h2 := zg h1
  obtain ⟨e1, h3⟩ := zgy h2
  obtain ⟨e2, h4⟩ := zgy h3
  obtain ⟨e3, e4⟩ := zgy h4
  have orl : ∀ {x y k : Nat}, (x ||| y).testBit k ≠ true → x.testBit k ≠ true ∧ y.testBit k ≠ true := by
    intro x y k h
    rw [Nat.testBit_or] at h
    exact ⟨fun hx => h (by rw [hx]; rfl), fun hy => h (by rw [hy, Bool.or_true])⟩
  refine ⟨fun d hd hm => ?_, fun d hd hm => ?_, fun d hd hm => ?_, fun n hn hm => ?_, fun n hn hm => ?_, fun n hn hm => ?_⟩
  · exact (orl (zd4 e1 (zet hd))).1 (zcw.2 hm)
  · exact zd4 e2 (zet hd) (zcw.2 hm)
  · exact (orl (zd4 e1 (zet hd))).2 (zet hm)
  · exact (orl (zd4 e3 (zcw.2 hn))).1 (zcw.2 hm)
  · exact zd4 e4 (zcw.2 hn) (zcw.2 hm)
  · exact (orl (zd4 e3 (zcw.2 hn))).2 (zcw.2 hm)
theorem ziw {i : Nat} {a : Log} : ∀ {ms : List Nat} {ls : List Log}, chk1 i a ms ls = true → ∀ (k m : Nat) (b : Log), ms[k]? = some m → ls[k]? = some b → conf a b = false ∨ m.testBit i = true
  | m :: ms, b :: ls, h, k, m', b', hm, hb => by
    simp only [chk1, Bool.and_eq_true, Bool.or_eq_true, Bool.not_eq_true'] at h
    cases k with
    | zero => simp at hm hb; subst hm hb; exact h.1
    | succ k => exact ziw h.2 k m' b' (by simpa using hm) (by simpa using hb)
  | [], _, _, k, m', b', hm, hb => by simp at hm
  | _ :: _, [], _, k, m', b', hm, hb => by simp at hb
theorem zlr : ∀ {ms : List Nat} {ls : List Log} {i : Nat}, chk i ms ls = true → ∀ (j k : Nat) (a b : Log) (m : Nat), j < k → ls[j]? = some a → ls[k]? = some b → ms[k]? = some m → conf a b = false ∨ m.testBit (i + j) = true
  | m :: ms, a :: ls, i, h, j, k, a', b', m', hjk, ha, hb, hm => by
    simp only [chk, Bool.and_eq_true] at h
    cases k with
    | zero => omega
    | succ k =>
      cases j with
      | zero => simp at ha; subst ha; exact ziw h.1 k m' b' (by simpa using hm) (by simpa using hb)
      | succ j => have := zlr h.2 j k a' b' m' (by omega) (by simpa using ha) (by simpa using hb) (by simpa using hm); rw [show i + (j + 1) = i + 1 + j by omega]; exact this
  | [], _, _, _, j, k, a', b', m', hjk, ha, hb, hm => by simp at hm
  | _ :: _, [], _, _, j, k, a', b', m', hjk, ha, hb, hm => by simp at ha
section
variable {ops : Array Oper}
def Closed (ops : Array Oper) (D : Nat → Bool) : Prop := ∀ i o, ops[i]? = some o → D i = true → ∀ e ∈ o.after, Region.binds .any e = true → D e.on = true
def MOk (ops : Array Oper) (i m : Nat) : Prop := ∀ o, ops[i]? = some o → ∀ D, Closed ops D → (∀ e ∈ o.after, Region.binds .any e = true → D e.on = true) → ∀ k, m.testBit k = true → D k = true
theorem zj2 : ∀ {l : List Oper} {acc : List Nat}, (masks l acc).length = l.length
  | [], _ => rfl
  | o :: r, acc => by simp [masks, zj2]
theorem ziu : ∀ {l pre : List Oper} {acc : List Nat}, ops.toList = pre ++ l → acc.length = pre.length → (∀ i m, acc[i]? = some m → MOk ops i m) → ∀ i m, (masks l acc)[i]? = some m → MOk ops (pre.length + i) m
  | [], pre, acc, _, _, _, i, m, hm => by simp [masks] at hm
  | o :: r, pre, acc, he, hl, ha, i, m, hm => by
    simp only [masks] at hm
    have hnow : MOk ops pre.length (o.after.toList.foldr (fun e m => cond (Region.binds .any e) (bit e.on ||| (acc.getD e.on 0 ||| m)) m) 0) := by
      intro o' ho' D hD hall k hk
      have : o' = o := by
        rw [← Array.getElem?_toList, he] at ho'; simp at ho'; exact ho'.symm
      subst this
      have key : ∀ es : List Edge, (∀ e ∈ es, Region.binds .any e = true → D e.on = true) → (es.foldr (fun e m => cond (Region.binds .any e) (bit e.on ||| (acc.getD e.on 0 ||| m)) m) 0).testBit k = true → D k = true := by
        intro es
        induction es with
        | nil => intro _ h; simp at h
        | cons e es ih =>
          intro hes h
          simp only [List.foldr_cons] at h
          cases hb : Region.binds .any e
          · rw [hb] at h; exact ih (fun e' he' => hes e' (by simp [he'])) h
          · rw [hb] at h
            simp only [cond_true, Nat.testBit_or, Bool.or_eq_true, zhj, decide_eq_true_eq] at h
            have hon := hes e (by simp) hb
            rcases h with h | h | h
            · rw [← h]; exact hon
            · rw [List.getD_eq_getElem?_getD] at h
              cases hx : acc[e.on]? with
              | none => rw [hx] at h; simp at h
              | some m' =>
                rw [hx] at h
                simp at h
                have hlt : e.on < pre.length := by rw [← hl]; exact (List.getElem?_eq_some_iff.1 hx).1
                have ho : ops[e.on]? = some pre[e.on] := by
                  rw [← Array.getElem?_toList, he, List.getElem?_append_left hlt]; exact List.getElem?_eq_getElem hlt
                exact ha e.on m' hx _ ho D hD (fun e' he' hb' => hD e.on _ ho hon e' he' hb') k h
            · exact ih (fun e' he' => hes e' (by simp [he'])) h
      exact key _ (fun e he => hall e (Array.mem_def.2 he)) hk
    cases i with
    | zero => rw [List.getElem?_cons_zero] at hm; cases hm; exact hnow
    | succ i =>
      have := ziu (l := r) (pre := pre ++ [o]) (acc := acc ++ [_]) (by rw [he]; simp) (by simp [hl]) (fun i' m' hm' => ?_) i m (by rw [List.getElem?_cons_succ] at hm; exact hm)
      · rw [List.length_append, List.length_singleton, show pre.length + 1 + i = pre.length + (i + 1) by omega] at this; exact this
      · rcases Nat.lt_or_ge i' acc.length with hlt | hge
        · rw [List.getElem?_append_left hlt] at hm'; exact ha i' m' hm'
        · rw [List.getElem?_append_right hge] at hm'
          have h0 : i' - acc.length = 0 := by have := (List.getElem?_eq_some_iff.1 hm').1; simp at this; omega
          rw [h0] at hm'
          cases hm'
          rw [show i' = pre.length by omega]; exact hnow
theorem zj4 : ∀ {l : List Oper} {i : Nat}, backw i l = true → ∀ k o, l[k]? = some o → ∀ e ∈ o.after, Region.binds .any e = true → e.on < i + k
  | o :: r, i, h, k, o', ho, e, he, hb => by
    simp only [backw, Bool.and_eq_true, List.all_eq_true, Bool.or_eq_true, Bool.not_eq_true'] at h
    cases k with
    | zero =>
      simp at ho; subst ho
      have := h.1 e (Array.mem_def.1 he)
      rw [hb] at this
      have := Nat.le_of_ble_eq_true (this.resolve_left (by simp))
      omega
    | succ k => have := zj4 h.2 k o' (by simpa using ho) e he hb; omega
  | [], i, _, k, o', ho, e, he, hb => by simp at ho
def cnt (listed : Array Bool) (n : Nat) : Nat := ((List.range n).filter fun i => !listed.getD i true).length
theorem zh2 {α : Type} {p q : α → Bool} : ∀ {l : List α}, (∀ x, q x = true → p x = true) → ∀ {x : α}, x ∈ l → p x = true → q x = false → (l.filter q).length < (l.filter p).length
  | [], _, x, hx, _, _ => by simp at hx
  | y :: l, h, x, hx, hp, hq => by
    have mono : (l.filter q).length ≤ (l.filter p).length := by
      clear hx
      induction l with
      | nil => simp
      | cons z l ih =>
        simp only [List.filter_cons]
        cases hqz : q z
        · cases hpz : p z <;> simp <;> omega
        · rw [h z hqz]; simp; exact ih
    rcases List.mem_cons.1 hx with rfl | hx
    · simp only [List.filter_cons, hp, hq]; simp; omega
    · have := zh2 h hx hp hq
      simp only [List.filter_cons]
      cases hqy : q y
      · cases hpy : p y <;> simp <;> omega
      · rw [h y hqy]; simp; exact this
theorem zie {listed : Array Bool} {n i : Nat} (hi : i < n) (hs : i < listed.size) (h : listed.getD i true = false) : cnt (listed.setIfInBounds i true) n < cnt listed n := by
  refine zh2 (x := i) (fun k hk => ?_) (List.mem_range.2 hi) (by rw [h]; rfl) ?_
  · by_cases e : i = k
    · subst e; rw [h]; rfl
    · rw [getD_set_ne true e] at hk; exact hk
  · simp [hs]
end
section
variable {P : Program} {Γ : List Sig} {ops : Array Oper}
theorem zm1 (hΓ : Known P Γ) {K : Kx} {nt : Nat} (hd : ∀ o ∈ ops.toList, ∀ d, o.dst = some d → d < nt) {s s' : Sx} {ps : List Pa} (hr : Runs P Γ ops ops.toList s ps s') (hf : s.free) (hb : backw 0 ops.toList = true)
    (hc : chk 0 (masks ops.toList []) (List.zipWith (logOf ops) ops.toList ps) = true) {Q : Exit → Act → World → Prop} {X0 : Cx} {w0 : World} (H0 : Heap P K X0) (hQ : ∀ a' w' X', Rep P K nt s'.t X' a' w' → X'.ob = s'.ob → Stp P K X0 w0 X' w' → Q .normal a' w') :
    ∀ (fuel : Nat) (listed : Array Bool) (X : Cx) (a : Act) (w : World), listed.size = ops.size → cnt listed ops.size ≤ fuel → Closed ops (fun k => listed.getD k false) →
      X.ob = (foldD (fun k => listed.getD k false) 0 (ops.toList.zip ps) s).ob → Rep P K nt (foldD (fun k => listed.getD k false) 0 (ops.toList.zip ps) s).t X a w → Stp P K X0 w0 X w → wpAny P .any ops Q fuel listed a w := by
  obtain ⟨hend, hfst, hat⟩ := hr.at_ hf 0
  have hlenL : (ops.toList.zip ps).length = ops.size := by
    have := congrArg List.length hfst
    simpa using this
  have hop : ∀ {i : Nat} {x : OP}, (ops.toList.zip ps)[i]? = some x → ops[i]? = some x.1 := by
    intro i x hx
    have : ((ops.toList.zip ps).map (·.1))[i]? = some x.1 := by rw [List.getElem?_map, hx]; rfl
    rw [hfst] at this
    rw [← Array.getElem?_toList]; exact this
  have hlog : ∀ {i : Nat} {x : OP}, (ops.toList.zip ps)[i]? = some x → (List.zipWith (logOf ops) ops.toList ps)[i]? = some (logOf ops x.1 x.2) := by
    intro i x hx
    rw [List.zip_eq_zipWith, List.getElem?_zipWith] at hx
    rw [List.getElem?_zipWith]
    cases h1 : ops.toList[i]? <;> cases h2 : ps[i]? <;> rw [h1, h2] at hx <;> simp at hx
    subst hx; rfl
  have hmask : ∀ {i : Nat}, i < ops.size → ∃ m, (masks ops.toList [])[i]? = some m ∧ MOk ops i m := by
    intro i hi
    have hl : i < (masks ops.toList []).length := by rw [zj2]; simpa using hi
    refine ⟨_, List.getElem?_eq_getElem hl, ?_⟩
    have := ziu (ops := ops) (l := ops.toList) (pre := []) (acc := []) (by simp) rfl (fun i m h => by simp at h) i _ (List.getElem?_eq_getElem hl)
    simpa using this
  have pair : ∀ {i k : Nat} {x y : OP}, i < k → (ops.toList.zip ps)[i]? = some x → (ops.toList.zip ps)[k]? = some y → ∀ D, Closed ops D → D i = false → (∀ e ∈ y.1.after, Region.binds .any e = true → D e.on = true) → Free ops x y := by
    intro i k x y hik hx hy D hD hi hk
    have hkn : k < ops.size := by rw [← hlenL]; exact (List.getElem?_eq_some_iff.1 hy).1
    obtain ⟨m, hm, hok⟩ := hmask hkn
    rcases zlr hc i k _ _ m hik (hlog hx) (hlog hy) hm with h | h
    · exact zsd h
    · rw [Nat.zero_add] at h
      have := hok _ (hop hy) D hD hk i h
      rw [hi] at this; cases this
  have fin : ∀ (listed : Array Bool) (X : Cx) (a : Act) (w : World), listed.size = ops.size → Region.ready .any ops listed = [] → X.ob = (foldD (fun k => listed.getD k false) 0 (ops.toList.zip ps) s).ob → Rep P K nt (foldD (fun k => listed.getD k false) 0 (ops.toList.zip ps) s).t X a w → Stp P K X0 w0 X w → Q .normal a w := by
    intro listed X a w hs hready hob R S
    have all : ∀ n i, i < n → i < ops.size → listed.getD i true = true := by
      intro n
      induction n with
      | zero => intro i h; omega
      | succ n ih =>
        intro i hin hi
        rcases Nat.lt_or_ge i n with hlt | hge
        · exact ih i hlt hi
        · have hin : i = n := by omega
          subst hin
          cases hg : listed.getD i true with
          | true => rfl
          | false =>
            have : i ∈ Region.ready .any ops listed := by
              rw [mem_ready]
              refine ⟨hg, ops[i], Array.getElem?_eq_getElem hi, fun e he hbi => ?_⟩
              have hlt := zj4 hb i ops[i] (by rw [Array.getElem?_toList]; exact Array.getElem?_eq_getElem hi) e he hbi
              rw [Nat.zero_add] at hlt
              have h1 := ih e.on hlt (by omega)
              have h2 : e.on < listed.size := by omega
              simp [h2] at h1 ⊢; exact h1
            rw [hready] at this; cases this
    have e : foldD (fun k => listed.getD k false) 0 (ops.toList.zip ps) s = s' := by
      rw [hend]
      refine zds fun k hk => ?_
      rw [hlenL] at hk
      have h1 := all (k + 1) k (by omega) hk
      rw [Nat.zero_add]
      have h2 : k < listed.size := by omega
      simp [h2] at h1 ⊢; exact h1
    rw [e] at hob R
    exact hQ a w X R hob S
  intro fuel
  induction fuel with
  | zero =>
    intro listed X a w hs hcnt hcl hob R S
    have hready : Region.ready .any ops listed = [] := by
      cases h : Region.ready .any ops listed with
      | nil => rfl
      | cons i r =>
        have hm : i ∈ Region.ready .any ops listed := by rw [h]; simp
        obtain ⟨h1, o, h2, _⟩ := mem_ready.1 hm
        have hi : i < ops.size := (Array.getElem?_eq_some_iff.1 h2).1
        have := zie hi (by omega) h1
        omega
    exact ⟨hready, fin listed X a w hs hready hob R S⟩
  | succ fuel ih =>
    intro listed X a w hs hcnt hcl hob R S
    refine ⟨fun hready => fin listed X a w hs hready hob R S, fun i him => ?_⟩
    obtain ⟨h1, o, h2, hall⟩ := mem_ready.1 him
    have hi : i < ops.size := (Array.getElem?_eq_some_iff.1 h2).1
    have hin : i < (ops.toList.zip ps).length := by rw [hlenL]; exact hi
    obtain ⟨x, hx⟩ : ∃ x, (ops.toList.zip ps)[i]? = some x := ⟨_, List.getElem?_eq_getElem hin⟩
    have hxo := hop hx
    rw [h2] at hxo; cases hxo
    have hDi : listed.getD i false = false := by
      have : i < listed.size := by omega
      simp [this] at h1 ⊢; exact h1
    obtain ⟨hdid, hnid, hfree⟩ := hat i x hx
    simp only [Nat.zero_add] at hdid hnid hfree
    have other : ∀ {k : Nat} {y : OP}, (ops.toList.zip ps)[k]? = some y → Nat.blt k i ≠ listed.getD k false → Free ops y x ∨ Free ops x y := by
      intro k y hy hne
      rcases Nat.lt_trichotomy k i with hlt | heq | hgt
      · left
        have hk : listed.getD k false = false := by
          cases hk : listed.getD k false with
          | false => rfl
          | true => rw [hk, Nat.blt_eq.mpr hlt] at hne; exact absurd rfl hne
        exact pair hlt hy hx _ hcl hk hall
      · subst heq
        rw [hDi] at hne
        cases hbb : Nat.blt k k with
        | false => rw [hbb] at hne; exact absurd rfl hne
        | true => have := Nat.blt_eq.mp hbb; omega
      · right
        have hk : listed.getD k false = true := by
          cases hk : listed.getD k false with
          | true => rfl
          | false =>
            have : Nat.blt k i = false := by
              cases hbb : Nat.blt k i with
              | false => rfl
              | true => have := Nat.blt_eq.mp hbb; omega
            rw [hk, this] at hne; exact absurd rfl hne
        exact pair hgt hx hy _ hcl hDi fun e he hbi => hcl k y.1 (hop hy) hk e he hbi
    have hdst : ∀ d, x.1.dst = some d → d < nt := hd x.1 (by rw [← hfst]; exact List.mem_map.2 ⟨x, List.mem_of_getElem? hx, rfl⟩)
    have hdid' : Did P Γ ops x.1 (foldD (fun k => listed.getD k false) 0 (ops.toList.zip ps) s).t X.ob x.2 := by
      rw [hob]
      refine hdid.congr (fun n hn => ?_) fun id hid => ?_
      · refine zl2 rfl fun k y hy hne hdy => ?_
        rw [Nat.zero_add] at hne
        rcases other hy hne with h | h
        · exact h.dt n hdy hn
        · exact h.td n hdy hn
      · refine zgi rfl fun k y hy hne hdy => ?_
        rw [Nat.zero_add] at hne
        rcases other hy hne with h | h
        · exact h.wr id hdy hid
        · exact h.rw id hdy hid
    have hdead : ∀ k, k < x.2.nn → X.ob (x.2.nid + k) = .dead := by
      intro k hk
      have hd0 : (foldD (fun k => Nat.blt k i) 0 (ops.toList.zip ps) s).ob (x.2.nid + k) = .dead := hfree _ (by rw [hnid]; omega)
      rw [hob, ← hd0]
      refine (zgi rfl fun k' y hy hne hdy => ?_).symm
      rw [Nat.zero_add] at hne
      have hnew := hdid.ws_new hk
      rcases other hy hne with h | h
      · exact h.ww _ hdy hnew
      · exact h.ww _ hnew hdy
    refine zlf hΓ h2 R hdst hdid' hdead fun a' w' X' R' hob' S' => ?_
    have hsplit : ops.toList.zip ps = (ops.toList.zip ps).take i ++ x :: (ops.toList.zip ps).drop (i + 1) := by
      obtain ⟨h, e⟩ := List.getElem?_eq_some_iff.1 hx
      rw [← e, List.getElem_cons_drop, List.take_append_drop]
    have hlen1 : ((ops.toList.zip ps).take i).length = i := by rw [List.length_take]; omega
    have hadd := zo5 (D := fun k => listed.getD k false) (a := x) (L1 := (ops.toList.zip ps).take i) (L2 := (ops.toList.zip ps).drop (i + 1)) (s := s) (by rw [hlen1]; exact hDi) (fun k y hy hk => by
      rw [hlen1] at hk
      rw [List.getElem?_drop] at hy
      have hfr := pair (show i < i + 1 + k by omega) hx hy _ hcl hDi fun e he hbi => hcl _ y.1 (hop hy) hk e he hbi
      exact ⟨hfr.dd, hfr.ww⟩)
    rw [hlen1, ← hsplit] at hadd
    have hD' : foldD (fun k => (listed.setIfInBounds i true).getD k false) 0 (ops.toList.zip ps) s = foldD (fun k => Nat.beq k i || listed.getD k false) 0 (ops.toList.zip ps) s := by
      refine zds fun k hk => ?_
      rw [Nat.zero_add]
      by_cases e : i = k
      · subst e
        have : i < listed.size := by omega
        simp [this]
      · rw [getD_set_ne false e, zbq (Ne.symm e)]; rfl
    refine ih (listed.setIfInBounds i true) X' a' w' (by simp [hs]) ?_ ?_ ?_ ?_ (S.trans H0 S')
    · have := zie hi (by omega) h1; omega
    · intro j oj hj hDj e he hbi
      by_cases e1 : i = j
      · subst e1
        rw [h2] at hj; cases hj
        exact getD_set_true (hall e he hbi)
      · have hDj : (listed.setIfInBounds i true).getD j false = true := hDj
        rw [getD_set_ne false e1] at hDj
        exact getD_set_true (hcl j oj hj hDj e he hbi)
    · rw [hD', hadd.2, hob', hob]; rfl
    · rw [hD', hadd.1]; exact R'
end
end Go.Eng
end
section
namespace Go.Eng
open Go
section
variable {P : Program} {Γ : List Sig} {K : Kx} {nt : Nat}
theorem zfy {D : Nat → Bool} : ∀ {L : List OP} {j : Nat} {s : Sx}, (∀ k, D k = false) → foldD D j L s = s
  | [], _, _, _ => rfl
  | x :: L, j, s, h => by simp only [foldD, h j]; exact zfy h
theorem zod {listed : Array Bool} {n : Nat} : cnt listed n ≤ n := by
  unfold cnt
  exact Nat.le_trans (List.length_filter_le _ _) (by simp)
theorem zic (hΓ : Known P Γ) (hm : P.follows .mixedOrders = true) {id : Nat} {ops : Array Oper} {dr : Bool} (hd : ∀ o ∈ ops.toList, ∀ d, o.dst = some d → d < nt) {σ : St} {Kc : St → Option Lv} {y : Lv} (h : region P Γ ops dr σ Kc = some y)
    {X : Cx} {a : Act} {w : World} (R : Rep P K nt σ.t X a w) (hob : X.ob = σ.o) (hf : σ.sx.free) (b : Frame) (k : List Item) (cs : List Frame) :
    ∃ σ' a' w' X', Kc σ' = some y ∧ σ'.sx.free ∧ Rep P K nt σ'.t X' a' w' ∧ X'.ob = σ'.o ∧ Stp P K X w X' w' ∧ Steps P (lone (b.at a (.code (.region id ops dr) :: k)) cs w) (lone (b.at a' k) cs w') := by
  unfold region at h
  obtain ⟨ps, σ', hr, hK⟩ := zgh h
  have hK' : Kc σ' = some y ∧ (dr = true → backw 0 ops.toList = true ∧ chk 0 (masks ops.toList []) (List.zipWith (logOf ops) ops.toList ps) = true) := by
    cases dr
    · exact ⟨hK, fun h => by cases h⟩
    · simp only [cond_true, List.append_nil, List.reverse_reverse] at hK
      cases hb : (backw 0 ops.toList && chk 0 (masks ops.toList []) (List.zipWith (logOf ops) ops.toList ps)) <;> simp only [hb, cond_false, cond_true] at hK
      · cases hK
      · simp only [Bool.and_eq_true] at hb
        exact ⟨hK, fun _ => hb⟩
  let Q : Exit → Act → World → Prop := fun e a' w' => e = .normal ∧ ∃ X', Rep P K nt σ'.t X' a' w' ∧ X'.ob = σ'.o ∧ Stp P K X w X' w'
  have hwp : (Code.region id ops dr).wp P Q a w := by
    cases dr
    · apply wp_region
      have := zko (Q := Q) hΓ hd (l := ops.toList) (pre := []) (by simp) hr hf hob R fun a' w' X' R' h1 S' => ⟨rfl, X', R', h1, S'⟩
      rw [List.range_eq_range']
      simpa using this
    · apply wp_region_any hm
      obtain ⟨h1, h2⟩ := hK'.2 rfl
      have S : Stp P K X w X { w with drawn := w.drawn + 1 } := Stp.drew R.heap R.hX rfl rfl rfl rfl
      have hn : ∀ k, (Array.replicate ops.size false).getD k false = false := by
        intro k
        rw [Array.getD_eq_getD_getElem?, Array.getElem?_replicate]
        by_cases e : k < ops.size <;> simp [e]
      refine zm1 (Q := Q) hΓ hd hr hf h1 h2 R.heap (fun a' w' X' R' h3 S' => ⟨rfl, X', R', h3, S'⟩) ops.size _ X a _ (by simp) zod ?_ ?_ ?_ S
      · intro i o _ hi
        have := (hn i).symm.trans hi; cases this
      · rw [zfy hn]; exact hob
      · rw [zfy hn]; exact ⟨S.heap, S.hX, R.tm, R.sz, R.df⟩
  obtain ⟨e, a', w', ⟨rfl, X', R', h1, S'⟩, harr⟩ := hwp b k cs
  exact ⟨σ', a', w', X', hK'.1, hr.free hf, R', h1, S', harr⟩
theorem zjh : ∀ {n j : Nat}, j < n → bd (knownUpTo n) j = some (.o j 0) := by
  intro n j h
  unfold knownUpTo
  have : ∀ (l : List Nat), j ∈ l → bd (l.map fun j => (j, Bd.o j 0)) j = some (.o j 0) := by
    intro l
    induction l with
    | nil => intro h; simp at h
    | cons x l ih =>
      intro h
      simp only [List.map_cons, bd]
      by_cases e : x = j
      · subst e; simp
      · rw [zbq e]
        exact ih ((List.mem_cons.1 h).resolve_left (Ne.symm e))
  exact this _ (List.mem_range.2 h)
theorem zjj {lk : Lk} {ids : List (Nat × Bd)} : ∀ {ps : List PO} {j : Nat}, rbOk lk ids j ps = true → ∀ i qs, ps[i]? = some (.rb qs) → ∃ id base cells, bd ids (j + i) = some (.o id base) ∧ lk id = .rb cells
  | [], j, _, i, qs, h => by simp at h
  | p :: ps, j, h, i, qs, hi => by
    cases i with
    | zero =>
      simp at hi; subst hi
      simp only [rbOk, Bool.and_eq_true] at h
      have h1 := h.1
      split at h1
      · rename_i id base hb
        split at h1
        · rename_i cells hl
          exact ⟨id, base, cells, hb, hl⟩
        · cases h1
      · cases h1
    | succ i =>
      have h2 : rbOk lk ids (j + 1) ps = true := by
        cases p <;> simp only [rbOk, Bool.and_eq_true] at h <;> first | exact h.2 | exact h
      have := zjj h2 i qs (by simpa using hi)
      rw [show j + (i + 1) = j + 1 + i by omega]; exact this
theorem Past.step {X0 X X' : Cx} {w0 w w' : World} {nb : Nat} (h : Past P K nb X0 w0 X w) (hH : Heap P K X) (S : Stp P K X w X' w') : Past P K nb X0 w0 X' w' := by
  refine ⟨S.heap, S.hX, S.os.trans h.os, S.tape.trans h.tape, S.output.trans h.output, Nat.le_trans h.sz S.sz, fun b hb hno => ?_, fun id ho => ?_, fun b hb => ?_, fun j hj => ?_, fun j cells hj hc => ?_⟩
  · refine (S.fr b (Nat.lt_of_lt_of_le hb h.sz) fun id ho he => ?_).trans (h.fr b hb hno)
    rcases h.own id ho with h1 | ⟨id0, h1, h2⟩
    · omega
    · exact hno id0 h1 (h2.trans he)
  · rcases S.own id ho with h1 | ⟨id1, h1, h2⟩
    · exact .inl (Nat.le_trans h.sz h1)
    · rcases h.own id1 h1 with h3 | ⟨id0, h3, h4⟩
      · exact .inl (h2 ▸ h3)
      · exact .inr ⟨id0, h3, h4.trans h2⟩
  · rcases S.Fnew b hb with h1 | h1 | ⟨id1, h1, h2⟩
    · exact h.Fnew b h1
    · exact .inr (.inl (Nat.le_trans h.sz h1))
    · rcases h.own id1 h1 with h3 | ⟨id0, h3, h4⟩
      · exact .inr (.inl (h2 ▸ h3))
      · exact .inr (.inr ⟨id0, h3, h4.trans h2⟩)
  · exact (h.kp j hj).trans (S.ext.keep j)
  · have hb := h.box j cells hj hc
    obtain ⟨⟨cells', h1, h2⟩, _⟩ := h.box j cells hj hc
    have := S.box j cells' h1
    rw [h2] at this
    exact hb.trans this
end
end Go.Eng
end
section
namespace Go.Eng
open Go
section
variable {P : Program} {X0 X : Cx} {w0 w : World} {nb : Nat}
theorem zka (Pa : Past P (kx X0) nb X0 w0 X w) {pat : Pat} {vals : List AV} {E : Env} (hm : mtch X.ob pat vals (knownUpTo nb) = some E) {pre : List PO} {x0 : Lv} (hst : stays nb pre pat.objs = true) (hX0 : X0.ob = obOf pre x0)
    (hrb : rbOk X.ob E.ids 0 pat.objs = true) (hrw : rwOk X.ob nb 0 pat.objs = true) : ∃ X', X'.ob = obOf pat.objs E.lv.reverse ∧ Past P (kx X0) nb X0 w0 X' w ∧ ∀ us, F2 (RV P X) vals us → F2 (RV P X') (pat.vals.map (·.inst E.lv.reverse selfIm false)) us := by
  obtain ⟨m1, m2, m3, nod, nbo, mlt⟩ := zma hm
  have H := Pa.heap
  have hlk : ∀ id, X.ob id = X.ob id ∨ X.ob id = .dead := fun _ => .inl rfl
  obtain ⟨X1, Fz⟩ := frzs H Pa.hX hlk E.bo
  let X' : Cx := ⟨fun j => match bd E.ids j, pat.objs[j]? with | some b, some q => bdLoc P X q.el b | _, _ => ⟨0, 0, 0, true⟩, X1.F, obOf pat.objs E.lv.reverse, X.h⟩
  have R : Ren P (kx X0) X w X.ob E X1 pat X' false := by
    refine ⟨H, Pa.hX, hlk, Fz, m2, fun j b hb => ⟨_, List.getElem?_eq_getElem (mlt _ (zcc hb))⟩, rfl, fun j => rfl, fun j b q hb hq => ?_, fun h => (by cases h), fun fr fr' _ h2 h3 b hb => ?_⟩
    · show (match bd E.ids j, pat.objs[j]? with | some b, some q => bdLoc P X q.el b | _, _ => _) = _
      rw [hb, hq]
    · cases fr
      · cases fr'
        · exact hb
        · exact Fz.stp.heap.Fle b hb
      · rw [h2 rfl] at hb; exact hb
  have own : ∀ {j : Nat}, Own X' j → ∃ id, Own X id ∧ (X'.β j).blk = (X.β id).blk := fun h => let ⟨_, id, _, _, a3, a4⟩ := R.own h; ⟨id, a3, a4⟩
  have H' : Heap P (kx X0) X' := by
    refine R.heap (K' := kx X0) (fun j ps id base hp hb => ?_) (.inr rfl) nod nbo (fun b hb => hb) (fun b hb => Fz.stp.heap.Fle b hb) (fun b hb => Fz.stp.heap.Ffr b hb) H.sz H.Rsz (fun j hj => ?_) (fun j hj => ?_)
    · obtain ⟨id', base', cells, h1, h2⟩ := zjj hrb j ps hp
      rw [Nat.zero_add, hb] at h1
      cases h1
      have hk := H.ok id
      unfold AOok at hk
      rw [h2] at hk
      exact hk.1
    · obtain ⟨id, a, b⟩ := own hj
      rw [b]; exact H.nR id a
    · obtain ⟨id, a, b⟩ := own hj
      rw [b]; exact H.oM id a
  have hβ : ∀ j, j < nb → X'.β j = X.β j := by
    intro j hj
    have hb := m3 j _ (zjh hj)
    obtain ⟨q, hq, _, _, h⟩ := R.at_ hb
    rw [h]; rfl
  refine ⟨X', rfl, ⟨H', Pa.hX, Pa.os, Pa.tape, Pa.output, Pa.sz, Pa.fr, fun j hj => ?_, fun b hb => ?_, fun j hj => ?_, fun j cells hj hc => ?_⟩, fun us hv => ?_⟩
  · obtain ⟨id, a, b⟩ := own hj
    rw [b]; exact Pa.own id a
  · rcases Fz.stp.Fnew b hb with h1 | h1 | ⟨id, h1, h2⟩
    · exact Pa.Fnew b h1
    · exact .inr (.inl (Nat.le_trans Pa.sz h1))
    · rcases Pa.own id h1 with h3 | ⟨id0, h3, h4⟩
      · exact .inr (.inl (h2 ▸ h3))
      · exact .inr (.inr ⟨id0, h3, h4.trans h2⟩)
  · have hk := Pa.kp j hj
    have hob' : ∀ q, pat.objs[j]? = some q → X'.ob j = q.inst E.lv.reverse selfIm false := fun q hq => by show obOf _ _ j = _; unfold obOf; rw [hq]
    have hob0 : ∀ q, pre[j]? = some q → X0.ob j = q.inst x0 selfIm false := fun q hq => by rw [hX0]; unfold obOf; rw [hq]
    unfold Keeps at hk ⊢
    rw [hβ j hj]
    rcases zc5 hst j hj with ⟨as, bs, h1, h2, _⟩ | ⟨kt, vt, a, c, h1, h2⟩ | ⟨e, fr, a, fr2, c, h1, h2⟩
    · rw [hob0 _ h1] at hk ⊢
      rw [hob' _ h2]
      exact ⟨⟨_, rfl⟩, hk.2⟩
    · rw [hob0 _ h1] at hk ⊢
      rw [hob' _ h2]
      exact ⟨⟨_, _, _, rfl⟩, hk.2⟩
    · obtain ⟨e1, fr1, xs1, hz⟩ := zj0 hrw j e fr2 c hj h2
      rw [Nat.zero_add] at hz
      obtain ⟨b, hb, hm⟩ := R.m j _ h2
      have hbj := m3 j _ (zjh hj)
      rw [hb] at hbj
      cases hbj
      rcases hm with ⟨id, fr', xs, ser, hbe, k5, _, _, k8⟩ | ⟨id, lo, hi, fr', xs, ser, hbe, _⟩ | ⟨hbe, _⟩ <;> cases hbe
      rw [hob0 _ h1] at hk ⊢
      rw [hob' _ h2]
      simp only [PO.inst, Bool.or_false] at hk ⊢
      rw [hz] at k5
      cases k5
      rw [hz] at hk
      rw [g_of k8]
      rcases hk with hc | ⟨⟨fr', xs', hc | hc, hl⟩, hb⟩ | ⟨e', fr', xs', ser', hc | hc, hl⟩
      · cases hc
      · cases hc
        exact .inr (.inl ⟨⟨_, _, .inl rfl, hl⟩, hb⟩)
      · cases hc
      · cases hc; omega
      · cases hc
  · rcases zc5 hst j hj with ⟨as, bs, h1, h2, h3⟩ | ⟨kt, vt, a, c, h1, h2⟩ | ⟨e, fr, a, fr2, c, h1, h2⟩
    · obtain ⟨_, k2, k3⟩ := Pa.box j cells hj hc
      rw [hX0] at hc
      unfold obOf at hc
      rw [h1] at hc
      cases hc
      refine ⟨⟨_, by show obOf _ _ j = _; unfold obOf; rw [h2]; rfl, ?_⟩, (hβ j hj).trans k2, k3⟩
      simp [h3]
    · rw [hX0] at hc
      unfold obOf at hc
      rw [h1] at hc
      cases hc
    · rw [hX0] at hc
      unfold obOf at hc
      rw [h1] at hc
      cases hc
  · have key : ∀ {ps : List PV} {xs : List AV}, F2 (MetV X.ob E) ps xs → ∀ {us : List Value}, F2 (RV P X) xs us → F2 (RV P X') (ps.map (·.inst E.lv.reverse selfIm false)) us := by
      intro ps xs hf
      induction hf with
      | nil => intro us h; cases h; exact .nil
      | cons h1 _ ih => intro us h; cases h with | cons a b => exact .cons (R.RV (fun h => by cases h) h1 a) (ih b)
    exact key m1 hv
theorem zrs {K : Kx} (H : Heap P K X) (hX : X.h = w.heap) {t : TypeId} {id off : Nat} {v : Value} (hv : RS P X (.pt id off) v) {r : AR} (h : aload P X.ob t (.sc (.pt id off)) = some r) :
    ∃ u, (do loadVar t (← asAddr v)).run P w = .ok u w ∧ RV P X r.v u := by
  unfold aload at h
  split at h
  · rename_i d _ id' off' hu he
    cases he
    have hv := (show RefBx X id _ from hv).get
    subst hv
    have key : ∀ cells, (X.ob id = .bx cells ∨ X.ob id = .rb cells) → (match isAg P t with
      | true => cond (Nat.ble (off + esz P t) cells.length) (AR.pure (.ag ((cells.drop off).take (esz P t)))) none
      | false => (match cells[off]? with | some x => sc x | none => none)) = some r → ∃ u, (do loadVar t (← asAddr (.pointer (some ((X.β id).ptr off))))).run P w = .ok u w ∧ RV P X r.v u := by
      intro cells ho h
      obtain ⟨cs, ty, fz, h1, h2⟩ := zfe H ho
      have hc := h1
      rw [hX] at hc
      have L := zhe (P := P) (off := (X.β id).off + off) hu hc
      split at h
      · rename_i hag
        cases hb : Nat.ble (off + esz P t) cells.length <;> simp [hb, AR.pure] at h
        subst h
        obtain ⟨vs, a1, a2, a3⟩ := zgm h2 (esz P t) off (Nat.le_of_ble_eq_true hb)
        refine ⟨_, ?_, ⟨_, rfl, a3⟩⟩
        simp only [asAddr, Sem.run_bind, Sem.run_pure, Result.andThen_ok]
        exact L.1 hag vs a1 a2
      · rename_i hag
        split at h
        · rename_i x hx
          simp [sc] at h
          subst h
          obtain ⟨v, a1, a2⟩ := h2 off x hx
          refine ⟨_, ?_, a2⟩
          simp only [asAddr, Sem.run_bind, Sem.run_pure, Result.andThen_ok]
          exact L.2 hag v a1
        · cases h
    split at h
    · rename_i cells hl; exact key cells (.inl hl) h
    · rename_i cells hl; exact key cells (.inr hl) h
    · cases h
  · rename_i he; cases he
  · rename_i he; cases he
  · cases h
theorem zpx {α β : Type} {f : α → Sem β} {rs : List α} {vs : List β} (h : F2 (fun r v => (f r).run P w = .ok v w) rs vs) : (rs.mapM f).run P w = .ok vs w := by
  induction h with
  | nil => rfl
  | cons h1 _ ih => simp only [List.mapM_cons, Sem.run_bind, h1, Result.andThen_ok, ih, Sem.run_pure]
theorem zg4 {α β : Type} {f : α → Option β} : ∀ {l : List α} {r : List β}, l.mapM f = some r → F2 (fun a b => f a = some b) l r
  | [], r, h => by simp at h; subst h; exact .nil
  | a :: l, r, h => by
    simp only [List.mapM_cons, Option.bind_eq_bind, Option.bind_eq_some_iff] at h
    obtain ⟨b, h1, bs, h2, h3⟩ := h
    cases h3
    exact .cons h1 (zg4 h2)
theorem F2.ex {α β γ : Type} {R : α → β → Prop} {S : α → γ → Prop} {T : β → γ → Prop} (h : ∀ a b, R a b → ∃ c, S a c ∧ T b c) {xs : List α} {ys : List β} (hf : F2 R xs ys) : ∃ zs, F2 S xs zs ∧ F2 T ys zs := by
  induction hf with
  | nil => exact ⟨[], .nil, .nil⟩
  | cons h1 _ ih =>
    obtain ⟨c, a, b⟩ := h _ _ h1
    obtain ⟨zs, p, q⟩ := ih
    exact ⟨c :: zs, .cons a p, .cons b q⟩
theorem zjy {K : Kx} {nt : Nat} {σ : St} {a : Act} (R : Rep P K nt σ.t X a w) (hob : X.ob = σ.o) {r : ResultVar} {v : AV} (h : resultOf P σ r = some v) :
    ∃ u, (match r with | .tmp t => pure (a.tmps.getD t undef) | .cell c t => do loadVar t (← asAddr (a.tmps.getD c undef)) : Sem Value).run P w = .ok u w ∧ RV P X v u := by
  cases r with
  | tmp t => simp only [resultOf] at h; cases h; exact ⟨_, rfl, R.tm t⟩
  | cell c t =>
    simp only [resultOf] at h
    split at h
    · rename_i id off hc
      cases hl : aload P σ.o t (.sc (.pt id off)) with
      | none => rw [hl] at h; cases h
      | some r =>
        rw [hl] at h
        cases h
        have hv := R.tm c
        rw [hc] at hv
        rw [← hob] at hl
        exact zrs R.heap R.hX hv hl
    · cases h
theorem zre {K : Kx} {nt : Nat} {σ : St} {a : Act} {fn : Func} (R : Rep P K nt σ.t X a w) (hob : X.ob = σ.o) {v : AV} (h : resultsOf P fn σ = some v) : ∃ u, (results fn a.tmps).run P w = .ok u w ∧ RV P X v u := by
  have run : ∀ {vs : List Value}, F2 (fun r u => (match r with | .tmp t => pure (a.tmps.getD t undef) | .cell c t => do loadVar t (← asAddr (a.tmps.getD c undef)) : Sem Value).run P w = .ok u w) fn.results.toList vs →
      (results fn a.tmps).run P w = .ok (if h : vs.toArray.size = 1 then vs.toArray[0] else .tuple vs.toArray) w := by
    intro vs hf
    have := zpx hf
    simp only [results, Array.mapM_eq_mapM_toList, Sem.run_bind, map_eq_pure_bind, Sem.run_pure, Result.andThen_ok] at this ⊢
    erw [this]
    rfl
  unfold resultsOf at h
  split at h
  · rename_i r hr
    obtain ⟨u, h1, h2⟩ := zjy R hob h
    refine ⟨u, ?_, h2⟩
    have := run (vs := [u]) (by rw [hr]; exact .cons h1 .nil)
    rw [this]; rfl
  · rename_i rs hne
    split at h
    · cases h
    · rename_i vs hvs
      split at h
      · cases h
      · rename_i ts hts
        cases h
        obtain ⟨us, h1, h2⟩ := F2.ex (fun r v h => zjy R hob h) (zg4 hvs)
        have h3 := run h1
        have hl : us.toArray.size ≠ 1 := by
          have := h1.length
          intro e
          simp at e
          rw [e] at this
          match hx : fn.results.toList, this with
          | [r], _ => exact hne r hx
        rw [dif_neg hl] at h3
        refine ⟨_, h3, us.toArray, rfl, ?_⟩
        have key : ∀ {vs : List AV} {ts : List (Bool × List AS)}, F2 (fun a b => tupled a = some b) vs ts → ∀ {us : List Value}, F2 (RV P X) vs us → F2 (RT P X) ts us := by
          intro vs ts hf
          induction hf with
          | nil => intro us h; cases h; exact .nil
          | cons h1 _ ih =>
            intro us h
            cases h with
            | cons a b =>
              refine .cons ?_ (ih b)
              rename_i x y _ _ _ _ _
              cases x with
              | sc x => simp only [tupled] at h1; cases h1; exact .cons a .nil
              | ag xs => simp only [tupled] at h1; cases h1; exact a
              | tu _ => cases h1
        exact key (zg4 hts) h2
end
end Go.Eng
end
section
namespace Go.Eng
open Go
abbrev Where := Nat → Option (Array Oper × Bool × List Item)
def FitsC (F : Where) : Code → List Item → Prop
  | .region id ops dr, k => F id = some (ops, dr, k)
  | .seq a b, k => FitsC F a (.code b :: k) ∧ FitsC F b k
  | .cond _ x y, k => FitsC F x k ∧ FitsC F y k
  | .block i c, k => FitsC F c (.inBlock i :: k)
  | .loop c, k => FitsC F c (.inLoop c :: k)
  | _, _ => True
def Fits (F : Where) : List Item → Prop
  | [] => True
  | .code c :: k => FitsC F c k ∧ Fits F k
  | .inLoop c :: k => FitsC F c (.inLoop c :: k) ∧ Fits F k
  | _ :: k => Fits F k
theorem zci : ∀ {c : Code} {id : Nat} {k : List Item} {r : Array Oper × Bool × List Item}, findR id c k = some r → id ∈ regs c
  | .region id' ops dr, id, k, r, h => by
    simp only [findR] at h
    cases hb : Nat.beq id' id <;> simp [hb] at h
    simp [regs, zg hb]
  | .seq a b, id, k, r, h => by
    simp only [findR] at h
    split at h
    · rename_i r' h'; exact List.mem_append_left _ (zci h')
    · exact List.mem_append_right _ (zci h)
  | .cond _ x y, id, k, r, h => by
    simp only [findR] at h
    split at h
    · rename_i r' h'; exact List.mem_append_left _ (zci h')
    · exact List.mem_append_right _ (zci h)
  | .block _ c, id, k, r, h => by simp only [findR] at h; exact zci (c := c) h
  | .loop c, id, k, r, h => by simp only [findR] at h; exact zci (c := c) h
  | .skip, _, _, _, h => by simp [findR] at h
  | .exit _, _, _, _, h => by simp [findR] at h
  | .goto _, _, _, _, h => by simp [findR] at h
  | .label _, _, _, _, h => by simp [findR] at h
  | .ret, _, _, _, h => by simp [findR] at h
  | .scope _, _, _, _, h => by simp [findR] at h
  | .rangeFunc .., _, _, _, h => by simp [findR] at h
  | .refuse _, _, _, _, h => by simp [findR] at h
theorem zcv : ∀ {c : Code} {id : Nat} {k : List Item}, id ∈ regs c → ∃ r, findR id c k = some r
  | .region id' ops dr, id, k, h => by
    simp [regs] at h; subst h
    exact ⟨_, by simp [findR]; rfl⟩
  | .seq a b, id, k, h => by
    simp only [findR]
    cases ha : findR id a (.code b :: k) with
    | some r => exact ⟨r, rfl⟩
    | none =>
      rcases List.mem_append.1 h with h | h
      · obtain ⟨r, hr⟩ := zcv (k := .code b :: k) h; rw [ha] at hr; cases hr
      · exact zcv h
  | .cond _ x y, id, k, h => by
    simp only [findR]
    cases ha : findR id x k with
    | some r => exact ⟨r, rfl⟩
    | none =>
      rcases List.mem_append.1 h with h | h
      · obtain ⟨r, hr⟩ := zcv (k := k) h; rw [ha] at hr; cases hr
      · exact zcv h
  | .block _ c, id, k, h => by simp only [findR]; exact zcv (c := c) h
  | .loop c, id, k, h => by simp only [findR]; exact zcv (c := c) h
  | .skip, _, _, h => by simp [regs] at h
  | .exit _, _, _, h => by simp [regs] at h
  | .goto _, _, _, h => by simp [regs] at h
  | .label _, _, _, h => by simp [regs] at h
  | .ret, _, _, h => by simp [regs] at h
  | .scope _, _, _, h => by simp [regs] at h
  | .rangeFunc .., _, _, h => by simp [regs] at h
  | .refuse _, _, _, h => by simp [regs] at h
theorem zdb {F : Where} : ∀ {c : Code} {k : List Item}, (regs c).Nodup → (∀ id ∈ regs c, F id = findR id c k) → FitsC F c k
  | .region id' ops dr, k, hn, h => by
    have := h id' (by simp [regs])
    simp only [findR, Nat.beq_refl, cond_true] at this
    exact this
  | .seq a b, k, hn, h => by
    simp only [regs, List.nodup_append] at hn
    refine ⟨zdb hn.1 fun id hi => ?_, zdb hn.2.1 fun id hi => ?_⟩
    · rw [h id (List.mem_append_left _ hi)]
      simp only [findR]
      obtain ⟨r, hr⟩ := zcv (k := .code b :: k) hi
      rw [hr]
    · rw [h id (List.mem_append_right _ hi)]
      simp only [findR]
      cases hr : findR id a (.code b :: k) with
      | some r => exact absurd rfl (hn.2.2 id (zci hr) id hi)
      | none => rfl
  | .cond _ x y, k, hn, h => by
    simp only [regs, List.nodup_append] at hn
    refine ⟨zdb hn.1 fun id hi => ?_, zdb hn.2.1 fun id hi => ?_⟩
    · rw [h id (List.mem_append_left _ hi)]
      simp only [findR]
      obtain ⟨r, hr⟩ := zcv (k := k) hi
      rw [hr]
    · rw [h id (List.mem_append_right _ hi)]
      simp only [findR]
      cases hr : findR id x k with
      | some r => exact absurd rfl (hn.2.2 id (zci hr) id hi)
      | none => rfl
  | .block i c, k, hn, h => zdb (c := c) hn fun id hi => by rw [h id hi]; rfl
  | .loop c, k, hn, h => zdb (c := c) hn fun id hi => by rw [h id hi]; rfl
  | .skip, _, _, _ => trivial
  | .exit _, _, _, _ => trivial
  | .goto _, _, _, _ => trivial
  | .label _, _, _, _ => trivial
  | .ret, _, _, _ => trivial
  | .scope _, _, _, _ => trivial
  | .rangeFunc .., _, _, _ => trivial
  | .refuse _, _, _, _ => trivial
theorem zcx {F : Where} : ∀ {c : Code} {k0 : List Item} {id : Nat} {ops : Array Oper} {dr : Bool} {k : List Item}, findR id c k0 = some (ops, dr, k) → FitsC F c k0 → Fits F k0 → Fits F k
  | .region id' ops dr, k0, id, _, _, k, h, _, hk => by
    simp only [findR] at h
    cases hb : Nat.beq id' id <;> simp [hb] at h
    obtain ⟨_, _, rfl⟩ := h; exact hk
  | .seq a b, k0, id, _, _, k, h, hf, hk => by
    simp only [findR] at h
    split at h
    · rename_i r' h'; cases h; exact zcx h' hf.1 ⟨hf.2, hk⟩
    · exact zcx h hf.2 hk
  | .cond _ x y, k0, id, _, _, k, h, hf, hk => by
    simp only [findR] at h
    split at h
    · rename_i r' h'; cases h; exact zcx h' hf.1 hk
    · exact zcx h hf.2 hk
  | .block _ c, k0, id, _, _, k, h, hf, hk => by simp only [findR] at h; exact zcx (c := c) h hf hk
  | .loop c, k0, id, _, _, k, h, hf, hk => by simp only [findR] at h; exact zcx (c := c) h hf ⟨hf, hk⟩
  | .skip, _, _, _, _, _, h, _, _ => by simp [findR] at h
  | .exit _, _, _, _, _, _, h, _, _ => by simp [findR] at h
  | .goto _, _, _, _, _, _, h, _, _ => by simp [findR] at h
  | .label _, _, _, _, _, _, h, _, _ => by simp [findR] at h
  | .ret, _, _, _, _, _, h, _, _ => by simp [findR] at h
  | .scope _, _, _, _, _, _, h, _, _ => by simp [findR] at h
  | .rangeFunc .., _, _, _, _, _, h, _, _ => by simp [findR] at h
  | .refuse _, _, _, _, _, _, h, _, _ => by simp [findR] at h
theorem zck {n : Nat} : ∀ {c : Code} {k0 : List Item} {id : Nat} {ops : Array Oper} {dr : Bool} {k : List Item}, findR id c k0 = some (ops, dr, k) → dsts n c = true → ∀ o ∈ ops.toList, ∀ d, o.dst = some d → d < n
  | .region id' ops dr, k0, id, _, _, k, h, hd => by
    simp only [findR] at h
    cases hb : Nat.beq id' id <;> simp [hb] at h
    obtain ⟨rfl, _, _⟩ := h
    intro o ho d hod
    simp only [dsts, List.all_eq_true] at hd
    have := hd o ho
    rw [hod] at this
    exact Nat.le_of_ble_eq_true this
  | .seq a b, k0, id, _, _, k, h, hd => by
    simp only [findR] at h
    simp only [dsts, Bool.and_eq_true] at hd
    split at h
    · rename_i r' h'; cases h; exact zck h' hd.1
    · exact zck h hd.2
  | .cond _ x y, k0, id, _, _, k, h, hd => by
    simp only [findR] at h
    simp only [dsts, Bool.and_eq_true] at hd
    split at h
    · rename_i r' h'; cases h; exact zck h' hd.1
    · exact zck h hd.2
  | .block _ c, k0, id, _, _, k, h, hd => by simp only [findR] at h; exact zck (c := c) h hd
  | .loop c, k0, id, _, _, k, h, hd => by simp only [findR] at h; exact zck (c := c) h hd
  | .skip, _, _, _, _, _, h, _ => by simp [findR] at h
  | .exit _, _, _, _, _, _, h, _ => by simp [findR] at h
  | .goto _, _, _, _, _, _, h, _ => by simp [findR] at h
  | .label _, _, _, _, _, _, h, _ => by simp [findR] at h
  | .ret, _, _, _, _, _, h, _ => by simp [findR] at h
  | .scope _, _, _, _, _, _, h, _ => by simp [findR] at h
  | .rangeFunc .., _, _, _, _, _, h, _ => by simp [findR] at h
  | .refuse _, _, _, _, _, _, h, _ => by simp [findR] at h
theorem zbz {F : Where} {id : Nat} : ∀ {k k' : List Item}, exitTo id k = some k' → Fits F k → Fits F k'
  | [], _, h, _ => by simp [exitTo] at h
  | .inBlock i :: k, k', h, hf => by
    simp only [exitTo] at h
    split at h
    · cases h; exact hf
    · exact zbz (k := k) h hf
  | .code c :: k, k', h, hf => zbz (k := k) (by simpa [exitTo] using h) hf.2
  | .inLoop c :: k, k', h, hf => zbz (k := k) (by simpa [exitTo] using h) hf.2
  | .inScope c :: k, k', h, hf => zbz (k := k) (by simpa [exitTo] using h) hf
  | .inRegion _ _ :: k, k', h, hf => zbz (k := k) (by simpa [exitTo] using h) hf
  | .inRangeFunc _ :: k, k', h, hf => zbz (k := k) (by simpa [exitTo] using h) hf
  | .endRangeFunc _ :: k, k', h, hf => zbz (k := k) (by simpa [exitTo] using h) hf
  | .beginRound :: k, k', h, hf => zbz (k := k) (by simpa [exitTo] using h) hf
  | .call .. :: k, k', h, hf => zbz (k := k) (by simpa [exitTo] using h) hf
  | .extern .. :: k, k', h, hf => zbz (k := k) (by simpa [exitTo] using h) hf
end Go.Eng
end
section
namespace Go.Eng
open Go
def Ends (P : Program) (d : FD) (fn : Func) (X0 : Cx) (w0 : World) (y : Lv) (b : Frame) (cs : List Frame) (m : Machine) : Prop :=
  ∃ todo a' w' v X' p, Steps P m (lone { b.at a' todo with mode := .returning } cs w') ∧ a'.defers = [] ∧ (results fn a'.tmps).run P w' = .ok v w' ∧ d.post.vals = [p] ∧
    X'.ob = obOf d.post.objs y ∧ RV P X' (p.inst y selfIm false) v ∧ Past P (kx X0) d.nb X0 w0 X' w'
section
variable {P : Program} {Γ : List Sig} {d : FD} {fn : Func} {X0 : Cx} {w0 : World} {x0 y : Lv} {b : Frame} {cs : List Frame}
theorem Ends.of_steps {m m' : Machine} (h : Steps P m m') (h' : Ends P d fn X0 w0 y b cs m') : Ends P d fn X0 w0 y b cs m := by
  obtain ⟨todo, a', w', v, X', p, h1, rest⟩ := h'
  exact ⟨todo, a', w', v, X', p, h.trans h1, rest⟩
theorem zgb {α : Type} {dv : α} : ∀ {l : List α} {j n : Nat}, look dv (numbered j l) (j + n) = (l[n]?).getD dv
  | [], j, n => rfl
  | x :: l, j, n => by
    simp only [numbered, look]
    cases n with
    | zero => simp
    | succ n =>
      rw [zbq (by omega), show j + (n + 1) = j + 1 + n by omega]
      simp only [cond_false]
      rw [zgb]; simp
theorem zhv (ps : List PO) (lv : Lv) : (look .dead (numbered 0 (ps.map (·.inst lv selfIm false))) : Nat → AO) = obOf ps lv := by
  funext j
  have := zgb (dv := AO.dead) (l := ps.map (·.inst lv selfIm false)) (j := 0) (n := j)
  rw [Nat.zero_add] at this
  rw [this]
  unfold obOf
  rw [List.getElem?_map]
  cases ps[j]? <;> rfl
theorem Cut.start_o (c : Cut) (lv : Lv) : (c.start lv).o = obOf c.pat.objs lv := zhv _ _
theorem FD.start_o (d : FD) (lv : Lv) : (d.start lv).o = obOf d.pre.objs lv := zhv _ _
theorem zht {ps : List PO} {lv : Lv} {k : Nat} (h : ps.length ≤ k) : obOf ps lv k = .dead := by
  unfold obOf; rw [List.getElem?_eq_none h]
theorem Cut.start_free (c : Cut) (lv : Lv) : (c.start lv).sx.free := fun k hk => by
  show (c.start lv).o k = .dead
  rw [Cut.start_o]; exact zht hk
theorem FD.start_free (d : FD) (lv : Lv) : (d.start lv).sx.free := fun k hk => by
  show (d.start lv).o k = .dead
  rw [FD.start_o]; exact zht hk
theorem zki {X : Cx} {f : Nat → Value} : ∀ {slots : List Nat} {vs : List AV}, F2 (RV P X) vs (slots.map f) → ∀ n, RV P X (look (.sc .un) (slots.zip vs) n) (f n)
  | [], vs, h, n => by simp only [List.zip_nil_left, look]; trivial
  | s :: slots, _, .cons (x := v) h1 h2, n => by
    simp only [List.zip_cons_cons, look]
    by_cases e : s = n
    · subst e; simpa using h1
    · rw [zbq e]; exact zki h2 n
theorem zr6 {X : Cx} {vs : List AV} {us : List Value} (h : F2 (RV P X) vs us) (m n : Nat) : RV P X ((vs[n]?).getD (.sc .ud)) ((us.toArray ++ Array.replicate m undef).getD n undef) := by
  rw [Array.getD_eq_getD_getElem?, Array.getElem?_append]
  by_cases hn : n < us.length
  · have hv : n < vs.length := by rw [h.length]; exact hn
    obtain ⟨u, h1, h2⟩ := h.get (List.getElem?_eq_getElem hv)
    rw [List.getElem?_eq_getElem hv, if_pos (by simpa using hn)]
    simp only [List.getElem?_toArray, h1, Option.getD_some]
    exact h2
  · have hv : ¬ n < vs.length := by rw [h.length]; exact hn
    rw [List.getElem?_eq_none (by omega), if_neg (by simpa using hn), Array.getElem?_replicate]
    simp only [Option.getD_none]
    split <;> rfl
structure Ctx (P : Program) (Γ : List Sig) (d : FD) (fn : Func) (X0 : Cx) (x0 : Lv) (body : Code) : Prop where
  known : Known P Γ
  mixed : P.follows .mixedOrders = true
  post : stays d.nb d.pre.objs d.post.objs = true
  cuts : ∀ c ∈ d.cuts, stays d.nb d.pre.objs c.pat.objs = true
  X0ob : X0.ob = obOf d.pre.objs x0
  dst : dsts fn.ntmps body = true
  one : d.post.vals.length = 1
theorem zkl {id : Nat} {c : Cut} : ∀ {l : List Cut}, cutOf id l = some c → c ∈ l
  | [], h => by simp [cutOf] at h
  | x :: l, h => by
    simp only [cutOf] at h
    cases hb : Nat.beq x.id id <;> simp [hb] at h
    · exact List.mem_cons_of_mem _ (zkl h)
    · subst h; simp
theorem zi3 {body : Code} (C : Ctx P Γ d fn X0 x0 body) {σ : St} (h : d.fin P fn σ = some y) {X : Cx} {a : Act} {w : World} (R : Rep P (kx X0) fn.ntmps σ.t X a w) (hob : X.ob = σ.o) (Pa : Past P (kx X0) d.nb X0 w0 X w) {m : Machine} {todo : List Item}
    (hs : Steps P m (lone { b.at a todo with mode := .returning } cs w)) : Ends P d fn X0 w0 y b cs m := by
  unfold FD.fin at h
  split at h
  · cases h
  · rename_i v hv
    split at h
    · cases h
    · rename_i E hm
      cases hrb : (rbOk σ.o E.ids 0 d.post.objs && rwOk σ.o d.nb 0 d.post.objs) <;> rw [hrb] at h
      · cases h
      rw [cond_true] at h
      cases h
      rw [Bool.and_eq_true] at hrb
      obtain ⟨u, h1, h2⟩ := zre R hob hv
      rw [← hob] at hm hrb
      obtain ⟨X', k1, k2, k3⟩ := zka Pa hm C.post C.X0ob hrb.1 hrb.2
      have hone := C.one
      match hp : d.post.vals, hone with
      | [p], _ =>
        have := k3 [u] (.cons h2 .nil)
        rw [hp] at this
        cases this with
        | cons hx _ => exact ⟨todo, a, w, u, X', p, hs, R.df, h1, hp, k1, hx, k2⟩
def AOk (P : Program) (d : FD) (fn : Func) (X0 : Cx) (w0 : World) (y : Lv) (b : Frame) (cs : List Frame) (body : Code) (A : Nat → Lv → Option Lv) : Prop :=
  ∀ (id : Nat) (lv : Lv) (c : Cut) (ops : Array Oper) (dr : Bool) (k : List Item), cutOf id d.cuts = some c → findR id body [] = some (ops, dr, k) → A id lv = some y → ∀ (a : Act) (w : World) (X : Cx), Rep P (kx X0) fn.ntmps (c.start lv).t X a w → X.ob = (c.start lv).o →
    Past P (kx X0) d.nb X0 w0 X w → Ends P d fn X0 w0 y b cs (lone (b.at a (.code (.region id ops dr) :: k)) cs w)
theorem zbm {body : Code} (C : Ctx P Γ d fn X0 x0 body) {A : Nat → Lv → Option Lv} (hA : AOk P d fn X0 w0 y b cs body A) : ∀ (n : Nat) {k : List Item} {σ : St} {X : Cx} {a : Act} {w : World}, run P Γ d fn A n k σ = some y → Fits (fun id => findR id body []) k →
    Rep P (kx X0) fn.ntmps σ.t X a w → X.ob = σ.o → σ.sx.free → Past P (kx X0) d.nb X0 w0 X w → Ends P d fn X0 w0 y b cs (lone (b.at a k) cs w)
  | 0, k, σ, X, a, w, h, _, _, _, _, _ => by simp [run] at h
  | n + 1, [], σ, X, a, w, h, hf, R, hob, hfr, Pa => by
    simp only [run] at h
    exact zi3 C h R hob Pa (.one step_end)
  | n + 1, it :: k, σ, X, a, w, h, hf, R, hob, hfr, Pa => by
    cases it with
    | code c =>
      cases c with
      | skip => simp only [run] at h; exact (zbm C hA n h hf.2 R hob hfr Pa).of_steps (.one step_skip)
      | label l => simp only [run] at h; exact (zbm C hA n h hf.2 R hob hfr Pa).of_steps (.one step_label)
      | seq x z => simp only [run] at h; exact (zbm C hA n h ⟨hf.1.1, hf.1.2, hf.2⟩ R hob hfr Pa).of_steps (.one step_seq)
      | cond c x z =>
        simp only [run] at h
        split at h
        · rename_i t ht
          have hc : a.eval c = .bool t := by
            have := zew R.tm c
            rw [ht] at this; exact this
          cases t
          · exact (zbm C hA n h ⟨hf.1.2, hf.2⟩ R hob hfr Pa).of_steps (.one (step_cond hc))
          · exact (zbm C hA n h ⟨hf.1.1, hf.2⟩ R hob hfr Pa).of_steps (.one (step_cond hc))
        · cases h
      | block i c => simp only [run] at h; exact (zbm C hA n h ⟨hf.1, hf.2⟩ R hob hfr Pa).of_steps (.one step_block)
      | loop c => simp only [run] at h; exact (zbm C hA n h ⟨hf.1, hf.1, hf.2⟩ R hob hfr Pa).of_steps (.one step_loop)
      | exit i =>
        simp only [run] at h
        split at h
        · rename_i k' hk
          exact (zbm C hA n h (zbz hk hf.2) R hob hfr Pa).of_steps (.one (step_exit hk))
        · cases h
      | ret => simp only [run] at h; exact zi3 C h R hob Pa (.one step_ret)
      | region id ops dr =>
        simp only [run] at h
        have hF : findR id body [] = some (ops, dr, k) := hf.1
        split at h
        · rename_i c hc
          split at h
          · rename_i E hm
            cases hrb : (rbOk σ.o E.ids 0 c.pat.objs && rwOk σ.o d.nb 0 c.pat.objs) <;> rw [hrb] at h
            · cases h
            rw [cond_true] at h
            rw [Bool.and_eq_true] at hrb
            rw [← hob] at hm hrb
            obtain ⟨X', k1, k2, k3⟩ := zka Pa hm (C.cuts c (zkl hc)) C.X0ob hrb.1 hrb.2
            have hv := k3 (c.slots.map fun n => a.tmps.getD n undef) (F2.map_l (fun n => R.tm n) _)
            exact hA id _ c ops dr k hc hF h a w X' ⟨k2.heap, k2.hX, zki hv, R.sz, R.df⟩ (by rw [k1, Cut.start_o]) k2
          · cases h
        · obtain ⟨σ', a', w', X', h1, h2, h3, h4, h5, h6⟩ := zic C.known C.mixed (id := id) (zck hF C.dst) h R hob hfr b k cs
          exact (zbm C hA n h1 hf.2 h3 h4 h2 (Pa.step R.heap h5)).of_steps h6
      | _ => simp [run] at h
    | inBlock i => simp only [run] at h; exact (zbm C hA n h hf R hob hfr Pa).of_steps (.one step_inBlock)
    | inLoop c => simp only [run] at h; exact (zbm C hA n h ⟨hf.1, hf⟩ R hob hfr Pa).of_steps (.one step_inLoop)
    | _ => simp [run] at h
theorem J_ok {body : Code} (C : Ctx P Γ d fn X0 x0 body) (hbody : fn.body = some body) (hfit : Fits (fun id => findR id body []) [.code body]) : ∀ n, AOk P d fn X0 w0 y b cs body (fun id lv => J P Γ d fn n (some id) lv)
  | 0 => fun id lv c ops dr k _ _ h => by simp [J] at h
  | n + 1 => fun id lv c ops dr k hc hF h a w X R hob Pa => by
    simp only [J, seg, hbody, hc, hF] at h
    obtain ⟨σ', a', w', X', h1, h2, h3, h4, h5, h6⟩ := zic C.known C.mixed (id := id) (zck hF C.dst) h R hob (Cut.start_free c lv) b k cs
    exact (zbm C (J_ok C hbody hfit n) fuel h1 (zcx hF hfit.1 hfit.2) h3 h4 h2 (Pa.step R.heap h5)).of_steps h6
theorem sound (hΓ : Known P Γ) (hm : P.follows .mixedOrders = true) (hfn : P.funcs[d.fn]? = some fn) (hok : d.ok fn = true) {f : Lv → Option Lv} (hf : ∀ x y, f x = some y → ∃ n, J P Γ d fn n none x = some y) : SigOk P (d.sig f) ∧ (d.sig f).ok = true := by
  have hok' : (d.sig f).ok = true ∧ (∀ c ∈ d.cuts, stays d.nb d.pre.objs c.pat.objs = true) ∧ d.pre.vals.length ≤ fn.ntmps ∧ ∃ body, fn.body = some body ∧ nodup (regs body) = true ∧ dsts fn.ntmps body = true := by
    simp only [FD.ok, Bool.and_eq_true, List.all_eq_true] at hok
    obtain ⟨h1, h2, h3, h4⟩ := hok
    refine ⟨h1, h2, Nat.le_of_ble_eq_true h3, ?_⟩
    cases hb : fn.body with
    | none => rw [hb] at h4; cases h4
    | some body => rw [hb] at h4; simp only [Bool.and_eq_true] at h4; exact ⟨body, rfl, h4⟩
  obtain ⟨hs, hcuts, hlen, body, hbody, hnd, hdst⟩ := hok'
  refine ⟨?_, hs⟩
  have hs' := hs
  simp only [Sig.ok, FD.sig, Bool.and_eq_true, List.all_eq_true] at hs'
  obtain ⟨_, s2, _, _, s5, _⟩ := hs'
  intro w args x y X0 hX0 hob hno H hargs hy cs
  obtain ⟨n, hJ⟩ := hf x y hy
  have C : Ctx P Γ d fn X0 x body := ⟨hΓ, hm, s2, hcuts, hob, hdst, zg s5⟩
  have hfit : Fits (fun id => findR id body []) [.code body] := ⟨zdb (zf2 hnd) fun _ _ => rfl, trivial⟩
  let b : Frame := { (default : Frame) with fn := d.fn, kind := .normal }
  let a : Act := { tmps := args.toArray ++ Array.replicate (fn.ntmps - args.toArray.size) undef, defers := [] }
  have henter : Frame.enter P d.fn args.toArray .normal = b.at a [.code body] := by
    simp [Frame.enter, Frame.at, hfn, hbody, b, a]
  have hal : args.length = d.pre.vals.length := by
    have := hargs.length
    simp [FD.sig] at this
    exact this.symm
  cases n with
  | zero => simp [J] at hJ
  | succ n =>
    simp only [J, seg, hbody] at hJ
    have R : Rep P (kx X0) fn.ntmps (d.start x).t X0 a w := by
      refine ⟨H, hX0, fun n => ?_, ?_, rfl⟩
      · have := zgb (dv := AV.sc .ud) (l := d.pre.vals.map (·.inst x selfIm false)) (j := 0) (n := n)
        rw [Nat.zero_add] at this
        show RV P X0 (look (.sc .ud) (numbered 0 (d.pre.vals.map (·.inst x selfIm false))) n) _
        rw [this]
        exact zr6 hargs _ n
      · show (args.toArray ++ Array.replicate (fn.ntmps - args.toArray.size) undef).size = _
        rw [Array.size_append, Array.size_replicate]
        simp only [List.size_toArray]
        omega
    have Pa : Past P (kx X0) d.nb X0 w X0 w := by
      exact ⟨H, hX0, rfl, rfl, rfl, Nat.le_refl _, fun _ _ _ => rfl, fun id h => .inr ⟨id, h, rfl⟩, fun _ h => .inl h, fun j hj => Keeps.refl _ _, fun j cells hj hc => BoxK.refl hc⟩
    obtain ⟨todo, a', w', v, X', p, h1, h2, h3, h4, h5, h6, h7⟩ := zbm (b := b) (cs := cs) C (J_ok C hbody hfit n) fuel hJ hfit R (by rw [hob, FD.start_o]; rfl) (FD.start_free d x) Pa
    refine ⟨.returned v, w', { b.at a' todo with mode := .returning }, ⟨v, X', p, rfl, h4, h5, h6, h7⟩, ?_, ?_, ?_⟩
    · show Steps P (lone (Frame.enter P d.fn args.toArray .normal) cs w) (lone { b.at a' todo with mode := .returning } cs w')
      rw [henter]; exact h1
    · rfl
    · exact ⟨rfl, h2, rfl, fn, hfn, h3⟩
end
end Go.Eng
end
section
namespace Go.Eng
open Go Go.ChangeShapes
inductive Ty (P : Program) (B : Nat) : CK → C → Prop where
  | i (k : IntKind) (n : Int) (h : (Lit.int k n).wf = true) : Ty P B (.i k) (.i n)
  | b (x : Bool) : Ty P B .b (.b x)
  | s (x : ByteArray) (h : x.size ≤ B) : Ty P B .s (.s x)
  | l (e : TypeId) (xs : Rw) (hl : xs.length ≤ B) (hn : ∀ r ∈ xs, r.length = (kinds P 8 e).length) (h : ∀ r ∈ xs, ∀ (o : Nat) (k : CK) (c : C), (kinds P 8 e)[o]? = some k → r[o]? = some c → Ty P B k c) : Ty P B (.sl e) (.l xs)
def okFs (P : Program) (okT : TypeId → Bool) (total : Nat) : Nat → List Field → Bool
  | off, [] => Nat.beq off total
  | off, f :: fs => Nat.beq f.offset off && (okT f.type && okFs P okT total (off + P.cellsOf f.type) fs)
def okT (P : Program) : Nat → TypeId → Bool
  | 0, _ => false
  | d + 1, t => match P.underlying t with
    | some (.int _) => Nat.beq (P.cellsOf t) 1
    | some .bool => Nat.beq (P.cellsOf t) 1
    | some .string => Nat.beq (P.cellsOf t) 1
    | some (.slice e) => Nat.beq (P.cellsOf t) 1 && (okT P d e && (!Nat.beq (P.cellsOf e) 0 && !Nat.beq (P.bytesOf e) 0))
    | some (.struct fs) => okFs P (okT P d) (P.cellsOf t) 0 fs.toList
    | _ => false
theorem zmo {P : Program} {t : TypeId} : esz P t = P.cellsOf t := by
  unfold esz Program.cellsOf
  cases P.info? t <;> rfl
def Told (P : Program) (w : World) (B d : Nat) (ks : List CK) (cs : List Value) (xs : List C) : Prop :=
  cs.length = ks.length ∧ xs.length = cs.length ∧ ∀ (o : Nat) (v : Value), cs[o]? = some v → ∃ c, xs[o]? = some c ∧ CellOk (Con P w.heap (fun b => b < w.heap.size) d) (ks.getD o .x) v c ∧ Ty P B (ks.getD o .x) c
theorem Told.one {P : Program} {w : World} {B d : Nat} {k : CK} {v : Value} {c : C} (h : CellOk (Con P w.heap (fun b => b < w.heap.size) d) k v c) (hs : Ty P B k c) : Told P w B d [k] [v] [c] :=
  ⟨rfl, rfl, fun o u hu => by
    cases o with
    | zero => simp at hu; subst hu; exact ⟨c, rfl, h, hs⟩
    | succ o => simp at hu⟩
theorem Told.append {P : Program} {w : World} {B d : Nat} {ks ks' : List CK} {cs cs' : List Value} {xs xs' : List C} (h : Told P w B d ks cs xs) (h' : Told P w B d ks' cs' xs') : Told P w B d (ks ++ ks') (cs ++ cs') (xs ++ xs') := by
  obtain ⟨a, b, c⟩ := h
  obtain ⟨a', b', c'⟩ := h'
  refine ⟨by simp [a, a'], by simp [b, b'], fun o v hv => ?_⟩
  rcases Nat.lt_or_ge o cs.length with hl | hl
  · rw [List.getElem?_append_left hl] at hv
    obtain ⟨x, h1, h2, h3⟩ := c o v hv
    refine ⟨x, by rw [List.getElem?_append_left (by omega)]; exact h1, ?_⟩
    rw [List.getD_eq_getElem?_getD, List.getElem?_append_left (by omega), ← List.getD_eq_getElem?_getD]; exact ⟨h2, h3⟩
  · rw [List.getElem?_append_right hl] at hv
    obtain ⟨x, h1, h2, h3⟩ := c' _ v hv
    refine ⟨x, by rw [List.getElem?_append_right (by omega), b]; exact h1, ?_⟩
    rw [List.getD_eq_getElem?_getD, List.getElem?_append_right (by omega), ← a, ← List.getD_eq_getElem?_getD]; exact ⟨h2, h3⟩
theorem zh4 {w : World} {a : Addr} {v : Value} (h : w.cell? a = some v) : a.spot = none ∧ ∃ cs ty fz, w.heap[a.block]? = some (.cells cs ty fz) ∧ cs[a.off]? = some v := by
  unfold World.cell? at h
  split at h
  · rename_i c ty fz hc
    cases hs : a.spot with
    | some n => rw [hs] at h; simp at h
    | none => rw [hs] at h; exact ⟨rfl, c, ty, fz, hc, by simpa using h⟩
  · cases h
theorem add_zero (a : Addr) : a.add 0 = a := by unfold Addr.add; simp
theorem zio (a : Addr) (n : Nat) : (a.add n).block = a.block ∧ (a.add n).off = a.off + n := by
  unfold Addr.add
  split <;> simp_all
theorem zp3 {α : Type} (n : Nat) (p : Nat → α → Prop) (h : ∀ i, i < n → ∃ x, p i x) : ∃ l : List α, l.length = n ∧ ∀ i x, l[i]? = some x → p i x := by
  induction n with
  | zero => exact ⟨[], rfl, fun i x hx => by simp at hx⟩
  | succ n ih =>
    obtain ⟨l, hl, hp⟩ := ih (fun i hi => h i (by omega))
    obtain ⟨x, hx⟩ := h n (by omega)
    refine ⟨l ++ [x], by simp [hl], fun i y hy => ?_⟩
    by_cases hi : i < n
    · rw [List.getElem?_append_left (by omega)] at hy; exact hp i y hy
    · rw [List.getElem?_append_right (by omega)] at hy
      have e : i - l.length = 0 := by
        rcases Nat.eq_zero_or_pos (i - l.length) with h0 | h0
        · exact h0
        · rw [List.getElem?_eq_none (by simp; omega)] at hy; cases hy
      rw [e] at hy
      simp at hy
      obtain rfl : i = n := by omega
      rw [← hy]; exact hx
theorem zmd {H : Type} {P : Program} {e : TypeId} : ∀ {l : List (DataW H)} {d : DataW H}, d ∈ l → ∀ {n : Nat}, n ∈ d.weights P e → n ∈ DataW.weightsAll P e l
  | x :: l, d, hd, n, hn => by
    simp only [DataW.weightsAll, List.mem_append]
    rcases List.mem_cons.1 hd with rfl | hd
    · exact .inl hn
    · exact .inr (zmd hd hn)
  | [], _, hd, _, _ => by cases hd
section
variable {P : Program} {H : Type} {enc : TypeId × Value → H} {w : World} {base : Nat} {sp : Nat → Bool} {held : Bool} {B : Nat}
theorem zih {okT' : TypeId → Bool} {total k d n : Nat} {cs : List Value}
    (ih : ∀ {t : TypeId} {cs : List Value} {y : DataW H × List MemPlace}, okT' t = true → DataW.trod enc P w base sp held n t cs = some y → (∀ m ∈ y.1.weights P t, m ≤ B) → P.cellsOf t = (kinds P k t).length ∧ ∃ xs, Told P w B d (kinds P k t) cs xs) :
    ∀ {fs : List Field} {off : Nat} {ys : List (DataW H × List MemPlace)}, okFs P okT' total off fs = true → cs.length = total → ys.length = fs.length →
      (∀ (i : Nat) (f : Field), fs[i]? = some f → DataW.trod enc P w base sp held n f.type ((cs.drop f.offset).take (P.cellsOf f.type)) = ys[i]?) → (∀ m ∈ DataW.weightsEach P (fs.map (·.type)) (ys.map (·.1)), m ≤ B) →
      off ≤ total ∧ total = off + (fs.flatMap fun f => kinds P k f.type).length ∧ ∃ xs, Told P w B d (fs.flatMap fun f => kinds P k f.type) (cs.drop off) xs
  | [], off, ys, hok, hl, hy, hf, hw => by
    have := zg (show Nat.beq off total = true from hok)
    subst this
    refine ⟨Nat.le_refl _, by simp, [], ?_⟩
    rw [List.drop_of_length_le (by omega)]
    exact ⟨rfl, rfl, fun o v hv => by simp at hv⟩
  | f :: fs, off, [], hok, hl, hy, hf, hw => by simp at hy
  | f :: fs, off, y :: ys, hok, hl, hy, hf, hw => by
    simp only [okFs, Bool.and_eq_true] at hok
    have e := zg hok.1
    have h0 := hf 0 f rfl
    rw [e] at h0
    simp only [List.map_cons, DataW.weightsEach, List.mem_append] at hw
    obtain ⟨hc, xs, hx⟩ := ih hok.2.1 (show _ = some y from h0) fun m hm => hw m (.inl hm)
    obtain ⟨r1, r2, xs', hx'⟩ := zih ih (fs := fs) (off := off + P.cellsOf f.type) (ys := ys) hok.2.2 hl (by simpa using hy) (fun i g hg => by simpa using hf (i + 1) g (by simpa using hg)) fun m hm => hw m (.inr hm)
    refine ⟨by omega, by rw [List.flatMap_cons, List.length_append]; omega, xs ++ xs', ?_⟩
    rw [List.flatMap_cons]
    have hsplit : cs.drop off = (cs.drop off).take (P.cellsOf f.type) ++ cs.drop (off + P.cellsOf f.type) := by
      rw [← List.drop_drop, List.take_append_drop]
    rw [hsplit]
    exact hx.append hx'
theorem zg7 : ∀ {d k : Nat} {t : TypeId} {fuel : Nat} {cs : List Value} {y : DataW H × List MemPlace}, d ≤ k → d ≤ 8 → okT P d t = true → DataW.trod enc P w base sp held fuel t cs = some y → (∀ m ∈ y.1.weights P t, m ≤ B) →
    P.cellsOf t = (kinds P k t).length ∧ ∃ xs, Told P w B d (kinds P k t) cs xs
  | 0, _, _, _, _, _, _, _, h, _, _ => by simp [okT] at h
  | d + 1, 0, _, _, _, _, hk, _, _, _, _ => by omega
  | d + 1, k + 1, t, fuel, cs, y, hk, h8, hok, h, hw => by
    simp only [okT] at hok
    cases hu : P.underlying t with
    | none => rw [hu] at hok; cases hok
    | some td =>
      rw [hu] at hok
      cases td <;> simp only at hok <;> try (cases hok; done)
      case int ik =>
        obtain ⟨n, rfl, rfl, wf⟩ := DataW.trod_int hu h
        refine ⟨by rw [zg hok]; simp [kinds, hu], [.i n], ?_⟩
        simp only [kinds, hu]
        exact Told.one rfl (.i ik n wf)
      case bool =>
        obtain ⟨n, rfl, rfl⟩ := DataW.trod_bool hu h
        refine ⟨by rw [zg hok]; simp [kinds, hu], [.b n], ?_⟩
        simp only [kinds, hu]
        exact Told.one rfl (.b n)
      case string =>
        obtain ⟨n, rfl, rfl, _⟩ := DataW.trod_string hu h
        refine ⟨by rw [zg hok]; simp [kinds, hu], [.s n], ?_⟩
        simp only [kinds, hu]
        exact Told.one rfl (.s n (hw n.size (by simp [DataW.weights])))
      case slice e =>
        simp only [Bool.and_eq_true, Bool.not_eq_true'] at hok
        obtain ⟨k1, k2, k3, k4⟩ := hok
        refine ⟨by rw [zg k1]; simp [kinds, hu], ?_⟩
        simp only [kinds, hu]
        have he0 : P.cellsOf e ≠ 0 := fun h => by rw [h] at k3; simp at k3
        have hb0 : P.bytesOf e ≠ 0 := fun h => by rw [h] at k4; simp at k4
        rcases Deep.open_slice hu h with ⟨rfl, rfl⟩ | ⟨a, len, cap, m, n, D, Pl, rfl, hb, hl, hm, hmm, rfl, hi⟩
        · exact ⟨[.l []], Told.one ⟨none, 0, rfl, Nat.le_refl _, .inl rfl⟩ (.l e [] (Nat.zero_le _) (fun r hr => by simp at hr) fun r hr => by simp at hr)⟩
        · have hlm : len ≤ m := by rw [hmm]; split <;> omega
          have hlenw : len * P.bytesOf e ≤ B := by
            refine Nat.le_trans ?_ (hw _ (by simp only [DataW.weights, hu]; exact List.mem_cons_self))
            apply Nat.mul_le_mul_right; simp
          have hlenB : len ≤ B := Nat.le_trans (Nat.le_mul_of_pos_right _ (by omega)) hlenw
          have key : ∀ i, i < len → ∃ r : List C, ∃ cs', w.cells? base (a.add (i * P.cellsOf e)) (P.cellsOf e) = some cs' ∧ Told P w B d (kinds P 8 e) cs' r ∧ P.cellsOf e = (kinds P 8 e).length := by
            intro i hil
            obtain ⟨cs', hc, ht⟩ := hi i (by omega)
            obtain ⟨hlen, r, hr⟩ := zg7 (d := d) (k := 8) (by omega) (by omega) k2 ht fun q hq => hw q (by
              simp only [DataW.weights, hu, List.mem_cons, List.mem_append]
              exact .inr (.inl (zmd (List.mem_map.2 ⟨i, by simpa using hil, rfl⟩) hq)))
            exact ⟨r, cs', hc, hr, hlen⟩
          obtain ⟨xs, hxl, hx⟩ := zp3 len _ key
          refine ⟨[.l xs], Told.one ⟨some a, cap, by simp [C.list, hxl], by simp [C.list, hxl, hl], ?_⟩ (.l e xs (by omega) (fun r hr => ?_) fun r hr o k c hk hc => ?_)⟩
          · show Con P w.heap _ (d + 1) e (some a) xs
            cases xs with
            | nil => exact .inl rfl
            | cons r0 xs0 =>
              right
              have cellAt : ∀ i r o, (r0 :: xs0)[i]? = some r → o < P.cellsOf e → ∃ v c, w.cell? ((a.add (i * P.cellsOf e)).add o) = some v ∧ r[o]? = some c ∧ CellOk (Con P w.heap (fun b => b < w.heap.size) d) ((kinds P 8 e).getD o .x) v c := by
                intro i r o hr ho
                obtain ⟨cs', hc, ⟨q1, q2, q3⟩, q4⟩ := hx i r hr
                obtain ⟨_, hcl, hcc⟩ := World.cells?_some hc
                obtain ⟨v, hv⟩ : ∃ v, cs'[o]? = some v := ⟨_, List.getElem?_eq_getElem (by omega)⟩
                obtain ⟨c, c1, c2, _⟩ := q3 o v hv
                exact ⟨v, c, by rw [hcc o ho]; exact hv, c1, c2⟩
              obtain ⟨v0, c0, hv0, _, _⟩ := cellAt 0 r0 0 rfl (by omega)
              obtain ⟨s0, csb, ty, fz, hb1, _⟩ := zh4 hv0
              rw [Nat.zero_mul, add_zero, add_zero] at s0 hb1
              refine ⟨a.block, a.off, csb, ty, fz, ?_, (Array.getElem?_eq_some_iff.1 hb1).1, hb1, fun i hil o ho => ?_⟩
              · cases a; simp only at s0; subst s0; rfl
              · rw [zmo] at ho ⊢
                obtain ⟨r, hr⟩ : ∃ r, (r0 :: xs0)[i]? = some r := ⟨_, List.getElem?_eq_getElem hil⟩
                obtain ⟨v, c, hv, hc, hcell⟩ := cellAt i r o hr ho
                obtain ⟨u0, csb', ty', fz', hb', hv'⟩ := zh4 hv
                obtain ⟨ub1, uo1⟩ := zio (a.add (i * P.cellsOf e)) o
                obtain ⟨ub2, uo2⟩ := zio a (i * P.cellsOf e)
                rw [ub1, ub2, hb1] at hb'
                cases hb'
                rw [uo1, uo2] at hv'
                refine ⟨v, hv', ?_⟩
                have : rd (r0 :: xs0) i o = c := by
                  unfold rd
                  rw [List.getD_eq_getElem?_getD, List.getD_eq_getElem?_getD, hr, Option.getD_some, hc]; rfl
                rw [this]; exact hcell
          · obtain ⟨i, hil, rfl⟩ := List.getElem_of_mem hr
            obtain ⟨cs', hc', ⟨q1, q2, q3⟩, _⟩ := hx i _ (List.getElem?_eq_getElem hil)
            omega
          · obtain ⟨i, hil, rfl⟩ := List.getElem_of_mem hr
            obtain ⟨cs', hc', ⟨q1, q2, q3⟩, _⟩ := hx i _ (List.getElem?_eq_getElem hil)
            have hol := (List.getElem?_eq_some_iff.1 hc).1
            obtain ⟨v, hv⟩ : ∃ v, cs'[o]? = some v := ⟨_, List.getElem?_eq_getElem (by omega)⟩
            obtain ⟨c', c1, _, c3⟩ := q3 o v hv
            rw [hc] at c1
            cases c1
            rw [List.getD_eq_getElem?_getD, hk] at c3; exact c3
      case struct fs =>
        obtain ⟨ys, n, _, rfl, hl, hlen, hf⟩ := DataW.trod_struct hu h
        have := zih (P := P) (enc := enc) (w := w) (base := base) (sp := sp) (held := held) (B := B) (okT' := okT P d) (total := P.cellsOf t) (k := k) (d := d) (n := n) (cs := cs)
          (fun {t cs y} h1 h2 h3 => zg7 (d := d) (k := k) (by omega) (by omega) h1 h2 h3) (fs := fs.toList) (off := 0) (ys := ys) hok hl (by simpa using hlen) (fun i f hi => hf i f (by simpa using hi)) (by simpa [DataW.weights, hu] using hw)
        obtain ⟨_, h2, xs, h3⟩ := this
        simp only [kinds, hu]
        refine ⟨by omega, xs, ?_⟩
        rw [List.drop_zero] at h3
        obtain ⟨t1, t2, t3⟩ := h3
        exact ⟨t1, t2, fun o v hv => let ⟨c, c1, c2, c3⟩ := t3 o v hv; ⟨c, c1, c2.mono fun _ _ _ hx => Con.up hx, c3⟩⟩
end
end Go.Eng
end
section
namespace Go.Eng
open Go Go.ChangeShapes Go.WideShapes Go.RowKit
def cellPat : CK → Nat → PS
  | .i k, n => .i k n
  | .b, n => .b n
  | .s, n => .s n
  | .sl e, n => .fz e false n
  | .x, _ => .un
def cellPats : List CK → Nat → List PS
  | [], _ => []
  | k :: ks, n => cellPat k n :: cellPats ks (n + 1)
def argPat (P : Program) (t : TypeId) (n : Nat) : PV := match isAg P t with
  | true => .ag (cellPats (kinds P 8 t) n)
  | false => .sc (cellPat ((kinds P 8 t).getD 0 .x) n)
def argPats (P : Program) : List TypeId → Nat → List PV
  | [], _ => []
  | t :: ts, n => argPat P t n :: argPats P ts (n + (kinds P 8 t).length)
def lfOf : C → Lf
  | .i n => .i n
  | .b x => .b x
  | .s x => .s x
  | .l xs => .l xs
def Fit : CK → C → Prop
  | .i _, c => ∃ n, c = .i n
  | .b, c => ∃ n, c = .b n
  | .s, c => ∃ n, c = .s n
  | .sl _, c => ∃ n, c = .l n
  | .x, _ => True
section
variable {P : Program} {w : World} {B : Nat}
def bare (β : Nat → Loc) (w : World) : Cx := ⟨β, fun fr b => fr = false ∧ b < w.heap.size, fun _ => .dead, w.heap⟩
theorem zoj {β : Nat → Loc} {k : CK} {v : Value} {c : C} {lv : Lv} {n : Nat} (hn : lv[n]? = some (lfOf c)) (hf : Fit k c) (h : CellOk (Con P w.heap (fun b => b < w.heap.size) 8) k v c) : RS P (bare β w) ((cellPat k n).inst lv selfIm false) v := by
  cases k
  · obtain ⟨m, rfl⟩ := hf; simp only [cellPat, PS.inst, g_of hn]; exact h
  · obtain ⟨m, rfl⟩ := hf; simp only [cellPat, PS.inst, g_of hn]; exact h
  · obtain ⟨m, rfl⟩ := hf; simp only [cellPat, PS.inst, g_of hn]; exact h
  · obtain ⟨m, rfl⟩ := hf
    simp only [cellPat, PS.inst, g_of hn]
    obtain ⟨A, cap, h1, h2, h3⟩ := h
    exact ⟨A, cap, h1, h2, Con.mono (fun b hb => ⟨rfl, hb⟩) (fun _ _ => rfl) h3⟩
  · exact h.elim
theorem zls {β : Nat → Loc} {lv : Lv} : ∀ {ks : List CK} {cs : List Value} {xs : List C} {n : Nat}, Told P w B 8 ks cs xs → (∀ (i : Nat) (k : CK) (c : C), ks[i]? = some k → xs[i]? = some c → Fit k c) → (∀ (i : Nat) (c : C), xs[i]? = some c → lv[n + i]? = some (lfOf c)) →
    RSs P (bare β w) ((cellPats ks n).map (·.inst lv selfIm false)) cs
  | [], [], xs, n, h, _, _ => .nil
  | [], _ :: _, xs, n, h, _, _ => by have := h.1; simp at this
  | _ :: _, [], xs, n, h, _, _ => by have := h.1; simp at this
  | k :: ks, v :: cs, [], n, h, _, _ => by have := h.2.1; simp at this
  | k :: ks, v :: cs, c :: xs, n, h, hf, hl => by
    obtain ⟨h1, h2, h3⟩ := h
    refine .cons ?_ (zls (xs := xs) (n := n + 1) ⟨by simpa using h1, by simpa using h2, fun o u hu => h3 (o + 1) u (by simpa using hu)⟩ (fun i k' c' a b => hf (i + 1) k' c' (by simpa using a) (by simpa using b)) fun i c' hc => by rw [show n + 1 + i = n + (i + 1) by omega]; exact hl (i + 1) c' (by simpa using hc))
    obtain ⟨c', e1, e2, _⟩ := h3 0 v rfl
    simp at e1; subst e1
    exact zoj (by simpa using hl 0 c rfl) (hf 0 k c rfl rfl) e2
theorem Ty.fit {k : CK} {c : C} (h : Ty P B k c) : Fit k c := by
  cases h <;> exact ⟨_, rfl⟩
theorem Told.tys {d : Nat} {ks : List CK} {cs : List Value} {xs : List C} (h : Told P w B d ks cs xs) : F2 (Ty P B) ks xs := by
  obtain ⟨h1, h2, h3⟩ := h
  have : ∀ (ks : List CK) (xs : List C), ks.length = xs.length → (∀ (o : Nat) (k : CK) (c : C), ks[o]? = some k → xs[o]? = some c → Ty P B k c) → F2 (Ty P B) ks xs := by
    intro ks
    induction ks with
    | nil => intro xs hl _; cases xs with
      | nil => exact .nil
      | cons _ _ => simp at hl
    | cons k ks ih => intro xs hl h; cases xs with
      | nil => simp at hl
      | cons c xs => exact .cons (h 0 k c rfl rfl) (ih xs (by simpa using hl) fun o k c a b => h (o + 1) k c (by simpa using a) (by simpa using b))
  refine this ks xs (by omega) fun o k c hk hc => ?_
  have hl := (List.getElem?_eq_some_iff.1 hk).1
  obtain ⟨v, hv⟩ : ∃ v, cs[o]? = some v := ⟨_, List.getElem?_eq_getElem (by omega)⟩
  obtain ⟨c', e1, _, e3⟩ := h3 o v hv
  rw [hc] at e1; cases e1
  rw [List.getD_eq_getElem?_getD, hk] at e3; exact e3
theorem F2.getI {α β : Type} {R : α → β → Prop} {xs : List α} {ys : List β} (h : F2 R xs ys) : ∀ (i : Nat) (x : α) (y : β), xs[i]? = some x → ys[i]? = some y → R x y := by
  induction h with
  | nil => intro i x y hx; simp at hx
  | cons h t ih => intro i x y hx hy; cases i with
    | zero => simp at hx hy; subst hx; subst hy; exact h
    | succ i => exact ih i x y (by simpa using hx) (by simpa using hy)
theorem F2.app {α β : Type} {R : α → β → Prop} {xs xs' : List α} {ys ys' : List β} (h : F2 R xs ys) (h' : F2 R xs' ys') : F2 R (xs ++ xs') (ys ++ ys') := by
  induction h with
  | nil => exact h'
  | cons h t ih => exact .cons h ih
theorem F2.len {α β : Type} {R : α → β → Prop} {xs : List α} {ys : List β} (h : F2 R xs ys) : xs.length = ys.length := by
  induction h with
  | nil => rfl
  | cons h t ih => simp [ih]
theorem zn9 {H : Type} {enc : TypeId × Value → H} {base base2 : Nat} {sp : Nat → Bool} {held : Bool} {t : TypeId} {v : Value} {d : DataW H} {ps : List MemPlace} {r : Reach} (hok : okT P 8 t = true) (hv : Value.okWide P w r base2 t v) (h : DataW.Trod enc P w base sp held t v d ps)
    (hw : ∀ m ∈ d.weights P t, m ≤ B) : ∃ xs : List C, F2 (Ty P B) (kinds P 8 t) xs ∧
      ∀ (β : Nat → Loc) (lv : Lv) (n : Nat), (∀ (i : Nat) (c : C), xs[i]? = some c → lv[n + i]? = some (lfOf c)) → RV P (bare β w) ((argPat P t n).inst lv selfIm false) v := by
  obtain ⟨fuel, hf⟩ := h
  obtain ⟨_, xs, hx⟩ := zg7 (d := 8) (k := 8) (Nat.le_refl _) (Nat.le_refl _) hok hf hw
  refine ⟨xs, hx.tys, fun β lv n hl => ?_⟩
  · have key := zls (β := β) (lv := lv) (n := n) hx (fun i k c hk hc => (hx.tys.getI i k c hk hc).fit) hl
    unfold argPat
    have one : ∀ {k : CK}, kinds P 8 t = [k] → isAg P t = false → v.cells.toList = [v] → RV P (bare β w) (((match isAg P t with | true => .ag (cellPats (kinds P 8 t) n) | false => .sc (cellPat ((kinds P 8 t).getD 0 .x) n)) : PV).inst lv selfIm false) v := by
      intro k hk hag hc
      rw [hag, hk]
      rw [hk, hc] at key
      cases key with | cons a _ => exact a
    simp only [okT] at hok
    cases hu : P.underlying t with
    | none => rw [hu] at hok; cases hok
    | some td =>
      rw [hu] at hok
      cases td <;> simp only at hok <;> try (cases hok; done)
      case int ik => obtain ⟨m, rfl⟩ := okWide_int hu hv; exact one (k := .i ik) (by simp [kinds, hu]) (by simp [isAg, hu]) rfl
      case bool => obtain ⟨m, rfl⟩ := okWide_bool hu hv; exact one (k := .b) (by simp [kinds, hu]) (by simp [isAg, hu]) rfl
      case string => obtain ⟨m, rfl⟩ := okWide_string hu hv; exact one (k := .s) (by simp [kinds, hu]) (by simp [isAg, hu]) rfl
      case slice e => obtain ⟨a, b, c, rfl⟩ := okWide_slice hu hv; exact one (k := .sl e) (by simp [kinds, hu]) (by simp [isAg, hu]) rfl
      case struct fs =>
        obtain ⟨cs, rfl, _⟩ := okWide_struct hu hv
        have : isAg P t = true := by simp [isAg, hu]
        rw [this]
        exact ⟨cs, rfl, key⟩
theorem ziv {H : Type} {enc : TypeId × Value → H} {base base2 : Nat} {sp : Nat → Bool} {held : Bool} {r : Reach} : ∀ {ts : List TypeId} {vs : List Value} {ds : List (DataW H)} {ps : List MemPlace}, (∀ t ∈ ts, okT P 8 t = true) →
    (∀ (j : Nat) (t : TypeId) (v : Value), ts[j]? = some t → vs[j]? = some v → Value.okWide P w r base2 t v) → DataW.TrodAll enc P w base sp held ts vs ds ps → (∀ m ∈ DataW.weightsEach P ts ds, m ≤ B) →
    ∃ xs : List C, F2 (Ty P B) (ts.flatMap (kinds P 8)) xs ∧
      ∀ (β : Nat → Loc) (lv : Lv) (n : Nat), (∀ (i : Nat) (c : C), xs[i]? = some c → lv[n + i]? = some (lfOf c)) → F2 (RV P (bare β w)) ((argPats P ts n).map (·.inst lv selfIm false)) vs
  | [], vs, ds, ps, _, _, h, _ => by
    obtain ⟨rfl, rfl, rfl⟩ := trodAll_nil h
    exact ⟨[], .nil, fun β lv n _ => .nil⟩
  | t :: ts, vs, ds, ps, hok, hv, h, hw => by
    obtain ⟨v, vs', d, ds', p, q, rfl, rfl, rfl, h0, hr⟩ := trodAll_cons h
    simp only [DataW.weightsEach, List.mem_append] at hw
    obtain ⟨xs, a1, a4⟩ := zn9 (hok t (by simp)) (hv 0 t v rfl rfl) h0 fun m hm => hw m (.inl hm)
    obtain ⟨ys, b1, b4⟩ := ziv (ts := ts) (fun t ht => hok t (by simp [ht])) (fun j t v a b => hv (j + 1) t v (by simpa using a) (by simpa using b)) hr fun m hm => hw m (.inr hm)
    refine ⟨xs ++ ys, by rw [List.flatMap_cons]; exact a1.app b1, fun β lv n hl => ?_⟩
    have a1' := a1.len
    refine .cons (a4 β lv n fun i c hc => hl i c (by rw [List.getElem?_append_left (List.getElem?_eq_some_iff.1 hc).1]; exact hc)) (b4 β lv _ fun i c hc => ?_)
    have := hl ((kinds P 8 t).length + i) c (by rw [a1', List.getElem?_append_right (by omega)]; simpa using hc)
    rw [show n + (kinds P 8 t).length + i = n + ((kinds P 8 t).length + i) by omega]; exact this
theorem zp9 {s : Sig} (hs : SigOk P s) {ts : List TypeId} (hpre : s.pre = ⟨argPats P ts 0, []⟩) (hpost : s.post = ⟨[.sc (.b 0)], []⟩) {xs : List C} {args : Array Value} (hargs : ∀ (β : Nat → Loc) (lv : Lv) (n : Nat), (∀ (i : Nat) (c : C), xs[i]? = some c → lv[n + i]? = some (lfOf c)) → F2 (RV P (bare β w)) ((argPats P ts n).map (·.inst lv selfIm false)) args.toList)
    (hf : s.f (xs.map lfOf) = some [.b true]) : Calls P s.fn args w fun e w' => e = .returned (.bool true) ∧ Below w.heap.size w w' := by
  have hno : ∀ β id, ¬ Own (bare β w) id := fun β id h => h
  let X0 := bare (fun _ => ⟨0, 0, 0, true⟩) w
  have H : Heap P (kx X0) X0 := ⟨fun id => trivial, fun id id' h => h.elim, fun id h => h.elim, fun id h => h.elim, fun id h => h.elim, fun b h => (by cases h.1), fun b h => (by cases h.1), fun b h => h.2, fun b h => h.1, Nat.le_refl _⟩
  have ha := hargs (fun _ => ⟨0, 0, 0, true⟩) (xs.map lfOf) 0 fun i c hc => by rw [Nat.zero_add, List.getElem?_map, hc]; rfl
  have := hs w args.toList (xs.map lfOf) [.b true] X0 rfl (by rw [hpre]; funext j; simp [obOf, X0, bare]) (fun b h => by cases h.1) H (by rw [hpre]; exact ha) hf
  rw [Array.toArray_toList] at this
  refine this.mono ?_
  rintro e w' ⟨v, X', p, rfl, hp, hob, hrv, hpa⟩
  rw [hpost] at hp
  cases hp
  refine ⟨?_, hpa.os, hpa.tape, hpa.output, ?_, fun k hk => ?_⟩
  · have : v = .bool true := hrv
    rw [this]
  · rw [← hpa.hX]; exact hpa.sz
  · rw [← hpa.hX]; exact hpa.fr k hk fun id h => (hno _ id h).elim
end
end Go.Eng
end
section
namespace Go.Eng
open Go Go.ChangeShapes Go.WideShapes Go.RowKit
theorem zhx {P : Program} {H : Type} {enc : TypeId × Value → H} (hl : laidOutB P = true) {W W' : World} (hb : Below W.heap.size W W') : ∀ {ts : List TypeId} {vs : List Value} {ds : List (DataW H)} {ps : List MemPlace}, (∀ t ∈ ts, P.readableRec t = true ∧ t < P.types.size) →
    DataW.TrodAll enc P W 0 (fun _ => true) true ts vs ds ps → DataW.TrodAll enc P W' 0 (fun b => decide (b < W.heap.size)) true ts vs ds ps
  | [], vs, ds, ps, _, h => by
    obtain ⟨rfl, rfl, rfl⟩ := trodAll_nil h
    exact trodAll_mk0
  | t :: ts, vs, ds, ps, ht, h => by
    obtain ⟨v, vs', d, ds', p, q, rfl, rfl, rfl, h0, hr⟩ := trodAll_cons h
    obtain ⟨a, b⟩ := ht t (by simp)
    refine trodAll_cons_mk (Below.trod hl a b h0 hb ?_) (zhx hl hb (fun t ht' => ht t (by simp [ht'])) hr)
    obtain ⟨m, hm⟩ := h0
    exact DataW.trod_lt m _ _ _ hm
end Go.Eng
end
section
namespace Go.Eng
open Go
theorem zky : ∀ (gs : List Bool) (k : Option Lv), guards gs k = cond (gs.all id) k none
  | [], k => rfl
  | true :: r, k => by simpa [guards] using zky r k
  | false :: r, k => by simp [guards]
def Det (X : (St → List Log → Option Lv) → Option Lv) : Prop := ∃ r : Option (St × List Log), ∀ K, X K = r.bind fun x => K x.1 x.2
theorem Det.none : Det fun _ => none := ⟨.none, fun _ => rfl⟩
theorem Det.some (σ : St) (lg : List Log) : Det fun K => K σ lg := ⟨.some (σ, lg), fun _ => rfl⟩
theorem Det.cnd {X Y : (St → List Log → Option Lv) → Option Lv} (b : Bool) (hx : Det X) (hy : Det Y) : Det fun K => cond b (X K) (Y K) := by
  cases b
  · exact hy
  · exact hx
theorem Det.grd {X : (St → List Log → Option Lv) → Option Lv} (gs : List Bool) (hx : Det X) : Det fun K => guards gs (X K) := by
  simp only [zky]; exact Det.cnd _ hx .none
variable {P : Program} {Γ : List Sig} {ops : Array Oper}
theorem zpq (o : Oper) (σ : St) (lg : List Log) : Det fun K => doOp P Γ ops o σ lg K := by
  unfold doOp
  cases hop : o.op with
  | call c =>
    cases hc : c.callee with
    | value v =>
      simp only [hc]
      generalize List.map (opnd σ.t) (Op.call c).operands.toList = vs
      match vs with
      | .sc (.fn f caps) :: args =>
        dsimp only
        cases hsg : sigOf f Γ with
        | none => exact .none
        | some s =>
          dsimp only
          cases hm : mtch (rlk (more σ.o (more σ.o (more σ.o ((args ++ capArgs caps).flatMap AV.ids)))) σ.o) s.pre (args ++ capArgs caps) [] with
          | none => exact .none
          | some E =>
            dsimp only
            refine Det.cnd _ ?_ .none
            cases hf : s.f E.lv.reverse with
            | none => exact .none
            | some y => exact Det.cnd _ (.some _ _) .none
      | [] => exact .none
      | .ag _ :: _ => exact .none
      | .tu _ :: _ => exact .none
      | .sc .un :: _ | .sc .ud :: _ | .sc (.i _ _) :: _ | .sc (.b _) :: _ | .sc (.s _) :: _ | .sc .np :: _ | .sc (.pt _ _) :: _ | .sc (.pe _ _ _ _ _) :: _ | .sc (.po _ _ _ _) :: _ | .sc .ns :: _ | .sc (.fz _ _ _) :: _ | .sc (.ow _ _) :: _ | .sc (.sb _ _ _ _) :: _ | .sc (.mp _) :: _ | .sc .nm :: _ => exact .none
    | _ =>
      simp only [hc]
      generalize acore P _ _ _ _ = r
      cases r with
      | none => exact .none
      | some r => exact Det.grd _ (Det.cnd _ (.some _ _) .none)
  | _ =>
    dsimp only
    generalize acore P _ _ _ _ = r
    cases r with
    | none => exact .none
    | some r => exact Det.grd _ (Det.cnd _ (.some _ _) .none)
theorem zed : ∀ (l : List Oper) (σ : St) (lg : List Log), Det fun K => runOps P Γ ops l σ lg K
  | [], σ, lg => .some σ lg
  | o :: r, σ, lg => by
    have one : ∀ σ lg, Det fun K => doOp P Γ ops o σ lg fun σ lg => runOps P Γ ops r σ lg K := fun σ lg => by
      obtain ⟨x, hx⟩ := zpq (P := P) (Γ := Γ) (ops := ops) o σ lg
      cases x with
      | none => exact ⟨.none, fun K => hx _⟩
      | some x =>
        obtain ⟨y, hy⟩ := zed r x.1 x.2
        exact ⟨y, fun K => (hx _).trans (hy K)⟩
    unfold runOps
    cases o.guard with
    | none => exact one σ lg
    | some jw =>
      obtain ⟨j, want⟩ := jw
      dsimp only
      cases gdst ops j with
      | none => exact .none
      | some d =>
        dsimp only
        split
        · rename_i x hx
          cases x <;> cases want <;> simp only [cond_true, cond_false]
          · exact one _ _
          · exact zed r _ _
          · exact zed r _ _
          · exact one _ _
        · exact zed r _ _
        · exact .none
def Tail (X : (Nat → Lv → Option Lv) → Option Lv) : Prop := (∃ r, ∀ A, X A = r) ∨ ∃ id lv, ∀ A, X A = A id lv
theorem Tail.const (r : Option Lv) : Tail fun _ => r := .inl ⟨r, fun _ => rfl⟩
theorem zkx {draw : Bool} {σ : St} {K : (Nat → Lv → Option Lv) → St → Option Lv} (hK : ∀ σ, Tail fun A => K A σ) : Tail fun A => region P Γ ops draw σ (K A) := by
  unfold region
  obtain ⟨x, hx⟩ := zed (P := P) (Γ := Γ) (ops := ops) ops.toList σ []
  cases x with
  | none => exact .inl ⟨none, fun A => hx _⟩
  | some x =>
    have : (fun A => runOps P Γ ops ops.toList σ [] fun σ lg => cond draw (cond (backw 0 ops.toList && chk 0 (masks ops.toList []) lg.reverse) (K A σ) none) (K A σ)) =
      fun A => cond draw (cond (backw 0 ops.toList && chk 0 (masks ops.toList []) x.2.reverse) (K A x.1) none) (K A x.1) := funext fun A => hx _
    rw [this]
    cases draw
    · exact hK _
    · cases (backw 0 ops.toList && chk 0 (masks ops.toList []) x.2.reverse)
      · exact .const none
      · exact hK _
variable {d : FD} {fn : Func}
theorem zbr : ∀ (n : Nat) (k : List Item) (σ : St), Tail fun A => run P Γ d fn A n k σ
  | 0, _, _ => by unfold run; exact .const _
  | _ + 1, [], _ => by unfold run; exact .const _
  | n + 1, it :: k, σ => by
    cases it with
    | code c =>
      cases c with
      | skip => simpa only [run] using zbr n k σ
      | label _ => simpa only [run] using zbr n k σ
      | seq a b => simpa only [run] using zbr n _ σ
      | cond c x y =>
        simp only [run]
        split
        · rename_i t ht
          cases t <;> simp only [cond_true, cond_false]
          · exact zbr n _ σ
          · exact zbr n _ σ
        · exact .const _
      | block id c => simpa only [run] using zbr n _ σ
      | loop c => simpa only [run] using zbr n _ σ
      | exit id =>
        simp only [run]
        cases exitTo id k with
        | none => exact .const _
        | some k' => exact zbr n k' σ
      | ret => simp only [run]; exact .const _
      | region id ops dr =>
        simp only [run]
        cases cutOf id d.cuts with
        | none => exact zkx fun σ => zbr n k σ
        | some c =>
          dsimp only
          cases mtch σ.o c.pat (c.slots.map σ.t) (knownUpTo d.nb) with
          | none => exact .const _
          | some E =>
            dsimp only
            cases (rbOk σ.o E.ids 0 c.pat.objs && rwOk σ.o d.nb 0 c.pat.objs)
            · exact .const _
            · exact .inr ⟨id, _, fun A => rfl⟩
      | _ => simp only [run]; exact .const _
    | inBlock i => simpa only [run] using zbr n _ σ
    | inLoop c => simpa only [run] using zbr n _ σ
    | _ => simp only [run]; exact .const _
theorem zhy (at_ : Option Nat) (lv : Lv) : (∃ r, ∀ A, seg P Γ d fn A at_ lv = r) ∨ ∃ id lv', ∀ A, seg P Γ d fn A at_ lv = A id lv' := by
  show Tail fun A => seg P Γ d fn A at_ lv
  unfold seg
  cases fn.body with
  | none => exact .const _
  | some body =>
    dsimp only
    cases at_ with
    | none => exact zbr _ _ _
    | some id =>
      dsimp only
      cases cutOf id d.cuts with
      | none => exact .const _
      | some c =>
        dsimp only
        cases findR id body [] with
        | none => exact .const _
        | some r => obtain ⟨ops, dr, k⟩ := r; exact zkx fun σ => zbr _ _ _
theorem zpz (n : Nat) (at_ : Option Nat) (lv y : Lv) (h : J P Γ d fn n at_ lv = some y) : J P Γ d fn (n + 1) at_ lv = some y := by
  induction n generalizing at_ lv with
  | zero => simp [J] at h
  | succ n ih =>
    change seg P Γ d fn (fun id lv => J P Γ d fn (n + 1) (some id) lv) at_ lv = some y
    change seg P Γ d fn (fun id lv => J P Γ d fn n (some id) lv) at_ lv = some y at h
    rcases zhy (P := P) (Γ := Γ) (d := d) (fn := fn) at_ lv with ⟨r, hr⟩ | ⟨id, lv', hr⟩
    · rw [hr] at h ⊢; exact h
    · rw [hr] at h ⊢; exact ih _ _ h
theorem J_le {n m : Nat} (hnm : n ≤ m) {at_ : Option Nat} {lv y : Lv} (h : J P Γ d fn n at_ lv = some y) : J P Γ d fn m at_ lv = some y := by
  induction m with
  | zero => have : n = 0 := by omega
            subst this; exact h
  | succ m ih =>
    rcases Nat.lt_or_ge n (m + 1) with hl | hl
    · exact zpz _ _ _ _ (ih (by omega))
    · have : n = m + 1 := by omega
      subst this; exact h
open Classical in
noncomputable def Lim (P : Program) (Γ : List Sig) (d : FD) (fn : Func) (at_ : Option Nat) (lv : Lv) : Option Lv :=
  if h : ∃ y n, J P Γ d fn n at_ lv = some y then some h.choose else none
theorem zhc {at_ : Option Nat} {lv y : Lv} : Lim P Γ d fn at_ lv = some y ↔ ∃ n, J P Γ d fn n at_ lv = some y := by
  unfold Lim
  split
  · rename_i h
    obtain ⟨n, hn⟩ := h.choose_spec
    constructor
    · intro e; cases e; exact ⟨n, hn⟩
    · rintro ⟨m, hm⟩
      have h1 := J_le (Nat.le_max_left n m) hn
      have h2 := J_le (Nat.le_max_right n m) hm
      exact h1.symm.trans h2
  · rename_i h
    constructor
    · intro e; cases e
    · rintro ⟨m, hm⟩; exact absurd ⟨y, m, hm⟩ h
theorem zd (at_ : Option Nat) (lv : Lv) : Lim P Γ d fn at_ lv = seg P Γ d fn (fun id lv => Lim P Γ d fn (some id) lv) at_ lv := by
  apply Option.ext
  intro y
  rw [zhc]
  rcases zhy (P := P) (Γ := Γ) (d := d) (fn := fn) at_ lv with ⟨r, hr⟩ | ⟨id, lv', hr⟩
  · rw [hr]
    constructor
    · rintro ⟨n, hn⟩
      cases n with
      | zero => simp [J] at hn
      | succ n => simp only [J] at hn; rw [hr] at hn; exact hn
    · intro h; exact ⟨1, by simp only [J]; rw [hr]; exact h⟩
  · rw [hr, zhc]
    constructor
    · rintro ⟨n, hn⟩
      cases n with
      | zero => simp [J] at hn
      | succ n => simp only [J] at hn; rw [hr] at hn; exact ⟨n, hn⟩
    · rintro ⟨n, hn⟩; exact ⟨n + 1, by simp only [J]; rw [hr]; exact hn⟩
theorem zf (hΓ : Known P Γ) (hm : P.follows .mixedOrders = true) (hfn : P.funcs[d.fn]? = some fn) (hok : d.ok fn = true) : SigOk P (d.sig (Lim P Γ d fn none)) ∧ (d.sig (Lim P Γ d fn none)).ok = true :=
  sound hΓ hm hfn hok fun x y h => zhc.1 h
end Go.Eng
end
section
namespace Go.Eng
open Go
def fnOkB (P : Program) (f : FuncId) : Bool := match P.funcs[f]? with
  | some fn => !(fn.name == "runtime.NumGoroutine") && fn.body.isSome
  | none => false
theorem zmw {P : Program} {f : FuncId} (h : fnOkB P f = true) : fnOk P f := by
  unfold fnOkB at h
  unfold fnOk
  cases hf : P.funcs[f]? with
  | none => rw [hf] at h; cases h
  | some fn =>
    rw [hf] at h
    simp only [Bool.and_eq_true, Bool.not_eq_true'] at h
    obtain ⟨c, hc⟩ := Option.isSome_iff_exists.1 h.2
    exact ⟨fn, c, rfl, h.1, hc⟩
theorem ze {P : Program} : Known P [] := fun s h => by cases h
theorem zb {P : Program} {s : Sig} {Γ : List Sig} (h : SigOk P s ∧ s.ok = true) (hf : fnOkB P s.fn = true) (hΓ : Known P Γ) : Known P (s :: Γ) := fun s' h' => by
  rcases List.mem_cons.1 h' with rfl | h'
  · exact ⟨h.1, h.2, zmw hf⟩
  · exact hΓ s' h'
end Go.Eng
end
section
namespace Go.Eng
open Go Go.Sort Go.Proofs
def strs (xs : Rw) : List (List UInt8) := xs.map fun r => (r.getD 0 (.i 0)).str.data.toList
def sortS (ss : List (List UInt8)) : List (List UInt8) := ss.mergeSort fun x y => decide (x ≤ y)
def sortRw (xs : Rw) : Rw := (sortS (strs xs)).map fun l => [.s ⟨l.toArray⟩]
def sortF (lv : Lv) : Option Lv := cond (decide ((g lv 0).list.length ≤ most)) (some [.l (sortRw (g lv 0).list)]) none
def sortD (f : Nat) (e : TypeId) : FD := { fn := f, nb := 1, pre := ⟨[.sc (.ow 0)], [.rw e false 0]⟩, post := ⟨[.tu []], [.rw e false 0]⟩, sh := true, cuts := [] }
theorem zif (xs : Rw) : (strs xs).length = xs.length := by simp [strs]
theorem zl6 (ss : List (List UInt8)) : (sortS ss).length = ss.length := by simp [sortS, List.length_mergeSort]
theorem zex (xs : Rw) : (sortRw xs).length = xs.length := by simp [sortRw, zl6, zif]
theorem zm5 : sortRw [] = [] := List.eq_nil_of_length_eq_zero (by rw [zex]; rfl)
def SortSays (P : Program) (f : Nat) : Prop := ∀ (blk off cap : Nat) (ss : List (List UInt8)) (w : World), Holds encStr w blk off ss.toArray → blk < w.heap.size → ss.length < 4611686018427387904 →
  Calls P f #[.slice (some ⟨blk, off, none⟩) ss.length cap] w fun e w' => e = .returned (.tuple #[]) ∧ ∃ n os, w' = grow (putRow encStr (Sort.ahead w n) blk off (ss.mergeSort fun x y => decide (x ≤ y)).toArray) os
def SortNil (P : Program) (f : Nat) : Prop := ∀ (p : Option Addr) (cap : Nat) (w : World), Calls P f #[.slice p 0 cap] w fun e w' => e = .returned (.tuple #[]) ∧ w' = w
theorem zm3 {P : Program} {f : Nat} {e : TypeId} (he : esz P e = 1) (hk : ck P e 0 = .s) (h1 : SortSays P f) (h2 : SortNil P f) :
    SigOk P ((sortD f e).sig sortF) ∧ ((sortD f e).sig sortF).ok = true := by
  refine ⟨fun w args x y X0 hX hob hF H hv hf => ?_, by simp [Sig.ok, FD.sig, sortD, Pat.nf, PV.nf, PS.nf, PO.nf, stays, PV.tr, Pat.tr]⟩
  have ho0 : X0.ob 0 = .rw e false (g x 0).list 0 := by rw [hob]; rfl
  have hoS : ∀ j, j ≠ 0 → X0.ob j = .dead := fun j hj => by
    rw [hob]
    show obOf [.rw e false 0] x j = .dead
    unfold obOf
    cases j with
    | zero => exact absurd rfl hj
    | succ j => rfl
  generalize hxs : (g x 0).list = xs at ho0
  have hlen : xs.length ≤ most := by
    by_cases h : xs.length ≤ most
    · exact h
    · have : sortF x = none := by unfold sortF; rw [hxs, decide_eq_false h]; rfl
      have hf' : sortF x = some y := hf
      rw [this] at hf'; cases hf'
  have hy : y = [.l (sortRw xs)] := by
    have hf' : sortF x = some y := hf
    unfold sortF at hf'
    rw [hxs, decide_eq_true hlen] at hf'
    cases hf'; rfl
  subst hy
  have hv' : ∃ v, args = [v] ∧ RS P X0 (.ow 0 0) v := by
    cases hv with
    | cons a b => cases b; exact ⟨_, rfl, a⟩
  obtain ⟨v, rfl, hr1, hr2⟩ := hv'
  have hr2' : v = .slice (slAddr P e (X0.β 0) 0) xs.length (X0.β 0).cap := by
    unfold RefRw at hr2
    rw [ho0] at hr2
    exact hr2.2 rfl
  have hok := H.ok 0
  unfold AOok at hok
  rw [ho0] at hok
  have own0 : ∀ id, Own X0 id → id = 0 := fun id h => by
    by_cases e0 : id = 0
    · exact e0
    · unfold Own at h; rw [hoS id e0] at h; exact h.elim
  rcases hok with ⟨hn, hx0, hc⟩ | ⟨hn, hle, hfr, cs, ty, hcs, hcap, hrow⟩
  · subst hx0
    have : v = .slice none 0 0 := by rw [hr2', hc]; simp [slAddr, hn]
    subst this
    refine (h2 none 0 w).mono fun e' w' hw => ?_
    obtain ⟨rfl, rfl⟩ := hw
    refine ⟨_, X0, _, rfl, rfl, ?_, ⟨_, rfl, .nil⟩, H, hX, rfl, rfl, rfl, Nat.le_refl _, fun _ _ _ => rfl, fun id h => .inr ⟨id, h, rfl⟩, fun b h => .inl h, fun j hj => ?_, fun j cells hj hb => ?_⟩
    · rw [hob]
      funext j
      show obOf [.rw e false 0] x j = obOf [.rw e false 0] _ j
      cases j with
      | zero => show AO.rw e false (g x 0).list 0 = .rw e false (sortRw []) 0; rw [hxs, zm5]
      | succ j => rfl
    · have : j = 0 := by have : j < 1 := hj; omega
      subst this
      unfold Keeps
      rw [ho0]
      exact .inr (.inl ⟨⟨false, [], .inl rfl, rfl⟩, rfl⟩)
    · have : j = 0 := by have : j < 1 := hj; omega
      subst this
      rw [ho0] at hb; cases hb
  have hOwn : Own X0 0 := by unfold Own; rw [ho0]; exact hn
  have hblk := Own.lt H hOwn
  rw [he, Nat.mul_one] at hcap
  have hoff : slAddr P e (X0.β 0) 0 = some ⟨(X0.β 0).blk, (X0.β 0).off, none⟩ := by
    simp [slAddr, hn]
  rw [hoff] at hr2'
  have hsl : (strs xs).length = xs.length := zif xs
  have hH : Holds encStr w (X0.β 0).blk (X0.β 0).off (strs xs).toArray := by
    intro j hj
    have hj' : j < xs.length := by rw [← hsl]; simpa using hj
    obtain ⟨u, hu, hcell⟩ := hrow j hj' 0 (by rw [he]; exact Nat.one_pos)
    rw [hk] at hcell
    rw [he, Nat.mul_one, Nat.add_zero] at hu
    have hcell' : u = .string (rd xs j 0).str := hcell
    have hcs' : w.heap[(X0.β 0).blk]? = some (.cells cs ty (0, 0)) := by rw [← hX]; exact hcs
    have hsome : (strs xs).toArray[j]! = (rd xs j 0).str.data.toList := by
      rw [getElem!_pos _ j hj, List.getElem_toArray]
      have h0 : (strs xs)[j]? = some (rd xs j 0).str.data.toList := by
        show (xs.map fun r => (r.getD 0 (.i 0)).str.data.toList)[j]? = _
        rw [List.getElem?_map, List.getElem?_eq_getElem hj']
        show some _ = some _
        congr 4
        rw [List.getD_eq_getElem?_getD, List.getElem?_eq_getElem hj']
        rfl
      exact Option.some.inj ((List.getElem?_eq_getElem _).symm.trans h0)
    refine ⟨?_, ?_⟩
    · simp only [World.cell?, hcs', hsome]
      rw [hu, hcell']
      rfl
    · simp [World.frozen?, hcs']
  have hc := h1 (X0.β 0).blk (X0.β 0).off (X0.β 0).cap (strs xs) w hH (by rw [← hX]; exact hblk) (by rw [hsl]; unfold most at hlen; omega)
  rw [hsl, ← hr2'] at hc
  refine hc.mono fun e' w' hw => ?_
  obtain ⟨rfl, n, os, rfl⟩ := hw
  have hhp : (grow (putRow encStr (Sort.ahead w n) (X0.β 0).blk (X0.β 0).off ((strs xs).mergeSort fun x y => decide (x ≤ y)).toArray) os).heap = w.heap.modify (X0.β 0).blk (onCells (putCells encStr (X0.β 0).off (sortS (strs xs)).toArray)) ++ os := rfl
  generalize hwe : grow (putRow encStr (Sort.ahead w n) (X0.β 0).blk (X0.β 0).off ((strs xs).mergeSort fun x y => decide (x ≤ y)).toArray) os = w' at hhp ⊢
  have hos : w'.os = w.os ∧ w'.tape = w.tape ∧ w'.output = w.output := by rw [← hwe]; exact ⟨rfl, rfl, rfl⟩
  have hcs' : w.heap[(X0.β 0).blk]? = some (.cells cs ty (0, 0)) := by rw [← hX]; exact hcs
  have hblk' : (X0.β 0).blk < w.heap.size := by rw [← hX]; exact hblk
  have hother : ∀ b, b < w.heap.size → b ≠ (X0.β 0).blk → w'.heap[b]? = w.heap[b]? := fun b hb hne => by
    rw [hhp, Array.getElem?_append_left (by simpa using hb), Array.getElem?_modify, if_neg (fun h => hne h.symm)]
  have hthis : w'.heap[(X0.β 0).blk]? = some (.cells (putCells encStr (X0.β 0).off (sortS (strs xs)).toArray cs) ty (0, 0)) := by
    rw [hhp, Array.getElem?_append_left (by simpa using hblk'), Array.getElem?_modify, if_pos rfl, hcs']
    rfl
  have hsz : w.heap.size ≤ w'.heap.size := by rw [hhp]; simp
  let X' : Cx := ⟨X0.β, X0.F, obOf [.rw e false 0] [.l (sortRw xs)], w'.heap⟩
  have hoX : ∀ j, j ≠ 0 → X'.ob j = .dead := fun j hj => by
    show obOf [.rw e false 0] _ j = .dead
    unfold obOf
    cases j with
    | zero => exact absurd rfl hj
    | succ j => rfl
  have ho0' : X'.ob 0 = .rw e false (sortRw xs) 0 := rfl
  have ownX : ∀ id, Own X' id → id = 0 := fun id h => by
    by_cases e0 : id = 0
    · exact e0
    · unfold Own at h; rw [hoX id e0] at h; exact h.elim
  have hHp : Heap P (kx X0) X' := by
    refine ⟨fun id => ?_, fun id id' h h' _ => (ownX _ h).trans (ownX _ h').symm, fun id h => ?_, fun id h => ?_, fun id h => ?_, H.Fle, H.Ffr, fun b hb => ?_, H.Rsz, ?_⟩
    · by_cases e0 : id = 0
      · subst e0
        unfold AOok
        rw [ho0']
        refine .inr ⟨hn, by rw [zex]; exact hle, (fun h => by cases h), _, ty, hthis, ?_, fun i hi o ho => ?_⟩
        · rw [he, Nat.mul_one]
          simpa [putCells] using hcap
        · rw [he] at ho
          have : o = 0 := by omega
          subst this
          rw [zex] at hi
          have hi2 : i < (sortS (strs xs)).length := by rw [zl6, hsl]; exact hi
          rw [he, Nat.mul_one, Nat.add_zero, hk]
          have hlt : (X0.β 0).off + i < cs.size := by omega
          refine ⟨encStr ((sortS (strs xs)).toArray[i]!), ?_, ?_⟩
          · show (putCells encStr (X0.β 0).off (sortS (strs xs)).toArray cs)[(X0.β 0).off + i]? = _
            unfold putCells
            rw [Array.getElem?_mapIdx, Array.getElem?_eq_getElem hlt]
            simp only [Option.map_some]
            rw [if_pos ⟨by omega, by simp; omega⟩, Nat.add_sub_cancel_left]
          · show _ = _
            have : rd (sortRw xs) i 0 = .s ⟨((sortS (strs xs))[i]).toArray⟩ := by
              have h0 : (sortRw xs)[i]? = some [.s ⟨((sortS (strs xs))[i]).toArray⟩] := by
                unfold sortRw
                rw [List.getElem?_map, List.getElem?_eq_getElem hi2]
                rfl
              show ((sortRw xs).getD i []).getD 0 (.i 0) = _
              have h5 : (sortRw xs).getD i [] = [.s ⟨((sortS (strs xs))[i]).toArray⟩] := by rw [List.getD_eq_getElem?_getD, h0]; rfl
              rw [h5]
              rfl
            rw [this, getElem!_pos _ i (by simpa using hi2)]
            rfl
      · unfold AOok; rw [hoX id e0]; trivial
    · rw [ownX _ h]; exact H.nF 0 hOwn
    · rw [ownX _ h]; exact H.nR 0 hOwn
    · rw [ownX _ h]; exact H.oM 0 hOwn
    · exact Nat.lt_of_lt_of_le (H.Fsz b hb) (by rw [hX]; exact hsz)
    · show X0.h.size ≤ w'.heap.size; rw [hX]; exact hsz
  refine ⟨_, X', _, rfl, rfl, rfl, ⟨_, rfl, .nil⟩, hHp, rfl, hos.1, hos.2.1, hos.2.2, by show X0.h.size ≤ w'.heap.size; rw [hX]; exact hsz, fun b hb hne => ?_, fun id h => ?_, fun b h => .inl h, fun j hj => ?_, fun j cells hj hb => ?_⟩
  · show w'.heap[b]? = X0.h[b]?
    rw [hX]
    exact hother b (by rw [← hX]; exact hb) (fun h => hne 0 hOwn h.symm)
  · exact .inr ⟨0, hOwn, by rw [ownX _ h]⟩
  · have : j = 0 := by have : j < 1 := hj; omega
    subst this
    unfold Keeps
    rw [ho0]
    exact .inr (.inl ⟨⟨_, _, .inl ho0', zex xs⟩, rfl⟩)
  · have : j = 0 := by have : j < 1 := hj; omega
    subst this
    rw [ho0] at hb; cases hb
theorem zm9 {ss : List (List UInt8)} (h : ss.Pairwise (· ≤ ·)) : sortS ss = ss := by
  unfold sortS
  exact List.mergeSort_of_pairwise (by simpa using h)
end Go.Eng
end
