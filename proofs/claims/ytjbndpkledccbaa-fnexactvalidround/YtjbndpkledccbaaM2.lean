/- The reckoner: symbolic steps over the model's code, proved sound. -/
import Derived.Test.YtjbndpkledccbaaM1
set_option linter.unusedSimpArgs false
set_option linter.unusedVariables false
set_option linter.unusedSectionVars false
section
namespace Go.Eng
open Go
section
variable {P : Program} {K : Kx} {X : Cx} {w : World} {lk : Lk}
theorem zb4 {e : TypeId} (h : rowOk P e = true) : ∃ i z za, P.info? e = some i ∧ i.zero = some z ∧ zero P e = some za ∧ RSs P X za.cells z.cells.toList ∧ za.cells.length = esz P e ∧ z.cells.size = esz P e ∧ 0 < esz P e := by
  unfold rowOk at h
  split at h
  · rename_i za hz
    simp only [Bool.and_eq_true, Bool.not_eq_true'] at h
    obtain ⟨h1, h2⟩ := h
    obtain ⟨i, z, e1, e2, e3⟩ := zdk hz
    have h0 : 0 < esz P e := by
      rcases Nat.eq_zero_or_pos (esz P e) with h0 | h0
      · rw [h0] at h2; simp at h2
      · exact h0
    have hl := zb h1
    have hr : RV P X za z := by rw [e3]; exact zcy z
    have hc := hr.cells fun h => by rw [h] at hl; simp at hl; omega
    exact ⟨i, z, za, e1, e2, hz, hc, hl, by have := hc.length; rw [hl] at this; simpa using this.symm, h0⟩
  · cases h
theorem zli (H : Heap P K X) (hX : X.h = w.heap) (hlk : ∀ id, lk id = X.ob id ∨ lk id = .dead) {e : TypeId} (h0 : 0 < esz P e) {x : AS} {v : Value} (hx : RS P X x v) {f : Bool} {ys : Rw} (h : asrc P lk e x = some (f, ys)) :
    ∃ news, Src P w (esz P e) ys.length v news ∧ RowAt P (Con P X.h (X.F f) 7) e news.toArray 0 ys := by
  have key : ∀ {x : AS}, RS P X x v → (match content lk x with | some (e', fr, ys, ids) => cond (fits e e' && shal lk ids) (some (fr || flat P e, ys)) none | none => none) = some (f, ys) →
      ∃ news, Src P w (esz P e) ys.length v news ∧ RowAt P (Con P X.h (X.F f) 7) e news.toArray 0 ys := by
    intro x hx h
    split at h
    · rename_i e' fr ys' ids hc
      cases hb : (fits e e' && shal lk ids) <;> simp only [hb, cond_false, cond_true] at h
      · cases h
      cases h
      simp only [Bool.and_eq_true] at hb
      obtain ⟨news, n1, n2⟩ := zl7 hX h0 (zhu H hlk hx hc (zgj hb.2) hb.1)
      refine ⟨news, n1, ?_⟩
      cases hf : flat P e
      · simpa using n2
      · exact n2.flat hf
    · cases h
  cases x <;> simp only [asrc] at h <;> try exact key hx h
  rename_i z
  split at h
  · rename_i hk h1
    cases h
    simp only [RS] at hx
    subst hx
    exact zjo h1 hk z _
  · cases h
theorem RowD.ones {h : Array Obj} {γ : Nat → Loc} {e : TypeId} {news : List Value} {xs : Rw} (hr : RowD P h γ e news.toArray 0 xs 0) (hl : news.length = xs.length * esz P e) : ∀ v ∈ news, v.oneCell' = true := by
  intro v hv
  obtain ⟨j, hj, rfl⟩ := List.getElem_of_mem hv
  have h0 : 0 < esz P e := by
    rcases Nat.eq_zero_or_pos (esz P e) with h0 | h0
    · rw [h0, Nat.mul_zero] at hl; omega
    · exact h0
  have hdm := Nat.div_add_mod j (esz P e)
  have hlt := Nat.mod_lt j h0
  have hi : j / esz P e < xs.length := Nat.div_lt_of_lt_mul (by rw [Nat.mul_comm]; omega)
  obtain ⟨v, a, b⟩ := hr (j / esz P e) (Nat.zero_le _) hi (j % esz P e) hlt
  have e1 : 0 + j / esz P e * esz P e + j % esz P e = j := by rw [Nat.zero_add, Nat.mul_comm]; exact hdm
  rw [e1] at a
  have hv : news[j] = v := by
    have : news[j]? = some v := by simpa using a
    rw [List.getElem?_eq_getElem hj] at this
    exact Option.some.inj this
  rw [hv]
  cases hk : ck P e (j % esz P e) <;> rw [hk] at b
  · simp only [CellOk] at b; rw [b]; rfl
  · simp only [CellOk] at b; rw [b]; rfl
  · simp only [CellOk] at b; rw [b]; rfl
  · rcases b with ⟨_, _, _, rfl⟩ | ⟨_, rfl, _⟩ <;> rfl
  · exact b.elim
theorem RowD.cat {h : Array Obj} {γ1 γ2 : Nat → Loc} {e : TypeId} {us vs : List Value} {xs ys : Rw} (h1 : RowD P h γ1 e us.toArray 0 xs 0) (h2 : RowD P h γ2 e vs.toArray 0 ys 0) (hl : us.length = xs.length * esz P e)
    {cs : Array Value} {off : Nat} (hc : ∀ j, j < (xs.length + ys.length) * esz P e → cs[off + j]? = (us ++ vs)[j]?) : RowD P h (fun i => if i < xs.length then γ1 i else γ2 (i - xs.length)) e cs off (xs ++ ys) 0 := by
  intro i _ hi o ho
  rw [List.length_append] at hi
  have hlt : i * esz P e + o < (xs.length + ys.length) * esz P e := by
    have := Nat.mul_le_mul_right (esz P e) (show i + 1 ≤ xs.length + ys.length from hi)
    rw [Nat.add_mul] at this; omega
  rw [Nat.add_assoc, hc _ hlt]
  by_cases hix : i < xs.length
  · obtain ⟨v, a, b⟩ := h1 i (Nat.zero_le _) hix o ho
    have hlt2 : i * esz P e + o < xs.length * esz P e := by
      have := Nat.mul_le_mul_right (esz P e) (show i + 1 ≤ xs.length from hix)
      rw [Nat.add_mul] at this; omega
    refine ⟨v, by rw [List.getElem?_append_left (by omega)]; simpa using a, ?_⟩
    have hrd : rd (xs ++ ys) i o = rd xs i o := by simp [rd, List.getD_eq_getElem?_getD, List.getElem?_append_left hix]
    rw [hrd]
    simpa only [if_pos hix] using b
  · obtain ⟨v, a, b⟩ := h2 (i - xs.length) (Nat.zero_le _) (by omega) o ho
    have hm : i * esz P e + o = us.length + ((i - xs.length) * esz P e + o) := by
      rw [hl, ← Nat.add_assoc, ← Nat.add_mul]; congr 2; omega
    refine ⟨v, by rw [hm, List.getElem?_append_right (by omega)]; simpa using a, ?_⟩
    have hrd : rd (xs ++ ys) i o = rd ys (i - xs.length) o := by simp [rd, List.getD_eq_getElem?_getD, List.getElem?_append_right (by omega : xs.length ≤ i)]
    rw [hrd]
    simpa only [if_neg hix] using b
theorem cutD (hX : X.h = w.heap) {e : TypeId} (h0 : 0 < esz P e) {γ : Nat → Loc} {xs : Rw} {lo l h cap : Nat} {A : Option Addr} {L : Loc} (hL : L.cap = cap) (hA : A = slAddr P e L l) (h1 : lo ≤ l) (h2 : l ≤ h) (h3 : h ≤ xs.length) (hcap : xs.length ≤ cap)
    {cs : Array Value} {ty : TypeId} (hc : X.h[L.blk]? = some (.cells cs ty (0, 0))) (hn : L.nil = false) (hr : RowD P X.h γ e cs L.off xs lo) :
    ∃ news : List Value, Src P w (esz P e) (h - l) (.slice A (h - l) (cap - l)) news ∧ RowD P X.h (fun i => γ (i + l)) e news.toArray 0 (Eng.sub xs l h) 0 ∧ (∀ j, j < (h - l) * esz P e → cs[L.off + l * esz P e + j]? = news[j]?) := by
  have hsl := zbd (lo := l) h3
  by_cases hne : h - l = 0
  · refine ⟨[], ⟨fun _ => rfl, fun w' hw => ?_, by simp [hne]⟩, fun i _ hi => by rw [hsl, hne] at hi; omega, fun j hj => by rw [hne] at hj; omega⟩
    rw [hne]
    cases A with
    | none => simp [Builtin.firstCells]
    | some a => simp [Builtin.firstCells, loadCells, loadCellsFrom]
  · have hsz : L.off + h * esz P e ≤ cs.size := by
      obtain ⟨v, a, _⟩ := hr (h - 1) (by omega) (by omega) (esz P e - 1) (by omega)
      have := (Array.getElem?_eq_some_iff.1 a).1
      have e1 : h * esz P e = (h - 1) * esz P e + esz P e := by rw [← Nat.succ_mul]; congr 1; omega
      omega
    have hm : l * esz P e + (h - l) * esz P e = h * esz P e := by rw [← Nat.add_mul]; congr 1; omega
    have hg : ∀ j, j < (h - l) * esz P e → cs[L.off + l * esz P e + j]? = ((cs.toList.drop (L.off + l * esz P e)).take ((h - l) * esz P e))[j]? := by
      intro j hj
      rw [List.getElem?_take_of_lt hj, List.getElem?_drop]; simp
    have hlen : ((cs.toList.drop (L.off + l * esz P e)).take ((h - l) * esz P e)).length = (h - l) * esz P e := by
      simp; omega
    refine ⟨(cs.toList.drop (L.off + l * esz P e)).take ((h - l) * esz P e), ⟨fun _ => rfl, fun w' hw => ?_, hlen⟩, fun i _ hi o ho => ?_, hg⟩
    · have hA' : A = some ⟨L.blk, L.off + l * esz P e, none⟩ := by
        rw [hA]; unfold slAddr
        rw [hn, if_neg (by simp), if_neg (by omega)]
      subst hA'
      refine run_firstCells_some w' _ _ _ _ _ _ hlen fun j v hj => ?_
      rw [zba, zbx (by rw [hw, ← hX]; exact hc)]
      have hlt : j < (h - l) * esz P e := by
        rcases Nat.lt_or_ge j ((h - l) * esz P e) with hx | hx
        · exact hx
        · rw [List.getElem?_eq_none (by omega)] at hj; cases hj
      rw [hg j hlt]; exact hj
    · rw [hsl] at hi
      obtain ⟨v, a, b⟩ := hr (i + l) (by omega) (by omega) o ho
      have hlt : i * esz P e + o < (h - l) * esz P e := by
        have := Nat.mul_le_mul_right (esz P e) (show i + 1 ≤ h - l from hi)
        rw [Nat.add_mul] at this; omega
      refine ⟨v, ?_, ?_⟩
      · rw [Nat.zero_add, List.getElem?_toArray, ← hg _ hlt, ← a]; congr 1
        rw [Nat.add_mul]; omega
      · rw [Eng.rd_sub (by omega), Nat.add_comm l i]
        exact b
def Cx.rowD (X : Cx) (id id2 : Nat) (l : Loc) (o o2 : AO) (h : Array Obj) (γn : Nat → Loc) : Cx := ⟨upd X.β id l, X.F, upd (upd X.ob id2 o2) id o, h, upd X.γ id γn⟩
theorem Stp.rowD {id id2 : Nat} {e : TypeId} {c : Option (Nat × TypeId)} {zs : Rw} {ser iv : Nat} {l : Loc} {γn : Nat → Loc} {o2 : AO} {w' : World} {b0 : Option Nat} (H : Heap P K X) (hX : X.h = w.heap) (hne : id2 ≠ id) (hdk : Dk P e c)
    (hst : X.ob id = .dead ∨ ∃ xs0 ser0 lo0 iv0, X.ob id = .dw e c xs0 ser0 lo0 iv0 ∧ ser0 < ser ∧ iv0 < iv)
    (h2 : ∃ ys ser2 lo2 iv2, X.ob id2 = .dw e c ys ser2 lo2 iv2 ∧ (o2 = .gone ∨ ∃ lo3 iv3, o2 = .dw e c ys ser2 lo3 iv3 ∧ lo2 ≤ lo3 ∧ lo3 ≤ ys.length ∧ iv2 < iv3))
    (hS : (l.nil = true ∧ zs = [] ∧ l.cap = 0 ∧ w'.heap = w.heap) ∨ (l.nil = false ∧ zs.length ≤ l.cap ∧ (∃ cs ty, w'.heap[l.blk]? = some (.cells cs ty (0, 0)) ∧ l.off + l.cap * esz P e ≤ cs.size ∧ Eng.RowD P w'.heap γn e cs l.off zs 0) ∧
      ((b0 = some l.blk ∧ w'.heap.size = w.heap.size ∧ ∀ b, b ≠ l.blk → w'.heap[b]? = w.heap[b]?) ∨ (l.blk = w.heap.size ∧ w'.heap.size = w.heap.size + 1 ∧ ∀ b, b < w.heap.size → w'.heap[b]? = w.heap[b]?))))
    (hb0 : ∀ b, b0 = some b → Own X id ∧ (X.β id).blk = b) (hap : Apart γn l.blk c zs 0)
    (hin : ∀ b, InB (X.rowD id id2 l (.dw e c zs ser 0 iv) o2 w'.heap γn) id b → Has X id b ∨ (Has X id2 b ∧ ¬ Has (X.rowD id id2 l (.dw e c zs ser 0 iv) o2 w'.heap γn) id2 b))
    (h1 : w'.os = w.os) (h3 : w'.tape = w.tape) (h4 : w'.output = w.output) : Stp P K X w (X.rowD id id2 l (.dw e c zs ser 0 iv) o2 w'.heap γn) w' := by
  have hsz : X.h.size = w.heap.size := by rw [hX]
  obtain ⟨ys, ser2, lo2, iv2, ho2, ho2'⟩ := h2
  have hob : (X.rowD id id2 l (.dw e c zs ser 0 iv) o2 w'.heap γn).ob id = .dw e c zs ser 0 iv := upd_same _ _ _
  have hob2 : (X.rowD id id2 l (.dw e c zs ser 0 iv) o2 w'.heap γn).ob id2 = o2 := (zh _ _ hne).trans (upd_same _ _ _)
  have hβ2 : (X.rowD id id2 l (.dw e c zs ser 0 iv) o2 w'.heap γn).β id2 = X.β id2 := zh _ _ hne
  have hγ2 : (X.rowD id id2 l (.dw e c zs ser 0 iv) o2 w'.heap γn).γ id2 = X.γ id2 := zh _ _ hne
  have hβ : (X.rowD id id2 l (.dw e c zs ser 0 iv) o2 w'.heap γn).β id = l := upd_same _ _ _
  have hγ : (X.rowD id id2 l (.dw e c zs ser 0 iv) o2 w'.heap γn).γ id = γn := upd_same _ _ _
  have hold2 : ∀ b, Has (X.rowD id id2 l (.dw e c zs ser 0 iv) o2 w'.heap γn) id2 b → Has X id2 b := by
    intro b ⟨k1, k2⟩
    unfold Own at k1
    unfold InB at k2
    rw [hob2] at k1 k2
    rw [hβ2] at k1 k2
    rw [hγ2] at k2
    rcases ho2' with rfl | ⟨lo3, iv3, rfl, q1, q2, q3⟩
    · exact k1.elim
    · refine ⟨by unfold Own; rw [ho2]; exact k1, k2.imp (fun q => q) fun ⟨k, e', hc, i, i1, i2, i3, i4⟩ => ?_⟩
      unfold InB; rw [ho2]
      exact ⟨k, e', hc, i, by omega, i2, i3, i4⟩
  have hnew : ∀ b, Has (X.rowD id id2 l (.dw e c zs ser 0 iv) o2 w'.heap γn) id b → Has X id b ∨ X.h.size ≤ b ∨ (Has X id2 b ∧ ¬ Has (X.rowD id id2 l (.dw e c zs ser 0 iv) o2 w'.heap γn) id2 b) := by
    intro b ⟨k1, k2⟩
    rcases k2 with k2 | k2
    · unfold Own at k1
      rw [hob] at k1
      rw [hβ] at k1 k2
      subst k2
      rcases hS with ⟨h, _⟩ | ⟨_, _, _, ⟨hb1, _, _⟩ | ⟨h, _, _⟩⟩
      · rw [k1] at h; cases h
      · obtain ⟨q1, q2⟩ := hb0 _ hb1
        exact .inl ⟨q1, .inl q2.symm⟩
      · exact .inr (.inl (by omega))
    · exact (hin b k2).imp (fun q => q) .inr
  have hkeep : ∀ b, Has X id2 b → w'.heap[b]? = X.h[b]? := by
    intro b hb
    rw [hX]
    rcases hS with ⟨_, _, _, h⟩ | ⟨_, _, _, ⟨hb1, _, h⟩ | ⟨_, _, h⟩⟩
    · rw [h]
    · obtain ⟨q1, q2⟩ := hb0 _ hb1
      exact h b fun hq => hne (H.inj id2 id b hb (by rw [hq, ← q2]; exact q1.has))
    · exact h b (by have := hb.lt H; omega)
  have T : Turn P K X (X.rowD id id2 l (.dw e c zs ser 0 iv) o2 w'.heap γn) (fun i => i = id ∨ i = id2) := by
    refine ⟨fun fr b h => h, H.Fle, H.Ffr, fun b h => .inl h, ?_, fun b hb hno => ?_, fun i h => ?_, fun i h => zh _ _ fun q => h (.inl q), fun i h => zh _ _ fun q => h (.inl q), fun i h => ?_, fun i b h ho => ?_, fun i i' b h h' k k' => ?_⟩
    · show _ ≤ w'.heap.size
      rcases hS with ⟨_, _, _, h⟩ | ⟨_, _, _, ⟨_, h, _⟩ | ⟨_, h, _⟩⟩ <;> rw [hsz] <;> first | (rw [h]; exact Nat.le_refl _) | omega
    · show w'.heap[b]? = _
      rw [hX]
      rcases hS with ⟨_, _, _, h⟩ | ⟨_, _, _, ⟨hb1, _, h⟩ | ⟨_, _, h⟩⟩
      · rw [h]
      · obtain ⟨q1, q2⟩ := hb0 _ hb1
        exact h b fun hq => hno id (.inl rfl) (by rw [hq, ← q2]; exact q1.has)
      · exact h b (by omega)
    · exact (zh _ _ fun q => h (.inl q)).trans (zh _ _ fun q => h (.inr q))
    · rcases h with rfl | rfl
      · unfold Keeps
        rcases hst with h | ⟨xs0, ser0, lo0, iv0, h, hl1, hl2⟩ <;> rw [h]
        · trivial
        · exact .inr (.inr (.inl ⟨zs, ser, 0, iv, hob, Nat.le_of_lt hl1, Nat.le_of_lt hl2, fun q => by omega, fun q => by omega⟩))
      · unfold Keeps
        rw [ho2]
        rcases ho2' with rfl | ⟨lo3, iv3, rfl, q1, q2, q3⟩
        · exact .inl hob2
        · exact .inr (.inr (.inl ⟨ys, ser2, lo3, iv3, hob2, Nat.le_refl _, Nat.le_of_lt q3, fun _ => ⟨rfl, hβ2, fun _ => hγ2⟩, fun q => by omega⟩))
    · rcases h with rfl | rfl
      · rcases hnew b ho with q | q | ⟨q, _⟩
        · exact ⟨.inr ⟨i, .inl rfl, q⟩, H.nF i b q⟩
        · exact ⟨.inl q, fun hF => by have := H.Fsz _ hF; omega⟩
        · exact ⟨.inr ⟨id2, .inr rfl, q⟩, H.nF id2 b q⟩
      · exact ⟨.inr ⟨i, .inr rfl, hold2 b ho⟩, H.nF i b (hold2 b ho)⟩
    · have key : Has (X.rowD id id2 l (.dw e c zs ser 0 iv) o2 w'.heap γn) id b → Has (X.rowD id id2 l (.dw e c zs ser 0 iv) o2 w'.heap γn) id2 b → False := by
        intro a a2
        rcases hnew b a with q | q | ⟨_, q⟩
        · exact hne (H.inj id2 id b (hold2 b a2) q)
        · have := (hold2 b a2).lt H; omega
        · exact q a2
      rcases h with rfl | rfl <;> rcases h' with rfl | rfl
      · rfl
      · exact (key k k').elim
      · exact (key k' k).elim
      · rfl
  refine T.stp H (fun i h => ?_) rfl h1 h3 h4 (fun i cells h hc => ?_)
  · rcases h with rfl | rfl
    · unfold AOok
      rw [hob, hβ, hγ]
      refine ⟨hdk, ?_⟩
      rcases hS with ⟨q1, q2, q3, _⟩ | ⟨q1, q2, q3, _⟩
      · exact .inl ⟨q1, q2, q3⟩
      · exact .inr ⟨q1, q2, Nat.zero_le _, q3, hap⟩
    · unfold AOok
      rw [hob2, hβ2, hγ2]
      rcases ho2' with rfl | ⟨lo3, iv3, rfl, q1, q2, q3⟩
      · trivial
      · have hok := H.ok i
        unfold AOok at hok
        rw [ho2] at hok
        obtain ⟨_, hok | ⟨p1, p2, p3, ⟨cs, ty, p4, p5, p6⟩, p7⟩⟩ := hok
        · exact ⟨hdk, .inl hok⟩
        · have hown : Own X i := by unfold Own; rw [ho2]; exact p1
          refine ⟨hdk, .inr ⟨p1, p2, q2, ⟨cs, ty, (hkeep _ hown.has).trans p4, p5, ?_⟩, fun k e' hc j j1 j2 j3 => ?_⟩⟩
          · have p6' : Eng.RowD P X.h (X.γ i) e cs (X.β i).off ys lo3 := fun j j1 j2 => p6 j (by omega) j2
            refine p6'.keep hdk fun k e' hc j j1 j2 j3 => hkeep _ ⟨hown, .inr ?_⟩
            subst hc
            exact InB.of ho2 (by omega) j2 j3
          · obtain ⟨r1, r2⟩ := p7 k e' hc j (by omega) j2 j3
            exact ⟨r1, fun j' j1' => r2 j' (by omega)⟩
  · rcases h with rfl | rfl
    · rcases hst with h | ⟨xs0, ser0, lo0, iv0, h, _⟩ <;> rw [h] at hc <;> cases hc
    · rw [ho2] at hc; cases hc
theorem zdb (H : Heap P K X) (hX : X.h = w.heap) {st u ty e : TypeId} {d : TypeDesc} (hu : P.underlying u = some d) (hdk : ∀ k, d ≠ .int k) (he : elOf P st = some e)
    (hby : Nat.ble (ebytes P e) 128 = true) (hro : rowOk P e = true) {id id2 : Nat} (hne : id2 ≠ id) {c : Option (Nat × TypeId)} {xs ys : Rw} {ser iv ser2 lo2 iv2 l h : Nat} {o2 : AO} {A : Option Addr} {c0 : Nat} {vx : Value}
    (ht : (X.ob id = .dead ∧ xs = [] ∧ A = none ∧ c0 = 0) ∨ ∃ ser0 iv0, X.ob id = .dw e c xs ser0 0 iv0 ∧ ser0 < ser ∧ iv0 < iv ∧ A = slAddr P e (X.β id) 0 ∧ c0 = (X.β id).cap)
    (ho2 : X.ob id2 = .dw e c ys ser2 lo2 iv2) (h1 : lo2 ≤ l) (h2 : l ≤ h) (h3 : h ≤ ys.length) (hvx : vx = .slice (slAddr P e (X.β id2) l) (h - l) ((X.β id2).cap - l))
    (ho2' : o2 = .gone ∨ ∃ iv3, o2 = .dw e c ys ser2 h iv3 ∧ iv2 < iv3) (hm : xs.length + (Eng.sub ys l h).length ≤ most) :
    ∃ v w' X', (Builtin.append_ #[st, u] ty #[.slice A xs.length c0, vx]).run P w = .ok v w' ∧ X'.ob = upd (upd X.ob id2 o2) id (.dw e c (xs ++ Eng.sub ys l h) ser 0 iv) ∧ RV P X' (.sc (.ow id ser)) v ∧ Stp P K X w X' w' := by
  have hst := zbq he
  obtain ⟨i, z, za, i1, i2, i3, i4, i5, i6, i7⟩ := zb4 (X := X) hro
  have hby : i.bytes ≤ 128 := by have := Nat.le_of_ble_eq_true hby; simpa [ebytes, i1] using this
  have hsl := zbd (lo := l) h3
  have hok2 := H.ok id2
  unfold AOok at hok2
  rw [ho2] at hok2
  obtain ⟨hd, hok2⟩ := hok2
  have hsrc : ∃ news : List Value, Src P w (esz P e) (h - l) vx news ∧ Eng.RowD P X.h (fun i => X.γ id2 (i + l)) e news.toArray 0 (Eng.sub ys l h) 0 := by
    rcases hok2 with ⟨q1, q2, q3⟩ | ⟨q1, q2, q3, ⟨cs, ty', q4, q5, q6⟩, q7⟩
    · subst q2
      have e1 : h - l = 0 := by simp at h3; omega
      refine ⟨[], ⟨fun _ => by rw [hvx]; rfl, fun w' hw => ?_, by simp [e1]⟩, fun i _ hi => by rw [hsl, e1] at hi; omega⟩
      rw [hvx, e1]
      simp [slAddr, q1, Builtin.firstCells]
    · obtain ⟨news, n1, n2, _⟩ := cutD (w := w) hX i7 (L := X.β id2) rfl rfl h1 h2 h3 q2 q4 q1 q6
      exact ⟨news, by rw [hvx]; exact n1, n2⟩
  obtain ⟨news, n1, n2⟩ := hsrc
  have hbase : ∃ (b0 : Option Nat) (olds : List Value), BaseC P e w b0 A c0 xs.length olds ∧ Eng.RowD P X.h (X.γ id) e olds.toArray 0 xs 0 ∧ olds.length = xs.length * esz P e ∧ (∀ b, b0 = some b → Own X id ∧ (X.β id).blk = b) := by
    rcases ht with ⟨_, rfl, rfl, rfl⟩ | ⟨ser0, iv0, ho, _, _, rfl, rfl⟩
    · exact ⟨none, [], .inl ⟨rfl, rfl, rfl, rfl⟩, fun i _ hi => by simp at hi, by simp, fun b hb => by cases hb⟩
    · have hok := H.ok id
      unfold AOok at hok
      rw [ho] at hok
      obtain ⟨_, ⟨q1, q2, q3⟩ | ⟨q1, q2, q3, ⟨cs, ty', q4, q5, q6⟩, q7⟩⟩ := hok
      · subst q2
        exact ⟨none, [], .inl ⟨by simp [slAddr, q1], rfl, q3, rfl⟩, fun i _ hi => by simp at hi, by simp, fun b hb => by cases hb⟩
      · obtain ⟨olds, m1, m2, m3⟩ := cutD (w := w) hX i7 (L := X.β id) rfl rfl (Nat.le_refl 0) (Nat.zero_le _) (Nat.le_refl xs.length) q2 q4 q1 q6
        have hs0 : Eng.sub xs 0 xs.length = xs := by simp [Eng.sub]
        rw [hs0] at m2
        refine ⟨some (X.β id).blk, olds, .inr ⟨(X.β id).blk, (X.β id).off, cs, ty', rfl, by simp [slAddr, q1], by rw [← hX]; exact q4, q2, q5, by simpa using m1.length, fun j hj => by simpa using m3 j (by simpa using hj)⟩, by simpa using m2, by simpa using m1.length, fun b hb => ?_⟩
        cases hb
        exact ⟨by unfold Own; rw [ho]; exact q1, rfl⟩
  obtain ⟨b0, olds, p1, p2, p3, p4⟩ := hbase
  have hnl : news.length = (Eng.sub ys l h).length * esz P e := by rw [hsl]; exact n1.length
  rw [hsl] at hm
  obtain ⟨v, w', L, r1, r2, r3, r4, r5, r6⟩ := zft (ty := ty) hst hu hdk i1 i2 i6 i7 hby p1 n1 (RowD.ones n2 hnl) hm
  have hx2 : ∀ k e', c = some (k, e') → ∀ i, l ≤ i → i < h → (X.γ id2 i).nil = false → Has X id2 (X.γ id2 i).blk := by
    intro k e' hc i a b hn
    subst hc
    refine ⟨?_, .inr (InB.of ho2 (by omega) (by omega) hn)⟩
    unfold Own; rw [ho2]
    rcases hok2 with ⟨_, q2, _⟩ | ⟨q1, _⟩
    · subst q2; simp at h3; omega
    · exact q1
  have hap2 : Apart (X.γ id2) (X.β id2).blk c ys lo2 := by
    rcases hok2 with ⟨_, q2, _⟩ | ⟨_, _, _, _, q⟩
    · subst q2; intro k e' hc i a b; simp at b
    · exact q
  have hx1 : ∀ k e', c = some (k, e') → ∀ i, i < xs.length → (X.γ id i).nil = false → Has X id (X.γ id i).blk := by
    intro k e' hc i b hn
    rcases ht with ⟨_, rfl, _⟩ | ⟨ser0, iv0, ho, _⟩
    · simp at b
    · subst hc
      refine ⟨?_, .inr (InB.of ho (Nat.zero_le _) b hn)⟩
      have hok := H.ok id
      unfold AOok at hok
      rw [ho] at hok
      unfold Own; rw [ho]
      obtain ⟨_, ⟨_, q2, _⟩ | ⟨q1, _⟩⟩ := hok
      · subst q2; simp at b
      · exact q1
  have hap1 : Apart (X.γ id) (X.β id).blk c xs 0 := by
    rcases ht with ⟨_, rfl, _⟩ | ⟨ser0, iv0, ho, _⟩
    · intro k e' hc i a b; simp at b
    · have hok := H.ok id
      unfold AOok at hok
      rw [ho] at hok
      obtain ⟨_, ⟨_, q2, _⟩ | ⟨_, _, _, _, q⟩⟩ := hok
      · subst q2; intro k e' hc i a b; simp at b
      · exact q
  have hin : ∀ i, i < (xs ++ Eng.sub ys l h).length → ((fun i => if i < xs.length then X.γ id i else X.γ id2 (i - xs.length + l)) i).nil = false → (i < xs.length ∧ (X.γ id i).nil = false) ∨ (¬ i < xs.length ∧ i - xs.length + l < h ∧ (X.γ id2 (i - xs.length + l)).nil = false) := by
    intro i a b
    rw [List.length_append, hsl] at a
    by_cases hi : i < xs.length
    · simp only [if_pos hi] at b
      exact .inl ⟨hi, b⟩
    · simp only [if_neg hi] at b
      exact .inr ⟨hi, by omega, b⟩
  have hblk : ∀ k e', c = some (k, e') → ∀ i, i < (xs ++ Eng.sub ys l h).length → ((fun i => if i < xs.length then X.γ id i else X.γ id2 (i - xs.length + l)) i).nil = false →
      ((fun i => if i < xs.length then X.γ id i else X.γ id2 (i - xs.length + l)) i).blk ≠ L.blk ∧ w'.heap[((fun i => if i < xs.length then X.γ id i else X.γ id2 (i - xs.length + l)) i).blk]? = X.h[((fun i => if i < xs.length then X.γ id i else X.γ id2 (i - xs.length + l)) i).blk]? ∨ L.nil = true := by
    intro k e' hc i a b
    rcases r6 with ⟨q1, _⟩ | ⟨_, _, _, q⟩
    · exact .inr q1
    left
    have fin : ∀ b, (Has X id b ∧ b ≠ (X.β id).blk ∨ Has X id2 b) → b ≠ L.blk ∧ w'.heap[b]? = X.h[b]? := by
      intro b hb
      rw [hX]
      rcases q with ⟨s1, s2, s3⟩ | ⟨s1, s2, s3⟩
      · obtain ⟨t1, t2⟩ := p4 _ s1
        have hq : b ≠ L.blk := by
          rcases hb with ⟨_, hb⟩ | hb
          · rw [← t2]; exact hb
          · exact fun hq => hne (H.inj id2 id b hb (by rw [hq, ← t2]; exact t1.has))
        exact ⟨hq, s3 b hq⟩
      · have hlt : b < w.heap.size := by rw [← hX]; rcases hb with ⟨hb, _⟩ | hb <;> exact hb.lt H
        exact ⟨by omega, s3 b hlt⟩
    rcases hin i a b with ⟨u1, u2⟩ | ⟨u1, u2, u3⟩
    · simp only [if_pos u1]
      exact fin _ (.inl ⟨hx1 k e' hc i u1 u2, (hap1 k e' hc i (Nat.zero_le _) u1 u2).1⟩)
    · simp only [if_neg u1]
      exact fin _ (.inr (hx2 k e' hc _ (by omega) u2 u3))
  have hnz : ∀ i, i < (xs ++ Eng.sub ys l h).length → L.nil = true → False := by
    intro i a q
    rw [List.length_append, hsl] at a
    rcases r6 with ⟨_, q2, _⟩ | ⟨q1, _⟩
    · omega
    · rw [q] at q1; cases q1
  have hob : (X.rowD id id2 L (.dw e c (xs ++ Eng.sub ys l h) ser 0 iv) o2 w'.heap (fun i => if i < xs.length then X.γ id i else X.γ id2 (i - xs.length + l))).ob id = .dw e c (xs ++ Eng.sub ys l h) ser 0 iv := upd_same _ _ _
  have hγ : (X.rowD id id2 L (.dw e c (xs ++ Eng.sub ys l h) ser 0 iv) o2 w'.heap (fun i => if i < xs.length then X.γ id i else X.γ id2 (i - xs.length + l))).γ id = (fun i => if i < xs.length then X.γ id i else X.γ id2 (i - xs.length + l)) := upd_same _ _ _
  have hβ : (X.rowD id id2 L (.dw e c (xs ++ Eng.sub ys l h) ser 0 iv) o2 w'.heap (fun i => if i < xs.length then X.γ id i else X.γ id2 (i - xs.length + l))).β id = L := upd_same _ _ _
  refine ⟨v, w', X.rowD id id2 L (.dw e c (xs ++ Eng.sub ys l h) ser 0 iv) o2 w'.heap (fun i => if i < xs.length then X.γ id i else X.γ id2 (i - xs.length + l)), r1, rfl, ?_,
    Stp.rowD H hX hne hd (ht.imp (fun q => q.1) fun ⟨ser0, iv0, a, b, c, _⟩ => ⟨xs, ser0, 0, iv0, a, b, c⟩) ⟨ys, ser2, lo2, iv2, ho2, ho2'.imp (fun q => q) fun ⟨iv3, a, b⟩ => ⟨h, iv3, a, by omega, h3, b⟩⟩ ?_ p4 ?_ ?_ r3 r4 r5⟩
  · refine ⟨⟨_, _, _, r2⟩, RefRw.mkO (.inr ⟨c, 0, iv, hob⟩) rfl ?_⟩
    rw [hβ, List.length_append, hsl]; exact r2
  · rcases r6 with ⟨q1, q2, q3, q4⟩ | ⟨q1, q2, ⟨cs, ty', q3, q4, q5⟩, q6⟩
    · exact .inl ⟨q1, List.eq_nil_of_length_eq_zero (by rw [List.length_append, hsl]; exact q2), q3, q4⟩
    · refine .inr ⟨q1, by rw [List.length_append, hsl]; exact q2, ⟨cs, ty', q3, q4, ?_⟩, q6⟩
      refine (RowD.cat p2 n2 p3 (cs := cs) (off := L.off) (by rw [hsl]; exact q5)).keep hd fun k e' hc i _ a b => ?_
      exact ((hblk k e' hc i a b).resolve_right (fun q => hnz i a q)).2
  · intro k e' hc i _ a b
    refine ⟨((hblk k e' hc i a b).resolve_right (fun q => hnz i a q)).1, fun j _ ja jb heq => ?_⟩
    rcases hin i a b with ⟨u1, u2⟩ | ⟨u1, u2, u3⟩ <;> rcases hin j ja jb with ⟨v1, v2⟩ | ⟨v1, v2, v3⟩
    · simp only [if_pos u1, if_pos v1] at heq
      exact (hap1 k e' hc i (Nat.zero_le _) u1 u2).2 j (Nat.zero_le _) v1 v2 heq
    · simp only [if_pos u1, if_neg v1] at heq
      exact absurd (H.inj id2 id _ (hx2 k e' hc _ (by omega) v2 v3) (heq ▸ hx1 k e' hc i u1 u2)) hne
    · simp only [if_neg u1, if_pos v1] at heq
      exact absurd (H.inj id2 id _ (hx2 k e' hc _ (by omega) u2 u3) (heq ▸ hx1 k e' hc j v1 v2)) hne
    · simp only [if_neg u1, if_neg v1] at heq
      have := (hap2 k e' hc (i - xs.length + l) (by omega) (by omega) u3).2 (j - xs.length + l) (by omega) (by omega) v3 heq
      omega
  · intro b hb
    unfold InB at hb
    rw [hob, hγ] at hb
    obtain ⟨k, e', hc, i, _, a, bn, rfl⟩ := hb
    rcases hin i a bn with ⟨u1, u2⟩ | ⟨u1, u2, u3⟩
    · simp only [if_pos u1]
      exact .inl (hx1 k e' hc i u1 u2)
    · simp only [if_neg u1]
      refine .inr ⟨hx2 k e' hc _ (by omega) u2 u3, fun ⟨m1, m2⟩ => ?_⟩
      unfold Own at m1
      unfold InB at m2
      have hob2 : (X.rowD id id2 L (.dw e c (xs ++ Eng.sub ys l h) ser 0 iv) o2 w'.heap (fun i => if i < xs.length then X.γ id i else X.γ id2 (i - xs.length + l))).ob id2 = o2 := (zh _ _ hne).trans (upd_same _ _ _)
      have hγ2 : (X.rowD id id2 L (.dw e c (xs ++ Eng.sub ys l h) ser 0 iv) o2 w'.heap (fun i => if i < xs.length then X.γ id i else X.γ id2 (i - xs.length + l))).γ id2 = X.γ id2 := zh _ _ hne
      have hβ2 : (X.rowD id id2 L (.dw e c (xs ++ Eng.sub ys l h) ser 0 iv) o2 w'.heap (fun i => if i < xs.length then X.γ id i else X.γ id2 (i - xs.length + l))).β id2 = X.β id2 := zh _ _ hne
      rw [hob2] at m1 m2
      rw [hγ2, hβ2] at m2
      have hh := hap2 k e' hc (i - xs.length + l) (by omega) (by omega) u3
      rcases ho2' with rfl | ⟨iv3, rfl, _⟩
      · exact m1
      · rcases m2 with m2 | ⟨k2, e2, hc2, j, j1, j2, j3, j4⟩
        · exact hh.1 m2
        · rw [hc] at hc2; cases hc2
          have := hh.2 j (by omega) j2 j3 j4
          omega
def Cx.rowD1 (X : Cx) (id : Nat) (l : Loc) (o : AO) (h : Array Obj) (γn : Nat → Loc) : Cx := ⟨upd X.β id l, X.F, upd X.ob id o, h, upd X.γ id γn⟩
theorem Stp.rowD1 {id : Nat} {e : TypeId} {c : Option (Nat × TypeId)} {zs : Rw} {ser iv : Nat} {l : Loc} {γn : Nat → Loc} {w' : World} {b0 : Option Nat} (H : Heap P K X) (hX : X.h = w.heap) (hdk : Dk P e c)
    (hst : ∃ xs0 ser0 lo0 iv0, X.ob id = .dw e c xs0 ser0 lo0 iv0 ∧ ser0 < ser ∧ iv0 < iv)
    (hS : (l.nil = true ∧ zs = [] ∧ l.cap = 0 ∧ w'.heap = w.heap) ∨ (l.nil = false ∧ zs.length ≤ l.cap ∧ (∃ cs ty, w'.heap[l.blk]? = some (.cells cs ty (0, 0)) ∧ l.off + l.cap * esz P e ≤ cs.size ∧ Eng.RowD P w'.heap γn e cs l.off zs 0) ∧
      ((b0 = some l.blk ∧ w'.heap.size = w.heap.size ∧ ∀ b, b ≠ l.blk → w'.heap[b]? = w.heap[b]?) ∨ (l.blk = w.heap.size ∧ w'.heap.size = w.heap.size + 1 ∧ ∀ b, b < w.heap.size → w'.heap[b]? = w.heap[b]?))))
    (hb0 : ∀ b, b0 = some b → Own X id ∧ (X.β id).blk = b) (hap : Apart γn l.blk c zs 0)
    (hin : ∀ b, InB (X.rowD1 id l (.dw e c zs ser 0 iv) w'.heap γn) id b → Has X id b)
    (h1 : w'.os = w.os) (h3 : w'.tape = w.tape) (h4 : w'.output = w.output) : Stp P K X w (X.rowD1 id l (.dw e c zs ser 0 iv) w'.heap γn) w' := by
  have hsz : X.h.size = w.heap.size := by rw [hX]
  have hob : (X.rowD1 id l (.dw e c zs ser 0 iv) w'.heap γn).ob id = .dw e c zs ser 0 iv := upd_same _ _ _
  have hβ : (X.rowD1 id l (.dw e c zs ser 0 iv) w'.heap γn).β id = l := upd_same _ _ _
  have hγ : (X.rowD1 id l (.dw e c zs ser 0 iv) w'.heap γn).γ id = γn := upd_same _ _ _
  have hnew : ∀ b, Has (X.rowD1 id l (.dw e c zs ser 0 iv) w'.heap γn) id b → Has X id b ∨ X.h.size ≤ b := by
    intro b ⟨k1, k2⟩
    rcases k2 with k2 | k2
    · unfold Own at k1
      rw [hob] at k1
      rw [hβ] at k1 k2
      subst k2
      rcases hS with ⟨h, _⟩ | ⟨_, _, _, ⟨hb1, _, _⟩ | ⟨h, _, _⟩⟩
      · rw [k1] at h; cases h
      · obtain ⟨q1, q2⟩ := hb0 _ hb1
        exact .inl ⟨q1, .inl q2.symm⟩
      · exact .inr (by omega)
    · exact .inl (hin b k2)
  have T : Turn P K X (X.rowD1 id l (.dw e c zs ser 0 iv) w'.heap γn) (fun i => i = id) := by
    refine ⟨fun fr b h => h, H.Fle, H.Ffr, fun b h => .inl h, ?_, fun b hb hno => ?_, fun i h => zh _ _ h, fun i h => zh _ _ h, fun i h => zh _ _ h, fun i h => ?_, fun i b h ho => ?_, fun i i' b h h' k k' => h.trans h'.symm⟩
    · show _ ≤ w'.heap.size
      rcases hS with ⟨_, _, _, h⟩ | ⟨_, _, _, ⟨_, h, _⟩ | ⟨_, h, _⟩⟩ <;> rw [hsz] <;> first | (rw [h]; exact Nat.le_refl _) | omega
    · show w'.heap[b]? = _
      rw [hX]
      rcases hS with ⟨_, _, _, h⟩ | ⟨_, _, _, ⟨hb1, _, h⟩ | ⟨_, _, h⟩⟩
      · rw [h]
      · obtain ⟨q1, q2⟩ := hb0 _ hb1
        exact h b fun hq => hno id rfl (by rw [hq, ← q2]; exact q1.has)
      · exact h b (by omega)
    · subst h
      unfold Keeps
      obtain ⟨xs0, ser0, lo0, iv0, h, hl1, hl2⟩ := hst
      rw [h]
      exact .inr (.inr (.inl ⟨zs, ser, 0, iv, hob, Nat.le_of_lt hl1, Nat.le_of_lt hl2, fun q => by omega, fun q => by omega⟩))
    · subst h
      rcases hnew b ho with q | q
      · exact ⟨.inr ⟨i, rfl, q⟩, H.nF i b q⟩
      · exact ⟨.inl q, fun hF => by have := H.Fsz _ hF; omega⟩
  refine T.stp H (fun i h => ?_) rfl h1 h3 h4 (fun i cells h hc => ?_)
  · subst h
    unfold AOok
    rw [hob, hβ, hγ]
    refine ⟨hdk, ?_⟩
    rcases hS with ⟨q1, q2, q3, _⟩ | ⟨q1, q2, q3, _⟩
    · exact .inl ⟨q1, q2, q3⟩
    · exact .inr ⟨q1, q2, Nat.zero_le _, q3, hap⟩
  · subst h
    obtain ⟨xs0, ser0, lo0, iv0, h, _⟩ := hst
    rw [h] at hc; cases hc
theorem zla (H : Heap P K X) (hX : X.h = w.heap) {st u ty e : TypeId} {d : TypeDesc} (hu : P.underlying u = some d) (hdk : ∀ k, d ≠ .int k) (he : elOf P st = some e)
    (hby : Nat.ble (ebytes P e) 128 = true) (hro : rowOk P e = true) {id : Nat} {c : Option (Nat × TypeId)} {ys : Rw} {ser iv h1 l h : Nat} {vs vx : Value}
    (ho : X.ob id = .dw e c ys ser 0 iv) (hl1 : h1 ≤ l) (h2 : l ≤ h) (h3 : h ≤ ys.length) (hvs : vs = .slice (slAddr P e (X.β id) 0) h1 (X.β id).cap) (hvx : vx = .slice (slAddr P e (X.β id) l) (h - l) ((X.β id).cap - l))
    (hm : (Eng.sub ys 0 h1).length + (Eng.sub ys l h).length ≤ most) :
    ∃ v w' X', (Builtin.append_ #[st, u] ty #[vs, vx]).run P w = .ok v w' ∧ X'.ob = upd X.ob id (.dw e c (Eng.sub ys 0 h1 ++ Eng.sub ys l h) (ser + 1) 0 (iv + 1)) ∧ RV P X' (.sc (.ow id (ser + 1))) v ∧ Stp P K X w X' w' := by
  have hst := zbq he
  obtain ⟨i, z, za, i1, i2, i3, i4, i5, i6, i7⟩ := zb4 (X := X) hro
  have hby : i.bytes ≤ 128 := by have := Nat.le_of_ble_eq_true hby; simpa [ebytes, i1] using this
  have hsl := zbd (lo := l) h3
  have hs0 := zbd (lo := 0) (show h1 ≤ ys.length by omega)
  rw [Nat.sub_zero] at hs0
  have hok := H.ok id
  unfold AOok at hok
  rw [ho] at hok
  obtain ⟨hd, hok⟩ := hok
  have hbase : ∃ (b0 : Option Nat) (olds news : List Value), BaseC P e w b0 (slAddr P e (X.β id) 0) (X.β id).cap h1 olds ∧ Eng.RowD P X.h (X.γ id) e olds.toArray 0 (Eng.sub ys 0 h1) 0 ∧ olds.length = h1 * esz P e ∧ (∀ b, b0 = some b → Own X id ∧ (X.β id).blk = b) ∧
      Src P w (esz P e) (h - l) vx news ∧ Eng.RowD P X.h (fun i => X.γ id (i + l)) e news.toArray 0 (Eng.sub ys l h) 0 := by
    rcases hok with ⟨q1, q2, q3⟩ | ⟨q1, q2, q3, ⟨cs, ty', q4, q5, q6⟩, q7⟩
    · subst q2
      have e1 : h - l = 0 := by simp at h3; omega
      have e2 : h1 = 0 := by simp at h3; omega
      refine ⟨none, [], [], .inl ⟨by simp [slAddr, q1], e2, q3, rfl⟩, fun i _ hi => by rw [hs0] at hi; omega, by simp [e2], (fun b hb => by cases hb), ⟨fun _ => by rw [hvx]; rfl, fun w' hw => ?_, by simp [e1]⟩, fun i _ hi => by rw [hsl, e1] at hi; omega⟩
      rw [hvx, e1]
      simp [slAddr, q1, Builtin.firstCells]
    · obtain ⟨news, n1, n2, _⟩ := cutD (w := w) hX i7 (L := X.β id) rfl rfl (Nat.zero_le l) h2 h3 q2 q4 q1 q6
      obtain ⟨olds, m1, m2, m3⟩ := cutD (w := w) hX i7 (L := X.β id) rfl rfl (Nat.le_refl 0) (Nat.zero_le _) (show h1 ≤ ys.length by omega) q2 q4 q1 q6
      refine ⟨some (X.β id).blk, olds, news, .inr ⟨(X.β id).blk, (X.β id).off, cs, ty', rfl, by simp [slAddr, q1], by rw [← hX]; exact q4, by omega, q5, by simpa using m1.length, fun j hj => by simpa using m3 j (by simpa using hj)⟩, by simpa using m2, by simpa using m1.length, fun b hb => ?_, by rw [hvx]; exact n1, n2⟩
      cases hb
      exact ⟨by unfold Own; rw [ho]; exact q1, rfl⟩
  obtain ⟨b0, olds, news, p1, p2, p3, p4, n1, n2⟩ := hbase
  have hnl : news.length = (Eng.sub ys l h).length * esz P e := by rw [hsl]; exact n1.length
  rw [hsl, hs0] at hm
  obtain ⟨v, w', L, r1, r2, r3, r4, r5, r6⟩ := zft (ty := ty) hst hu hdk i1 i2 i6 i7 hby p1 n1 (RowD.ones n2 hnl) hm
  have hap2 : Apart (X.γ id) (X.β id).blk c ys 0 := by
    rcases hok with ⟨_, q2, _⟩ | ⟨_, _, _, _, q⟩
    · subst q2; intro k e' hc i a b; simp at b
    · exact q
  have hx2 : ∀ k e', c = some (k, e') → ∀ i, i < ys.length → (X.γ id i).nil = false → Has X id (X.γ id i).blk := by
    intro k e' hc i b hn
    subst hc
    refine ⟨?_, .inr (InB.of ho (Nat.zero_le _) b hn)⟩
    unfold Own; rw [ho]
    rcases hok with ⟨_, q2, _⟩ | ⟨q1, _⟩
    · subst q2; simp at b
    · exact q1
  let ix : Nat → Nat := fun i => if i < h1 then i else i - h1 + l
  have hin : ∀ k, ∀ i, i < (Eng.sub ys 0 h1 ++ Eng.sub ys l h).length → ix i < ys.length ∧ rd (Eng.sub ys 0 h1 ++ Eng.sub ys l h) i k = rd ys (ix i) k := by
    intro k i a
    rw [List.length_append, hsl, hs0] at a
    by_cases hi : i < h1
    · have hrd : rd (Eng.sub ys 0 h1 ++ Eng.sub ys l h) i k = rd (Eng.sub ys 0 h1) i k := by simp [rd, List.getD_eq_getElem?_getD, List.getElem?_append_left (show i < (Eng.sub ys 0 h1).length by omega)]
      rw [hrd, Eng.rd_sub (by omega)]
      have e : ix i = i := if_pos hi
      rw [e, Nat.zero_add]
      exact ⟨by omega, rfl⟩
    · have hrd : rd (Eng.sub ys 0 h1 ++ Eng.sub ys l h) i k = rd (Eng.sub ys l h) (i - h1) k := by simp [rd, List.getD_eq_getElem?_getD, List.getElem?_append_right (by omega : (Eng.sub ys 0 h1).length ≤ i), hs0]
      rw [hrd, Eng.rd_sub (by omega), Nat.add_comm]
      have e : ix i = i - h1 + l := if_neg hi
      rw [e]
      exact ⟨by omega, rfl⟩
  have hixi : ∀ i j, ix i = ix j → i = j := by
    intro i j
    simp only [ix]
    split <;> split <;> omega
  let γn : Nat → Loc := fun i => if i < h1 then X.γ id i else X.γ id (i - h1 + l)
  have hγn : ∀ i, γn i = X.γ id (ix i) := by intro i; simp only [γn, ix]; split <;> rfl
  have hblk : ∀ k e', c = some (k, e') → ∀ i, i < (Eng.sub ys 0 h1 ++ Eng.sub ys l h).length → (γn i).nil = false → Has X id (γn i).blk ∧ (L.nil = false → (γn i).blk ≠ L.blk ∧ w'.heap[(γn i).blk]? = X.h[(γn i).blk]?) := by
    intro k e' hc i a b
    obtain ⟨u1, u2⟩ := hin k i a
    rw [hγn] at b ⊢
    have hb := hx2 k e' hc _ u1 b
    refine ⟨hb, fun hn => ?_⟩
    rw [hX]
    rcases r6 with ⟨q1, _⟩ | ⟨_, _, _, ⟨s1, s2, s3⟩ | ⟨s1, s2, s3⟩⟩
    · rw [hn] at q1; cases q1
    · obtain ⟨t1, t2⟩ := p4 _ s1
      have hq : (X.γ id (ix i)).blk ≠ L.blk := by rw [← t2]; exact (hap2 k e' hc _ (Nat.zero_le _) u1 b).1
      exact ⟨hq, s3 _ hq⟩
    · have hlt : (X.γ id (ix i)).blk < w.heap.size := by rw [← hX]; exact hb.lt H
      exact ⟨by omega, s3 _ hlt⟩
  have hnz : ∀ i, i < (Eng.sub ys 0 h1 ++ Eng.sub ys l h).length → L.nil = false := by
    intro i a
    rw [List.length_append, hsl, hs0] at a
    rcases r6 with ⟨_, q2, _⟩ | ⟨q1, _⟩
    · omega
    · exact q1
  have hob : (X.rowD1 id L (.dw e c (Eng.sub ys 0 h1 ++ Eng.sub ys l h) (ser + 1) 0 (iv + 1)) w'.heap γn).ob id = .dw e c (Eng.sub ys 0 h1 ++ Eng.sub ys l h) (ser + 1) 0 (iv + 1) := upd_same _ _ _
  have hγ : (X.rowD1 id L (.dw e c (Eng.sub ys 0 h1 ++ Eng.sub ys l h) (ser + 1) 0 (iv + 1)) w'.heap γn).γ id = γn := upd_same _ _ _
  have hβ : (X.rowD1 id L (.dw e c (Eng.sub ys 0 h1 ++ Eng.sub ys l h) (ser + 1) 0 (iv + 1)) w'.heap γn).β id = L := upd_same _ _ _
  refine ⟨v, w', X.rowD1 id L (.dw e c (Eng.sub ys 0 h1 ++ Eng.sub ys l h) (ser + 1) 0 (iv + 1)) w'.heap γn, by rw [hvs]; exact r1, rfl, ?_,
    Stp.rowD1 H hX hd ⟨ys, ser, 0, iv, ho, Nat.lt_succ_self _, Nat.lt_succ_self _⟩ ?_ p4 ?_ ?_ r3 r4 r5⟩
  · refine ⟨⟨_, _, _, r2⟩, RefRw.mkO (.inr ⟨c, 0, iv + 1, hob⟩) rfl ?_⟩
    rw [hβ, List.length_append, hsl, hs0]; exact r2
  · rcases r6 with ⟨q1, q2, q3, q4⟩ | ⟨q1, q2, ⟨cs, ty', q3, q4, q5⟩, q6⟩
    · exact .inl ⟨q1, List.eq_nil_of_length_eq_zero (by rw [List.length_append, hsl, hs0]; exact q2), q3, q4⟩
    · refine .inr ⟨q1, by rw [List.length_append, hsl, hs0]; exact q2, ⟨cs, ty', q3, q4, ?_⟩, q6⟩
      have hcat := RowD.cat p2 n2 (by rw [hs0]; exact p3) (cs := cs) (off := L.off) (by rw [hsl, hs0]; exact q5)
      rw [hs0] at hcat
      exact hcat.keep hd fun k e' hc i _ a b => ((hblk k e' hc i a b).2 (hnz i a)).2
  · intro k e' hc i _ a b
    refine ⟨((hblk k e' hc i a b).2 (hnz i a)).1, fun j _ ja jb heq => ?_⟩
    obtain ⟨u1, u2⟩ := hin k i a
    obtain ⟨v1, v2⟩ := hin k j ja
    rw [hγn] at b jb
    rw [hγn, hγn] at heq
    exact hixi _ _ ((hap2 k e' hc _ (Nat.zero_le _) u1 b).2 _ (Nat.zero_le _) v1 jb heq)
  · intro b hb
    unfold InB at hb
    rw [hob, hγ] at hb
    obtain ⟨k, e', hc, i, _, a, bn, rfl⟩ := hb
    exact (hblk k e' hc i a bn).1
theorem Dk.inj {e : TypeId} {c c' : Option (Nat × TypeId)} (h : Dk P e c) (h' : Dk P e c') : c = c' := by
  have key : ∀ k e', Dk P e (some (k, e')) → Dk P e none → False := by
    intro k e' a b
    obtain ⟨a1, a2, _⟩ := a
    have hm := zbc a2 (by simp)
    unfold Dk at b
    unfold flat at b
    simp only [List.all_eq_true] at b
    have := b _ hm
    simp at this
  cases c with
  | none => cases c' with
    | none => rfl
    | some q => exact (key _ _ h' h).elim
  | some q => cases c' with
    | none => exact (key _ _ h h').elim
    | some q' =>
      obtain ⟨k, e1⟩ := q; obtain ⟨k', e2⟩ := q'
      obtain ⟨_, a2, _, a4⟩ := h
      obtain ⟨_, b2, _, b4⟩ := h'
      have hk := a4 _ _ b2
      subst hk
      rw [a2] at b2; cases b2; rfl
theorem AOok.dk {id : Nat} {e : TypeId} {c : Option (Nat × TypeId)} {xs : Rw} {ser lo iv : Nat} (h : AOok P K X id) (ho : X.ob id = .dw e c xs ser lo iv) : Dk P e c ∧ lo ≤ xs.length ∨ Dk P e c ∧ xs = [] := by
  unfold AOok at h
  rw [ho] at h
  rcases h with ⟨h, ⟨_, h1, _⟩ | ⟨_, _, h1, _⟩⟩
  · exact .inr ⟨h, h1⟩
  · exact .inl ⟨h, h1⟩
theorem zix (H : Heap P K X) (hX : X.h = w.heap) (hlk : ∀ id, lk id = X.ob id ∨ lk id = .dead) {nid : Nat} {st u ty e : TypeId} {d : TypeDesc} (hu : P.underlying u = some d) (hdk : ∀ k, d ≠ .int k) (he : elOf P st = some e)
    (hby : Nat.ble (ebytes P e) 128 = true) (hro : rowOk P e = true) {s x : AS} {vs vx : Value} (hs : RS P X s vs) (hx : RS P X x vx) {r : AR} (h : adw P lk nid e s x = some r) (hg : ∀ b ∈ r.gs, b = true) (hd : r.nn ≠ 0 → X.ob nid = .dead) :
    ValRes P K X w r (Builtin.append_ #[st, u] ty #[vs, vx]) := by
  have hwhole : ∀ ys : Rw, Eng.sub ys 0 ys.length = ys := fun ys => by simp [Eng.sub]
  have hDk : ∀ {id e c xs ser lo iv}, X.ob id = .dw e c xs ser lo iv → Dk P e c := fun ho => (AOok.dk (H.ok _) ho).elim (fun q => q.1) (fun q => q.1)
  unfold adw at h
  split at h
  · rename_i id2 m2
    split at h
    · rename_i e2 c ys ser2 lo2 iv2 hl2
      cases hq : (Nat.beq e e2 && (Nat.beq m2 ser2 && Nat.beq lo2 0)) <;> simp only [hq, cond_false, cond_true] at h
      · cases h
      simp only [Bool.and_eq_true] at hq
      have he' := zb hq.1; subst he'
      have hlo := zb hq.2.2; subst hlo
      have ho2 := lk_rw hlk hl2 (by simp)
      have hv2 := (show RS P X (.ow id2 m2) vx from hx).2.getD ho2 (zb hq.2.1)
      split at h
      · cases h
        have hdead := hd (by simp)
        have hne : id2 ≠ nid := fun q => by rw [q, hdead] at ho2; cases ho2
        have hb : ys.length ≤ most := by simpa using hg (decide (ys.length ≤ most)) (by simp)
        obtain ⟨v, w', X', r1, r2, r3, r4⟩ := zdb (ty := ty) (ser := 0) (iv := 0) (xs := []) (A := none) (c0 := 0) (o2 := .gone) (l := 0) (h := ys.length) (vx := vx) H hX hu hdk he hby hro hne (.inl ⟨hdead, rfl, rfl, rfl⟩) ho2 (Nat.le_refl _) (Nat.zero_le _) (Nat.le_refl _) hv2 (.inl rfl) (by rw [hwhole]; simpa using hb)
        have hvs : vs = .slice none 0 0 := hs
        refine ⟨v, w', X', by rw [hvs]; exact r1, ?_, r3, r4⟩
        rw [r2, zy, zl, hwhole, List.nil_append]
      · rename_i id m
        split at h
        · rename_i e1 c1 xs ser lo iv hl1
          cases hq1 : (Nat.beq e e1 && (Nat.beq m ser && (Nat.beq lo 0 && !Nat.beq id id2))) <;> simp only [hq1, cond_false, cond_true] at h
          · cases h
          cases h
          simp only [Bool.and_eq_true, Bool.not_eq_true'] at hq1
          have he' := zb hq1.1; subst he'
          have hlo := zb hq1.2.2.1; subst hlo
          have ho := lk_rw hlk hl1 (by simp)
          have hv := (show RS P X (.ow id m) vs from hs).2.getD ho (zb hq1.2.1)
          have hne : id2 ≠ id := fun q => by have := hq1.2.2.2; rw [q] at this; simp at this
          have hc := Dk.inj (hDk ho) (hDk ho2); subst hc
          have hb : xs.length + ys.length ≤ most := by simpa using hg (decide (xs.length + ys.length ≤ most)) (by simp)
          obtain ⟨v, w', X', r1, r2, r3, r4⟩ := zdb (ty := ty) (ser := ser + 1) (iv := iv + 1) (xs := xs) (o2 := .gone) (l := 0) (h := ys.length) (vx := vx) H hX hu hdk he hby hro hne (.inr ⟨ser, iv, ho, Nat.lt_succ_self _, Nat.lt_succ_self _, rfl, rfl⟩) ho2 (Nat.le_refl _) (Nat.zero_le _) (Nat.le_refl _) hv2 (.inl rfl) (by rw [hwhole]; exact hb)
          refine ⟨v, w', X', by rw [hv]; exact r1, ?_, r3, r4⟩
          rw [r2, zy, zl, hwhole]
        · cases h
      · cases h
    · cases h
  · rename_i id2 m2 l h'
    split at h
    · rename_i e2 c ys ser2 lo2 iv2 hl2
      cases hq : (Nat.beq e e2 && Nat.beq m2 ser2) <;> simp only [hq, cond_false, cond_true] at h
      · cases h
      simp only [Bool.and_eq_true] at hq
      have he' := zb hq.1; subst he'
      have ho2 := lk_rw hlk hl2 (by simp)
      obtain ⟨b1, b2, hv2⟩ := (show RS P X (.sb id2 m2 l h') vx from hx).2.getD ho2 (zb hq.2)
      split at h
      · cases hq1 : (Nat.beq l 0 && Nat.beq lo2 0) <;> simp only [hq1, cond_false, cond_true] at h
        · cases h
        cases h
        simp only [Bool.and_eq_true] at hq1
        have hl0 := zb hq1.1; subst hl0
        have hlo := zb hq1.2; subst hlo
        have hdead := hd (by simp)
        have hne : id2 ≠ nid := fun q => by rw [q, hdead] at ho2; cases ho2
        have hb : (Eng.sub ys 0 h').length ≤ most := by simpa using hg (decide ((Eng.sub ys 0 h').length ≤ most)) (by simp)
        obtain ⟨v, w', X', r1, r2, r3, r4⟩ := zdb (ty := ty) (ser := 0) (iv := 0) (xs := []) (A := none) (c0 := 0) (o2 := .dw e c ys ser2 h' (iv2 + 1)) (l := 0) (h := h') (vx := vx) H hX hu hdk he hby hro hne (.inl ⟨hdead, rfl, rfl, rfl⟩) ho2 (Nat.le_refl _) (Nat.zero_le _) b2 hv2 (.inr ⟨_, rfl, Nat.lt_succ_self _⟩) (by simpa using hb)
        have hvs : vs = .slice none 0 0 := hs
        refine ⟨v, w', X', by rw [hvs]; exact r1, ?_, r3, r4⟩
        rw [r2, zy, zl, List.nil_append]
      · rename_i id m
        split at h
        · rename_i e1 c1 xs ser lo iv hl1
          cases hq1 : (Nat.beq e e1 && (Nat.beq m ser && (Nat.beq lo 0 && !Nat.beq id id2))) <;> simp only [hq1, cond_false, cond_true] at h
          · cases h
          cases h
          simp only [Bool.and_eq_true, Bool.not_eq_true'] at hq1
          have he' := zb hq1.1; subst he'
          have hlo := zb hq1.2.2.1; subst hlo
          have ho := lk_rw hlk hl1 (by simp)
          have hv := (show RS P X (.ow id m) vs from hs).2.getD ho (zb hq1.2.1)
          have hne : id2 ≠ id := fun q => by have := hq1.2.2.2; rw [q] at this; simp at this
          have hc := Dk.inj (hDk ho) (hDk ho2); subst hc
          have hb : xs.length + (Eng.sub ys l h').length ≤ most := by simpa using hg (decide (xs.length + (Eng.sub ys l h').length ≤ most)) (by simp)
          have hll : l = lo2 := zb (hg (Nat.beq l lo2) (by simp))
          obtain ⟨v, w', X', r1, r2, r3, r4⟩ := zdb (ty := ty) (ser := ser + 1) (iv := iv + 1) (xs := xs) (o2 := .gone) (l := l) (h := h') (vx := vx) H hX hu hdk he hby hro hne (.inr ⟨ser, iv, ho, Nat.lt_succ_self _, Nat.lt_succ_self _, rfl, rfl⟩) ho2 (Nat.le_of_eq hll.symm) b1 b2 hv2 (.inl rfl) hb
          refine ⟨v, w', X', by rw [hv]; exact r1, ?_, r3, r4⟩
          rw [r2, zy, zl]
        · cases h
      · rename_i id m l1 h1
        cases hq1 : ((Nat.beq id id2 && Nat.beq m ser2) && (Nat.beq l1 0 && Nat.beq lo2 0)) <;> simp only [hq1, cond_false, cond_true] at h
        · cases h
        cases h
        simp only [Bool.and_eq_true] at hq1
        have hid := zb hq1.1.1; subst hid
        have hl0 := zb hq1.2.1; subst hl0
        have hlo := zb hq1.2.2; subst hlo
        obtain ⟨c1, c2, hv⟩ := (show RS P X (.sb id m 0 h1) vs from hs).2.getD ho2 (zb hq1.1.2)
        have hb : (Eng.sub ys 0 h1).length + (Eng.sub ys l h').length ≤ most := by simpa using hg (decide ((Eng.sub ys 0 h1).length + (Eng.sub ys l h').length ≤ most)) (by simp)
        have hll : h1 ≤ l := Nat.le_of_ble_eq_true (hg (Nat.ble h1 l) (by simp))
        obtain ⟨v, w', X', r1, r2, r3, r4⟩ := zla (ty := ty) (vs := vs) (vx := vx) H hX hu hdk he hby hro ho2 hll b1 b2 (by simpa using hv) hv2 hb
        exact ⟨v, w', X', r1, r2.trans (zl _ _ _).symm, r3, r4⟩
      · cases h
    · cases h
  · cases h
theorem zmn (H : Heap P K X) (hX : X.h = w.heap) (hlk : ∀ id, lk id = X.ob id ∨ lk id = .dead) {nid : Nat} {st u ty : TypeId} {d : TypeDesc} (hu : P.underlying u = some d) (hdk : ∀ k, d ≠ .int k)
    {s x : AV} {vs vx : Value} (hs : RV P X s vs) (hx : RV P X x vx) {r : AR} (h : aappend P lk nid st s x = some r) (hg : ∀ b ∈ r.gs, b = true) (hd : r.nn ≠ 0 → X.ob nid = .dead) : ValRes P K X w r (Builtin.append_ #[st, u] ty #[vs, vx]) := by
  unfold aappend at h
  split at h
  · rename_i e s x he
    have ht := zbq he
    split at h
    · rename_i r' hdw
      cases hc : (Nat.ble (ebytes P e) 128 && rowOk P e) <;> simp only [hc, cond_false, cond_true] at h
      · cases h
      cases h
      simp only [Bool.and_eq_true] at hc
      exact zix H hX hlk hu hdk he hc.1 hc.2 hs hx hdw hg hd
    rename_i hdw
    clear hdw
    split at h
    · cases h
    · rename_i f ys hsrc
      cases hc : (Nat.ble (ebytes P e) 128 && rowOk P e) <;> simp only [hc, cond_false, cond_true] at h
      · cases h
      simp only [Bool.and_eq_true] at hc
      obtain ⟨i, z, za, i1, i2, i3, i4, i5, i6, i7⟩ := zb4 (X := X) hc.2
      have hby : i.bytes ≤ 128 := by have := Nat.le_of_ble_eq_true hc.1; simpa [ebytes, i1] using this
      obtain ⟨news, n1, n2⟩ := zli H hX hlk i7 hx hsrc
      have fin : ∀ (id : Nat) (g : Bool) (zs : Rw) (ser : Nat) (A : Option Addr) (c0 : Nat) (b0 : Option Nat), (g = true → f = true) → (X.ob id = .dead ∨ ∃ e0 fr0 xs0 ser0, X.ob id = .rw e0 fr0 xs0 ser0 ∧ ser0 < ser) →
          vs = .slice A zs.length c0 → Base P (Con P X.h (X.F g) 7) e w b0 A c0 zs → (∀ b, b0 = some b → Own X id ∧ (X.β id).blk = b ∧ (g = true → K.h0.size ≤ b)) → zs.length + ys.length ≤ most →
          ∃ v w' X', (Builtin.append_ #[st, u] ty #[vs, vx]).run P w = .ok v w' ∧ X'.ob = upd X.ob id (.rw e g (zs ++ ys) ser) ∧ RV P X' (.sc (.ow id ser)) v ∧ Stp P K X w X' w' := by
        intro id g zs ser A c0 b0 hgf hst hv hB hb0 hb
        subst hv
        obtain ⟨v, w', l, r1, r2, r3, r4, r5, r6⟩ := zkt (ty := ty) ht hu hdk i1 i2 i6 i7 hby hB n1 (n2.low H hgf) hb
        refine ⟨v, w', _, r1, rfl, ?_, Stp.row H hX hst r6 hb0 r3 r4 r5⟩
        refine ⟨⟨_, _, _, r2⟩, RefRw.mk (.inl (upd_same _ _ _)) rfl ?_⟩
        simp only [upd_same]; exact r2
      split at h
      · cases h
        simp only [RV, RS] at hs
        have hb : ys.length ≤ most := by simpa using hg (decide (ys.length ≤ most)) (by simp)
        obtain ⟨v, w', X', r1, r2, r3, r4⟩ := fin nid f [] 0 none 0 none id (.inl (hd (by simp))) hs (.inl ⟨rfl, rfl, rfl⟩) (fun b hb => by cases hb) (by simpa using hb)
        exact ⟨v, w', X', r1, r2.trans (zl _ _ _).symm, r3, r4⟩
      · rename_i id m
        split at h
        · rename_i e' fr xs ser hl
          cases hq : (Nat.beq e e' && Nat.beq m ser) <;> simp only [hq, cond_false, cond_true] at h
          · cases h
          cases h
          simp only [Bool.and_eq_true] at hq
          have he' := zb hq.1; subst he'
          have ho := lk_rw hlk hl (by simp)
          have hv := (show RS P X (.ow id m) vs from hs).2.get (.inl ho) (zb hq.2)
          have hb : xs.length + ys.length ≤ most := by simpa using hg (decide (xs.length + ys.length ≤ most)) (by simp)
          have hok := H.ok id
          unfold AOok at hok
          rw [ho] at hok
          have both : ∀ b0, Base P (Con P X.h (X.F (fr && f)) 7) e w b0 (slAddr P e (X.β id) 0) (X.β id).cap xs → (∀ b, b0 = some b → Own X id ∧ (X.β id).blk = b ∧ ((fr && f) = true → K.h0.size ≤ b)) →
              ValRes P K X w ⟨[decide (xs.length + ys.length ≤ most)], .sc (.ow id (ser + 1)), [(id, .rw e (fr && f) (xs ++ ys) (ser + 1))], 0⟩ (Builtin.append_ #[st, u] ty #[vs, vx]) := by
            intro b0 hB hb0
            obtain ⟨v, w', X', r1, r2, r3, r4⟩ := fin id (fr && f) xs (ser + 1) _ _ b0 (by simp +contextual) (.inr ⟨_, _, _, _, ho, Nat.lt_succ_self _⟩) hv hB hb0 hb
            exact ⟨v, w', X', r1, r2.trans (zl _ _ _).symm, r3, r4⟩
          rcases hok with ⟨q1, q2, q3⟩ | ⟨q1, q2, q3, cs, ty', q4, q5, q6⟩
          · exact both none (.inl ⟨by simp [slAddr, q1], q2, q3⟩) fun b hb => by cases hb
          · have hown : Own X id := by unfold Own; rw [ho]; exact q1
            refine both (some (X.β id).blk) (.inr ⟨(X.β id).blk, (X.β id).off, cs, ty', rfl, by simp [slAddr, q1], by rw [← hX]; exact q4, q2, q5, q6.low H (by simp +contextual)⟩) fun b hb => ?_
            cases hb
            exact ⟨hown, rfl, fun hg => q3 (by simp at hg; exact hg.1)⟩
        · cases h
      · rename_i id m lo hi
        split at h
        · rename_i e' fr xs ser hl
          cases hq : (Nat.beq e e' && Nat.beq m ser) <;> simp only [hq, cond_false, cond_true] at h
          · cases h
          cases h
          simp only [Bool.and_eq_true] at hq
          have he' := zb hq.1; subst he'
          have ho := lk_rw hlk hl (by simp)
          obtain ⟨v1, v2, hv⟩ := (show RS P X (.sb id m lo hi) vs from hs).2.get (.inl ho) (zb hq.2)
          have hb : (Eng.sub xs lo hi).length + ys.length ≤ most := by simpa using hg (decide ((Eng.sub xs lo hi).length + ys.length ≤ most)) (by simp)
          have hsl := zbd (lo := lo) v2
          have hok := H.ok id
          unfold AOok at hok
          rw [ho] at hok
          have both : ∀ b0, Base P (Con P X.h (X.F (fr && f)) 7) e w b0 (slAddr P e (X.β id) lo) ((X.β id).cap - lo) (Eng.sub xs lo hi) → (∀ b, b0 = some b → Own X id ∧ (X.β id).blk = b ∧ ((fr && f) = true → K.h0.size ≤ b)) →
              ValRes P K X w ⟨[decide ((Eng.sub xs lo hi).length + ys.length ≤ most)], .sc (.ow id (ser + 1)), [(id, .rw e (fr && f) (Eng.sub xs lo hi ++ ys) (ser + 1))], 0⟩ (Builtin.append_ #[st, u] ty #[vs, vx]) := by
            intro b0 hB hb0
            obtain ⟨v, w', X', r1, r2, r3, r4⟩ := fin id (fr && f) (Eng.sub xs lo hi) (ser + 1) _ _ b0 (by simp +contextual) (.inr ⟨_, _, _, _, ho, Nat.lt_succ_self _⟩) (by rw [hsl]; exact hv) hB hb0 hb
            exact ⟨v, w', X', r1, r2.trans (zl _ _ _).symm, r3, r4⟩
          rcases hok with ⟨q1, q2, q3⟩ | ⟨q1, q2, q3, cs, ty', q4, q5, q6⟩
          · exact both none (.inl ⟨by simp [slAddr, q1], by rw [q2]; simp [Eng.sub], by rw [q3]; simp⟩) fun b hb => by cases hb
          · have hown : Own X id := by unfold Own; rw [ho]; exact q1
            have hcur : w.heap[(X.β id).blk]? = some (.cells cs ty' (0, 0)) := by rw [← hX]; exact q4
            have hh : ∀ b, some (X.β id).blk = some b → Own X id ∧ (X.β id).blk = b ∧ ((fr && f) = true → K.h0.size ≤ b) := fun b hb => by
              cases hb
              exact ⟨hown, rfl, fun hg => q3 (by simp at hg; exact hg.1)⟩
            by_cases hlo : lo = (X.β id).cap
            · have hz : Eng.sub xs lo hi = [] := List.eq_nil_of_length_eq_zero (by rw [hsl]; omega)
              refine both (some (X.β id).blk) (.inr ⟨(X.β id).blk, (X.β id).off, cs, ty', rfl, by simp [slAddr, q1, hlo], hcur, by rw [hz]; simp, ?_, by rw [hz]; intro i hi; simp at hi⟩) hh
              rw [hlo, Nat.sub_self, Nat.zero_mul]; omega
            · refine both (some (X.β id).blk) (.inr ⟨(X.β id).blk, (X.β id).off + lo * esz P e, cs, ty', rfl, by simp [slAddr, q1, hlo], hcur, by rw [hsl]; omega, ?_, (q6.sub v2).low H (by simp +contextual)⟩) hh
              rw [Nat.add_assoc, ← Nat.add_mul, show lo + ((X.β id).cap - lo) = (X.β id).cap by omega]; exact q5
        · cases h
      · cases h
  · cases h
end
end Go.Eng
end
section
namespace Go.Eng
open Go
section
variable {P : Program} {K : Kx} {X : Cx} {w : World} {lk : Lk}
theorem zhv {α : Type} (l : List α) (h0 : 0 < l.length) : ∀ (n j : Nat), (List.replicate n l).flatten[j]? = if j < n * l.length then l[j % l.length]? else none
  | 0, j => by simp
  | n + 1, j => by
    rw [List.replicate_succ, List.flatten_cons]
    by_cases h : j < l.length
    · rw [List.getElem?_append_left h, if_pos (by rw [Nat.add_mul, Nat.one_mul]; omega), Nat.mod_eq_of_lt h]
    · rw [List.getElem?_append_right (by omega), zhv l h0 n (j - l.length), Nat.add_mul, Nat.one_mul]
      have e : (j - l.length) % l.length = j % l.length := by rw [Nat.mod_eq_sub_mod (a := j) (by omega)]
      rw [e]
      by_cases h2 : j - l.length < n * l.length
      · rw [if_pos h2, if_pos (by omega)]
      · rw [if_neg h2, if_neg (by omega)]
theorem zew (z : Array Value) (h0 : 0 < z.size) (m j : Nat) : (madeCells z m)[j]? = if j < m then z[j % z.size]? else none := by
  have hm := Nat.mod_lt j h0
  unfold madeCells
  rw [Array.getElem?_map, Array.getElem?_range]
  by_cases h : j < m
  · rw [if_pos h, if_pos h]
    simp [hm]
  · rw [if_neg h, if_neg h]; rfl
theorem zhm {xs : List AS} {z : Array Value} (h : RSs P X xs z.toList) (h0 : 0 < xs.length) (n : Nat) : RSs P X (List.replicate n xs).flatten (madeCells z (n * xs.length)).toList := by
  have hl : xs.length = z.size := by simpa using h.length
  refine F2.of_get ?_ fun j x y hx hy => ?_
  · simp [madeCells]
  · rw [zhv xs h0] at hx
    have hy' : (madeCells z (n * xs.length))[j]? = some y := by simpa using hy
    rw [zew z (by omega)] at hy'
    by_cases hj : j < n * xs.length
    · rw [if_pos hj] at hx hy'
      obtain ⟨v, h1, h2⟩ := h.get hx
      rw [← hl] at hy'
      have : z[j % xs.length]? = some v := by simpa using h1
      rw [this] at hy'
      cases hy'
      exact h2
    · rw [if_neg hj] at hx; cases hx
theorem RSs.part {xs : List AS} {vs : List Value} (hf : RSs P X xs vs) : ∀ o n, RSs P X ((xs.drop o).take n) ((vs.drop o).take n) := by
  induction hf with
  | nil => intro o n; simp; exact .nil
  | cons h1 ht ih =>
    intro o n
    cases o with
    | zero =>
      cases n with
      | zero => simp; exact .nil
      | succ n => simp; exact .cons h1 (by have := ih 0 n; simp at this; exact this)
    | succ o => simpa using ih o n
theorem RSs.drop {xs : List AS} {vs : List Value} (hf : RSs P X xs vs) (o : Nat) : RSs P X (xs.drop o) (vs.drop o) := by
  have h1 := hf.part o xs.length
  have hl := hf.length
  rwa [List.take_of_length_le (by simp), List.take_of_length_le (by simp; omega)] at h1
theorem zie {X' : Cx} {all : List Nat} (H : Heap P K X) (hlk : ∀ id, lk id = X.ob id ∨ lk id = .dead) (hf : Frzd P K X w lk all X') {e : TypeId} {us : Array Value} : ∀ {n : Nat} {l : List AS} {off : Nat} {xs : Rw} {f : Bool} {ids : List Nat},
    RSs P X l (us.toList.drop off) → l.length = n * esz P e → rowsC P lk e (esz P e) n l = some (xs, f, ids) → (∀ id ∈ ids, id ∈ all) → RowAt P (Con P X'.h (X'.F f) 7) e us off xs ∧ xs.length = n
  | 0, l, off, xs, f, ids, hr, hl, h, hids => by
    simp [rowsC] at h; obtain ⟨rfl, rfl, rfl⟩ := h
    exact ⟨fun i hi => by simp at hi, rfl⟩
  | n + 1, l, off, xs, f, ids, hr, hl, h, hids => by
    simp only [rowsC] at h
    split at h
    · cases h
    · rename_i c f1 ids1 h1
      split at h
      · cases h
      · rename_i r f2 ids2 h2
        cases h
        rw [Nat.add_mul, Nat.one_mul] at hl
        have ht : RSs P X (l.take (esz P e)) ((us.toList.drop off).take (esz P e)) := by simpa using hr.part 0 (esz P e)
        obtain ⟨t1, t2⟩ := zb8 H hlk hf ht h1 fun id hi => hids id (by simp [hi])
        have hd : RSs P X (l.drop (esz P e)) (us.toList.drop (off + esz P e)) := by rw [← List.drop_drop]; exact hr.drop (esz P e)
        obtain ⟨r1, r2⟩ := zie H hlk hf hd (by simp; omega) h2 fun id hi => hids id (by simp [hi])
        have hcl : c.length = esz P e := by rw [t1]; simp; omega
        refine ⟨fun i hi o ho => ?_, by simp [r2]⟩
        cases i with
        | zero =>
          have hget : c[o]? = some (c.getD o (.i 0)) := by
            have : o < c.length := by omega
            simp [List.getD_eq_getElem?_getD, this]
          obtain ⟨v, a, b⟩ := t2 o _ hget
          refine ⟨v, ?_, ?_⟩
          · rw [List.getElem?_take_of_lt ho, List.getElem?_drop] at a
            simpa using a
          · rw [Nat.zero_add] at b
            have hrd : rd (c :: r) 0 o = c.getD o (.i 0) := rfl
            rw [hrd]
            exact b.mono fun _ _ _ hx => Con.mono (fun n hn => F_low (H := hf.stp.heap) (by simp +contextual) hn) (fun _ _ => rfl) hx
        | succ i =>
          obtain ⟨v, a, b⟩ := r1 i (by simpa using hi) o ho
          refine ⟨v, ?_, ?_⟩
          · rw [← a]; congr 1; rw [Nat.add_mul, Nat.one_mul]; omega
          · have hrd : rd (c :: r) (i + 1) o = rd r i o := rfl
            rw [hrd]
            exact b.mono fun _ _ _ hx => Con.mono (fun n hn => F_low (H := hf.stp.heap) (by simp +contextual) hn) (fun _ _ => rfl) hx
theorem zkj (H : Heap P K X) (hX : X.h = w.heap) (hlk : ∀ id, lk id = X.ob id ∨ lk id = .dead) {nid : Nat} (hd : X.ob nid = .dead) {t e : TypeId} {n : Nat} {ps : Array (Nat × Operand)} {V : Operand → AV} {ρ : Operand → Value}
    (hV : ∀ x ∈ ps.toList.map (·.2), RV P X (V x) (ρ x)) (he : elOf P t = some e) {z : AV} (hz : zero P e = some z) (hn : n * esz P e ≤ 16777216) (hrk : rowOk P e = true) {cs : List AS}
    (hlay : lay (fun i => some (i * esz P e, esz P e)) (List.replicate n z.cells).flatten ((ps.toList.map (·.1)).zip ((ps.toList.map (·.2)).map V)) = some cs) {xs : Rw} {f : Bool} {ids : List Nat} (hrc : rowsC P lk e (esz P e) n cs = some (xs, f, ids)) :
    ValRes P K X w ⟨[], .sc (.ow nid 0), (nid, .rw e f xs 0) :: frz lk ids, 1⟩ (Instr.buildSlice t n (ps.map fun (i, x) => (i, ρ x))) := by
  have hu := zbq he
  obtain ⟨i, zv, za, i1, i2, i3, i4, i5, i6, i7⟩ := zb4 (X := X) hrk
  rw [hz] at i3; cases i3
  have hr0 := zhm i4 (by rw [i5]; exact i7) n
  rw [i5] at hr0
  obtain ⟨rs, r1, r2⟩ := zdi (fun i => rfl) (F2.parts hV) hr0 hlay
  have hcl : cs.length = n * esz P e := by
    have : ∀ (place : Nat → Option (Nat × Nat)) (ps : List (Nat × AV)) (xs r : List AS), lay place xs ps = some r → r.length = xs.length := by
      intro place ps
      induction ps with
      | nil => intro xs r h; simp [lay] at h; rw [h]
      | cons p ps ih =>
        intro xs r h
        obtain ⟨i, v⟩ := p
        simp only [lay] at h
        split at h
        · cases h
        · rename_i o n _
          cases hc : (!v.cells.isEmpty && (Nat.beq v.cells.length n && Nat.ble (o + n) xs.length)) <;> simp [hc] at h
          rw [ih _ _ h, zc4]
    rw [this _ _ _ _ hlay]
    have h1 := hr0.length
    rw [h1]; simp [madeCells]
  obtain ⟨X1, F1⟩ := frzs (w := w) H hX hlk ids
  have hni : nid ∉ ids ∨ True := .inr trivial
  have hd1 : X1.ob nid = .dead := by
    have hk := F1.stp.ext.keep nid
    rw [F1.ob]
    show look (X.ob nid) (frz lk ids) nid = _
    have : ∀ r : List Nat, look (X.ob nid) (frz lk r) nid = .dead := by
      intro r
      induction r with
      | nil => exact hd
      | cons y r ih =>
        unfold frz
        split
        · rename_i hy
          have hne : y ≠ nid := fun h => by
            subst h
            rcases hlk y with h | h <;> rw [hy] at h
            · rw [hd] at h; cases h
            · cases h
          simp only [look, zn hne, cond_false, ih]
        · rename_i e9 c9 xs9 ser9 lo9 iv9 hy
          have hne : y ≠ nid := fun h => by
            subst h
            rcases hlk y with h | h <;> rw [hy] at h
            · rw [hd] at h; cases h
            · cases h
          cases Nat.beq lo9 0 <;> simp only [look, zn hne, cond_false, cond_true, ih]
        · exact ih
    exact this ids
  obtain ⟨q1, q2⟩ := zie (us := rs) (off := 0) H hlk F1 (by simpa using r2) hcl hrc fun _ h => h
  have hrsz : rs.size = n * esz P e := by have := r2.length; rw [hcl] at this; simpa using this.symm
  obtain ⟨X2, a1, a2, a3⟩ := zhj (w := w) (w1 := w) (t := e) F1.stp.heap F1.stp.hX hd1 (e := e) (fr := f) (xs := xs) (us := rs) (cap := n) (by omega) (by omega) q1 rfl rfl rfl rfl
  refine ⟨_, _, X2, ?_, ?_, a2, F1.stp.trans H a3⟩
  · have hsz : (sizeOf e).run P w = .ok (esz P e) w := zdv (by omega) w
    have hle : ¬ (n * esz P e > 2 ^ 24) := by omega
    have hfill : Instr.fill (fun i => some (i * esz P e, esz P e)) (madeCells zv.cells (n * esz P e)) ((ps.map fun (i, x) => (i, ρ x)).toList) = some rs := by rw [Array.toList_map]; exact r1
    unfold madeCells at hfill
    rw [q2]
    simp only [Instr.buildSlice, Sem.run_bind, run_underlying hu, Result.andThen_ok, hsz, if_neg hle, Sem.run_pure]
    by_cases h0 : n * esz P e = 0
    · have hn0 : n = 0 := by
        rcases Nat.mul_eq_zero.1 h0 with h | h
        · exact h
        · omega
      subst hn0
      rw [h0, Array.range_zero', Array.map_empty] at hfill
      simp only [h0, if_true, Sem.run_bind, Sem.run_pure, Result.andThen_ok, Array.range_zero', Array.map_empty, hfill, newRow, run_newObj]
      rfl
    · simp only [h0, if_false, Sem.run_bind, zeroValue, typeInfo, run_program, i1, i2, Result.andThen_ok, Sem.run_pure, hfill, newRow, run_newObj]
      rfl
  · rw [a1, zy, ← F1.ob]
theorem zjp (H : Heap P K X) (hX : X.h = w.heap) (hlk : ∀ id, lk id = X.ob id ∨ lk id = .dead) {nid : Nat} (hd : X.ob nid = .dead) {t e : TypeId} {ps : Array (Nat × Operand)} {V : Operand → AV} {ρ : Operand → Value}
    (hV : ∀ x ∈ ps.toList.map (·.2), RV P X (V x) (ρ x)) (he : elOf P t = some e) {z : AV} (hz : zero P e = some z) (hn : 1 * esz P e ≤ 16777216) (hrk : rowOk P e = true) {cs : List AS}
    (hlay : lay (fun i => some (i * esz P e, esz P e)) (List.replicate 1 z.cells).flatten ((ps.toList.map (·.1)).zip ((ps.toList.map (·.2)).map V)) = some cs) {row : List C} {o : Nat} {e' : TypeId} {j : Nat} (hrc : toD P lk e 0 cs = some (row, some (o, e', j))) (hdk : Dk P e (some (o, e'))) :
    ValRes P K X w ⟨[], .sc (.ow nid 0), [(nid, .dw e (some (o, e')) [row] 0 0 0), (j, .gone)], 1⟩ (Instr.buildSlice t 1 (ps.map fun (i, x) => (i, ρ x))) := by
  have hu := zbq he
  obtain ⟨i, zv, za, i1, i2, i3, i4, i5, i6, i7⟩ := zb4 (X := X) hrk
  rw [hz] at i3; cases i3
  have hr0 := zhm i4 (by rw [i5]; exact i7) 1
  rw [i5] at hr0
  obtain ⟨rs, r1, r2⟩ := zdi (fun i => rfl) (F2.parts hV) hr0 hlay
  have hcl : cs.length = esz P e := by
    have : ∀ (place : Nat → Option (Nat × Nat)) (ps : List (Nat × AV)) (xs r : List AS), lay place xs ps = some r → r.length = xs.length := by
      intro place ps
      induction ps with
      | nil => intro xs r h; simp [lay] at h; rw [h]
      | cons p ps ih =>
        intro xs r h
        obtain ⟨i, v⟩ := p
        simp only [lay] at h
        split at h
        · cases h
        · rename_i o n _
          cases hc : (!v.cells.isEmpty && (Nat.beq v.cells.length n && Nat.ble (o + n) xs.length)) <;> simp [hc] at h
          rw [ih _ _ h, zc4]
    rw [this _ _ _ _ hlay]
    have h1 := hr0.length
    rw [h1]; simp [madeCells]
  obtain ⟨t1, t2, _⟩ := zfc hlk r2 hrc
  have hrsz : rs.size = esz P e := by have := r2.length; rw [hcl] at this; simpa using this.symm
  obtain ⟨d1, d2, d3, d4⟩ := hdk
  have hrowo : ∃ ys ser iv v, row[o]? = some (.l ys) ∧ X.ob j = .dw e' none ys ser 0 iv ∧ rs.toList[o]? = some v ∧ v = .slice (slAddr P e' (X.β j) 0) ys.length (X.β j).cap := by
    have hlt : o < row.length := by omega
    obtain ⟨v, a, b⟩ := t2 o row[o] (by simp [hlt])
    rw [Nat.zero_add, d2] at b
    obtain ⟨j2, ys, ser, iv, b1, b2, b3, b4, b5⟩ := b
    cases b1
    exact ⟨ys, ser, iv, v, by rw [List.getElem?_eq_getElem hlt, b2], b3, a, b5⟩
  obtain ⟨ys, ser, iv, v, w1, hoj, w2, w3⟩ := hrowo
  have hne : j ≠ nid := fun q => by rw [q, hd] at hoj; cases hoj
  have hokj := H.ok j
  unfold AOok at hokj
  rw [hoj] at hokj
  obtain ⟨_, hokj⟩ := hokj
  have hin : ∀ h : Array Obj, ((X.β j).nil = false → h[(X.β j).blk]? = X.h[(X.β j).blk]?) → Inner P h e' (X.β j) v ys := by
    intro h hh
    rcases hokj with ⟨q1, q2, q3⟩ | ⟨q1, q2, q3, ⟨cs', ty, q4, q5, q6⟩, q7⟩
    · exact .inl ⟨q1, q2, q3, by rw [w3, q2, q3]; simp [slAddr, q1]⟩
    · refine .inr ⟨q1, by rw [w3]; simp [slAddr, q1], q2, cs', ty, (hh q1).trans q4, q5, fun i hi o2 ho2 => ?_⟩
      obtain ⟨u, a, b⟩ := q6 i (Nat.zero_le _) hi o2 ho2
      refine ⟨u, a, ?_⟩
      cases hk : ck P e' o2 <;> rw [hk] at b <;> try exact b
      have hm := zbc hk (by simp)
      unfold flat at d3
      simp only [List.all_eq_true] at d3
      have := d3 _ hm
      simp at this
  have hownj : (X.β j).nil = false → Own X j := by
    intro hy
    unfold Own; rw [hoj]
    exact hy
  let w' := w.alloc (.cells rs e)
  let X' : Cx := ⟨upd X.β nid ⟨w.heap.size, 0, 1, false⟩, X.F, upd (upd X.ob j .gone) nid (.dw e (some (o, e')) [row] 0 0 0), w'.heap, upd X.γ nid fun _ => X.β j⟩
  have hob : X'.ob nid = .dw e (some (o, e')) [row] 0 0 0 := upd_same _ _ _
  have hobj : X'.ob j = .gone := (zh _ _ hne).trans (upd_same _ _ _)
  have hβ : X'.β nid = ⟨w.heap.size, 0, 1, false⟩ := upd_same _ _ _
  have hγ : X'.γ nid = fun _ => X.β j := upd_same _ _ _
  have hsz : X.h.size = w.heap.size := by rw [hX]
  have hold : ∀ b, b < X.h.size → X'.h[b]? = X.h[b]? := fun b hb => by
    rw [hX]; exact zb2 w _ (by omega)
  have hnew : ∀ b, Has X' nid b → b = w.heap.size ∨ (Has X j b ∧ (X.β j).nil = false) := by
    intro b ⟨k1, k2⟩
    rcases k2 with k2 | k2
    · left; rw [k2, hβ]
    · right
      unfold InB at k2
      rw [hob, hγ] at k2
      obtain ⟨k, e2, hc, i, _, a, bn, rfl⟩ := k2
      cases hc
      have hi : i = 0 := by simp at a; exact a
      subst hi
      exact ⟨(hownj bn).has, bn⟩
  have hgone : ∀ b, ¬ Has X' j b := fun b ⟨k, _⟩ => by unfold Own at k; rw [hobj] at k; exact k
  have T : Turn P K X X' (fun i => i = nid ∨ i = j) := by
    refine ⟨fun fr b h => h, H.Fle, H.Ffr, fun b h => .inl h, ?_, fun b hb hno => hold b hb, fun i h => ?_, fun i h => zh _ _ fun q => h (.inl q), fun i h => zh _ _ fun q => h (.inl q), fun i h => ?_, fun i b h ho => ?_, fun i i' b h h' k k' => ?_⟩
    · show _ ≤ (w.heap.push _).size
      rw [hsz]; simp
    · exact (zh _ _ fun q => h (.inl q)).trans (zh _ _ fun q => h (.inr q))
    · rcases h with rfl | rfl
      · unfold Keeps; rw [hd]; trivial
      · unfold Keeps; rw [hoj]; exact .inl hobj
    · rcases h with rfl | rfl
      · rcases hnew b ho with q | ⟨q, _⟩
        · exact ⟨.inl (by omega), fun hF => by have := H.Fsz _ hF; omega⟩
        · exact ⟨.inr ⟨j, .inr rfl, q⟩, H.nF j b q⟩
      · exact (hgone b ho).elim
    · rcases h with rfl | rfl <;> rcases h' with rfl | rfl
      · rfl
      · exact (hgone b k').elim
      · exact (hgone b k).elim
      · rfl
  have S : Stp P K X w X' w' := by
    refine T.stp H (fun i h => ?_) rfl rfl rfl rfl (fun i cells h hc => ?_)
    · rcases h with rfl | rfl
      · unfold AOok
        rw [hob, hβ, hγ]
        refine ⟨⟨d1, d2, d3, d4⟩, .inr ⟨rfl, Nat.le_refl _, Nat.zero_le _, ⟨rs, e, zb7 w _, by simp [hrsz], fun i _ hi o2 ho2 => ?_⟩, fun k e2 hc i _ a bn => ?_⟩⟩
        · have hi : i = 0 := by simp at hi; exact hi
          subst hi
          have hlt : o2 < row.length := by omega
          obtain ⟨u, a, b⟩ := t2 o2 row[o2] (by simp [hlt])
          have hrd2 : rd [row] 0 o2 = row[o2] := by
            show row.getD o2 (.i 0) = _
            simp [List.getD_eq_getElem?_getD, hlt]
          refine ⟨u, by simpa using a, ?_⟩
          rw [hrd2]
          rw [Nat.zero_add] at b
          cases hk : ck P e o2 <;> rw [hk] at b <;> try exact b
          obtain ⟨j2, ys2, ser2, iv2, b1, b2, b3, b4, b5⟩ := b
          cases b1
          rw [b2]
          rw [hoj] at b3; cases b3
          have huv : u = v := by rw [b5, w3]
          rw [huv]
          exact hin _ fun hy => hold _ ((hownj hy).lt H)
        · cases hc
          have hi : i = 0 := by simp at a; exact a
          subst hi
          refine ⟨fun q => ?_, fun j' _ ja _ _ => by simp at ja; exact ja.symm⟩
          have := (hownj bn).lt H
          rw [q] at this
          simp at this; omega
      · unfold AOok; rw [hobj]; trivial
    · rcases h with rfl | rfl
      · rw [hd] at hc; cases hc
      · rw [hoj] at hc; cases hc
  refine ⟨.slice (some ⟨w.heap.size, 0, none⟩) 1 1, w', X', ?_, ?_, ?_, S⟩
  · have hsz : (sizeOf e).run P w = .ok (esz P e) w := zdv (by omega) w
    have hle : ¬ (1 * esz P e > 2 ^ 24) := by omega
    have hfill : Instr.fill (fun i => some (i * esz P e, esz P e)) (madeCells zv.cells (1 * esz P e)) ((ps.map fun (i, x) => (i, ρ x)).toList) = some rs := by rw [Array.toList_map]; exact r1
    unfold madeCells at hfill
    have h0 : 1 * esz P e ≠ 0 := by omega
    simp only [Instr.buildSlice, Sem.run_bind, run_underlying hu, Result.andThen_ok, hsz, if_neg hle, Sem.run_pure]
    simp only [h0, if_false, Sem.run_bind, zeroValue, typeInfo, run_program, i1, i2, Result.andThen_ok, Sem.run_pure, hfill, newRow, run_newObj]
    rfl
  · show upd (upd X.ob j .gone) nid _ = _
    rw [zy, zl]
  · refine ⟨⟨_, _, _, rfl⟩, RefRw.mkO (.inr ⟨_, _, _, hob⟩) rfl ?_⟩
    rw [hβ]; simp [slAddr]
end
end Go.Eng
end
section
namespace Go.Eng
open Go Go.Lib
section
variable {P : Program} {K : Kx} {X : Cx} {w : World} {lk : Lk}
theorem Frzd.none (H : Heap P K X) (hX : X.h = w.heap) : Frzd P K X w lk [] X := ⟨Stp.refl H hX, rfl, rfl, rfl, rfl, fun _ h => by simp at h, fun _ h => by simp at h⟩
theorem ziu (H : Heap P K X) (hX : X.h = w.heap) (hlk : ∀ id, lk id = X.ob id ∨ lk id = .dead) {nid : Nat} (hd : X.ob nid = .dead) {t e : TypeId} (he : elOf P t = some e) {z : AV} (hz : zero P e = some z) {c : List C}
    (hc : toCs P lk e 0 z.cells = some (c, true, [])) (hby : ebytes P e ≤ 128) (hrk : rowOk P e = true) {k k' : IntKind} {n m : Int} (h0 : 0 ≤ n) (hnm : n = m) (hmost : n ≤ most) :
    ValRes P K X w ⟨[decide (0 ≤ n), n == m, decide (n ≤ most)], .sc (.ow nid 0), [(nid, .rw e true (List.replicate n.toNat c) 0)], 1⟩ (Instr.makeSlice t (.int k n) (.int k' m)) := by
  subst hnm
  have ht := zbq he
  obtain ⟨i, zv, za, i1, i2, i3, i4, i5, i6, i7⟩ := zb4 (X := X) hrk
  rw [hz] at i3; cases i3
  have hsz : i.size = esz P e := by simp [esz, i1]
  have hb : i.bytes ≤ 128 := by simpa [ebytes, i1] using hby
  unfold most at hmost
  have hbytes : (i.bytes : Int) * n ≤ 281474976710656 := by
    have h1 : (i.bytes : Int) * n ≤ 128 * n := Int.mul_le_mul_of_nonneg_right (by omega) h0
    omega
  have hrun := run_make (P := P) w t e i zv ht i1 i2 k k' n n h0 (Int.le_refl _) hbytes (by omega)
  rw [hsz] at hrun
  obtain ⟨t1, t2⟩ := zb8 H hlk (Frzd.none H hX) i4 hc fun _ h => h
  have hrow : RowAt P (Con P X.h (X.F true) 7) e (madeCells zv.cells (n.toNat * esz P e)) 0 (List.replicate n.toNat c) := by
    intro j hj o ho
    rw [List.length_replicate] at hj
    have hlt : j * esz P e + o < n.toNat * esz P e := by
      have := Nat.mul_le_mul_right (esz P e) (show j + 1 ≤ n.toNat from hj)
      rw [Nat.add_mul] at this; omega
    have hget : c[o]? = some (c.getD o (.i 0)) := by
      have : o < c.length := by omega
      simp [List.getD_eq_getElem?_getD, this]
    obtain ⟨v, a, b⟩ := t2 o _ hget
    refine ⟨v, ?_, ?_⟩
    · rw [Nat.zero_add, zew _ (by omega), if_pos hlt, i6]
      have : (j * esz P e + o) % esz P e = o := by rw [Nat.mul_comm, Nat.mul_add_mod, Nat.mod_eq_of_lt ho]
      rw [this]; simpa using a
    · have hrd : rd (List.replicate n.toNat c) j o = c.getD o (.i 0) := by
        have : (List.replicate n.toNat c).getD j [] = c := by simp [List.getD_eq_getElem?_getD, hj]
        simp only [rd, this]
      rw [hrd]; simpa using b
  obtain ⟨X2, a1, a2, a3⟩ := zhj (w := w) (w1 := w) (t := e) H hX hd (e := e) (fr := true) (xs := List.replicate n.toNat c) (us := madeCells zv.cells (n.toNat * esz P e)) (cap := n.toNat) (by simp) (by simp [madeCells]) hrow rfl rfl rfl rfl
  refine ⟨_, _, X2, hrun, a1.trans (zl _ _ _).symm, ?_, a3⟩
  simpa using a2
theorem zjd (H : Heap P K X) (hX : X.h = w.heap) (hlk : ∀ id, lk id = X.ob id ∨ lk id = .dead) {nid : Nat} (hd : X.ob nid = .dead) {t e : TypeId} (he : elOf P t = some e) {z : AV} (hz : zero P e = some z) {c : List C}
    (hc : toCs P lk e 0 z.cells = some (c, true, [])) (hby : ebytes P e ≤ 128) (hrk : rowOk P e = true) {k k' : IntKind} {n m : Int} (h0 : 0 ≤ n) (hnm : n = m) (hmost : n ≤ most) {kd : Nat} {e' : TypeId} (hdc : dcol P e z = some (kd, e')) :
    ValRes P K X w ⟨[decide (0 ≤ n), n == m, decide (n ≤ most)], .sc (.ow nid 0), [(nid, .dw e (some (kd, e')) (List.replicate n.toNat c) 0 0 0)], 1⟩ (Instr.makeSlice t (.int k n) (.int k' m)) := by
  subst hnm
  have ht := zbq he
  obtain ⟨i, zv, za, i1, i2, i3, i4, i5, i6, i7⟩ := zb4 (X := X) hrk
  rw [hz] at i3; cases i3
  have hsz : i.size = esz P e := by simp [esz, i1]
  have hb : i.bytes ≤ 128 := by simpa [ebytes, i1] using hby
  have hmost' := hmost
  unfold most at hmost
  have hbytes : (i.bytes : Int) * n ≤ 281474976710656 := by
    have h1 : (i.bytes : Int) * n ≤ 128 * n := Int.mul_le_mul_of_nonneg_right (by omega) h0
    omega
  have hrun := run_make (P := P) w t e i zv ht i1 i2 k k' n n h0 (Int.le_refl _) hbytes (by omega)
  rw [hsz] at hrun
  obtain ⟨t1, t2⟩ := zb8 H hlk (Frzd.none H hX) i4 hc fun _ h => h
  unfold dcol at hdc
  split at hdc
  · rename_i k1 e1 _
    cases hq : (dkB P e (some (k1, e1)) && (z.cells.getD k1 .un).isNs) <;> simp only [hq, cond_false, cond_true] at hdc
    · cases hdc
    cases hdc
    simp only [Bool.and_eq_true] at hq
    have hdk := ze9 hq.1
    obtain ⟨d1, d2, d3, d4⟩ := hdk
    have hzk : z.cells[kd]? = some .ns := by
      have h2 := hq.2
      rw [List.getD_eq_getElem?_getD] at h2
      cases hx : z.cells[kd]? with
      | none => rw [hx] at h2; cases h2
      | some x => rw [hx] at h2; cases x <;> first | rfl | cases h2
    have hcells : ∀ o, o < esz P e → ∃ v, zv.cells[o]? = some v ∧ match ck P e o with
        | .sl e2 => v = .slice none 0 0 ∧ (c.getD o (.i 0)).list = []
        | kk => CellOk (fun _ _ _ => False) kk v (c.getD o (.i 0)) := by
      intro o ho
      have hget : c[o]? = some (c.getD o (.i 0)) := by
        have : o < c.length := by omega
        simp [List.getD_eq_getElem?_getD, this]
      obtain ⟨v, a, b⟩ := t2 o _ hget
      rw [Nat.zero_add] at b
      refine ⟨v, by simpa using a, ?_⟩
      cases hk : ck P e o <;> rw [hk] at b <;> try exact b
      rename_i e2
      have := d4 o e2 hk
      subst this
      obtain ⟨v', a', b'⟩ := i4.get hzk
      rw [a] at a'; cases a'
      have hv : v = .slice none 0 0 := b'
      refine ⟨hv, ?_⟩
      obtain ⟨A, cap, e9, e8, _⟩ := b
      rw [hv] at e9
      cases hl : (c.getD o (.i 0)).list with
      | nil => rfl
      | cons y r => rw [hl] at e9; simp at e9
    let w' := w.alloc (.cells (madeCells zv.cells (n.toNat * esz P e)) e)
    let X' : Cx := ⟨upd X.β nid (locAt w n.toNat), X.F, upd X.ob nid (.dw e (some (kd, e')) (List.replicate n.toNat c) 0 0 0), w'.heap, upd X.γ nid fun _ => ⟨0, 0, 0, true⟩⟩
    have hob : X'.ob nid = .dw e (some (kd, e')) (List.replicate n.toNat c) 0 0 0 := upd_same _ _ _
    have hβ : X'.β nid = locAt w n.toNat := upd_same _ _ _
    have hγ : X'.γ nid = fun _ => ⟨0, 0, 0, true⟩ := upd_same _ _ _
    have hsz : X.h.size = w.heap.size := by rw [hX]
    have hold : ∀ b, b < X.h.size → X'.h[b]? = X.h[b]? := fun b hb => by
      rw [hX]; exact zb2 w _ (by omega)
    have hnew : ∀ b, Has X' nid b → b = w.heap.size := by
      intro b ⟨_, k2⟩
      rcases k2 with k2 | k2
      · rw [k2, hβ]; rfl
      · unfold InB at k2
        rw [hob, hγ] at k2
        obtain ⟨_, _, _, _, _, _, h, _⟩ := k2
        cases h
    have T : Turn P K X X' (fun i => i = nid) := by
      refine ⟨fun fr b h => h, H.Fle, H.Ffr, fun b h => .inl h, ?_, fun b hb hno => hold b hb, fun i h => zh _ _ h, fun i h => zh _ _ h, fun i h => zh _ _ h, fun i h => ?_, fun i b h ho => ?_, fun i i' b h h' m m' => h.trans h'.symm⟩
      · show _ ≤ (w.heap.push _).size
        rw [hsz]; simp
      · subst h; unfold Keeps; rw [hd]; trivial
      · subst h
        have := hnew b ho
        exact ⟨.inl (by omega), fun hF => by have := H.Fsz _ hF; omega⟩
    have S : Stp P K X w X' w' := by
      refine T.stp H (fun i h => ?_) rfl rfl rfl rfl (fun i cells h hc => ?_)
      · subst h
        unfold AOok
        rw [hob, hβ, hγ]
        refine ⟨⟨d1, d2, d3, d4⟩, .inr ⟨rfl, by simp [locAt], Nat.zero_le _, ⟨_, e, zb7 w _, by simp [locAt, madeCells], fun j _ hj o ho => ?_⟩, fun k2 e2 hc j _ a bn => by cases bn⟩⟩
        rw [List.length_replicate] at hj
        have hlt : j * esz P e + o < n.toNat * esz P e := by
          have := Nat.mul_le_mul_right (esz P e) (show j + 1 ≤ n.toNat from hj)
          rw [Nat.add_mul] at this; omega
        obtain ⟨v, a, b⟩ := hcells o ho
        have hrd : rd (List.replicate n.toNat c) j o = c.getD o (.i 0) := by
          have : (List.replicate n.toNat c).getD j [] = c := by simp [List.getD_eq_getElem?_getD, hj]
          simp only [rd, this]
        rw [hrd]
        refine ⟨v, ?_, ?_⟩
        · show (madeCells zv.cells (n.toNat * esz P e))[0 + j * esz P e + o]? = _
          rw [Nat.zero_add, zew _ (by omega), if_pos hlt, i6]
          have : (j * esz P e + o) % esz P e = o := by rw [Nat.mul_comm, Nat.mul_add_mod, Nat.mod_eq_of_lt ho]
          rw [this]; exact a
        · cases hk : ck P e o <;> rw [hk] at b <;> try exact b
          exact .inl ⟨rfl, b.2, rfl, b.1⟩
      · subst h; rw [hd] at hc; cases hc
    refine ⟨_, w', X', hrun, (zl _ _ _).symm, ?_, S⟩
    refine ⟨⟨_, _, _, rfl⟩, RefRw.mkO (.inr ⟨_, _, _, hob⟩) rfl ?_⟩
    rw [hβ]
    simp [slAddr, locAt]
  · cases hdc
theorem zk9 (H : Heap P K X) (hX : X.h = w.heap) {nid : Nat} (hd : X.ob nid = .dead) {src dst e : TypeId} {u : TypeDesc} (hs : P.underlying src = some u) (hdst : P.underlying dst = some (.slice e)) (he : P.underlying e = some (.int .u8)) (h1 : esz P e = 1) (z : ByteArray) :
    ValRes P K X w ⟨[], .sc (.ow nid 0), [(nid, .fz e true (rowsOf z) 0)], 1⟩ (convert src dst (.string z)) := by
  have hrun := run_convert_string_bytes (P := P) w src dst e z hs hdst he
  have hcap := grownCap_ge w z.size 0 e
  refine ⟨_, bytesWorld w e z, X.new nid (locAt w (grownCap w z.size 0 e)) (.fz e true (rowsOf z) 0) (bytesWorld w e z).heap true, hrun, (zl _ _ _).symm, ?_, ?_⟩
  · refine ⟨⟨_, _, _, rfl⟩, RefRw.mk (.inr (upd_same _ _ _)) rfl ?_⟩
    simp [Cx.new, locAt, slAddr, zci]
  · refine Stp.new H hX hd (bytesWorld_size w e z) (fun b hb => bytesWorld_at_old w e z b hb) rfl rfl rfl rfl (fun _ ho => by unfold Own at ho; simp [Cx.new] at ho) fun E => ?_
    unfold AOok
    simp only [Cx.new, upd_same]
    refine .inr ⟨rfl, by rw [zci]; exact hcap, by simp, _, e, _, bytesWorld_at_new w e z, fun i hi o ho => ?_⟩
    have ho0 : o = 0 := by omega
    subst ho0
    rw [zci] at hi
    have hi' : i < z.data.toList.length := by simpa using hi
    refine ⟨.int .u8 ((z.data.toList[i]).toNat : Int), ?_, ?_⟩
    · have hlt : i < (z.data.map fun b => Value.int .u8 (b.toNat : Int)).size := by simpa using hi
      have hidx : (locAt w (grownCap w z.size 0 e)).off + i * esz P e + 0 = i := by simp [locAt, h1]
      rw [hidx]
      unfold bytesCells
      rw [Array.getElem?_append_left hlt, Array.getElem?_map, Array.getElem?_eq_getElem (by simpa using hi)]
      simp
    · have hk : ck P e 0 = .i .u8 := by simp [ck, kinds, he]
      rw [hk]
      have : (rowsOf z).getD i [] = [C.i ((z.data.toList[i]).toNat : Int)] := by
        simp only [rowsOf, List.getD_eq_getElem?_getD, List.getElem?_map, List.getElem?_eq_getElem hi']; rfl
      simp only [CellOk, rd, this]
      rfl
theorem zmv (H : Heap P K X) (hX : X.h = w.heap) (hlk : ∀ id, lk id = X.ob id ∨ lk id = .dead) {t : TypeId} {m k x : AV} {vm vk vx : Value} (hm : RV P X m vm) (hk : RV P X k vk) (hx : RV P X x vx) {r : AR} (h : amapup P lk t m k x = some r) :
    UnitRes P K X w r (Instr.mapUpdate t vm vk vx) := by
  unfold amapup at h
  split at h
  · rename_i id k x
    split at h
    · rename_i kt vt kt' vt' es hu hl
      cases hb : (Nat.beq kt kt' && Nat.beq vt vt') <;> simp only [hb, cond_false, cond_true] at h
      · cases h
      simp only [Bool.and_eq_true] at hb
      have e1 := zb hb.1; have e2 := zb hb.2; subst e1 e2
      split at h
      · rename_i kc vc h1 h2
        cases h
        have ho := lk_rw hlk hl (by simp)
        obtain ⟨kk, hp, hpk⟩ := zfl h1
        have hkc := zdd hk h1
        rw [hpk] at hkc
        have hvc := zdd hx h2
        have hud : ∃ d, P.underlying kt = some d := by
          rcases zcd hp with ⟨_, hu⟩ | ⟨_, hu⟩ | ⟨j, _, hu⟩ <;> exact ⟨_, hu⟩
        obtain ⟨d, hud⟩ := hud
        have hv : vm = .map (some (X.β id).blk) := by
          have := (show RefMp X id _ from hm)
          unfold RefMp at this
          rw [ho] at this
          exact this
        subst hv
        have hk2 := H.ok id
        unfold AOok at hk2
        rw [ho] at hk2
        obtain ⟨ents, clock, a1, a2⟩ := hk2
        have hg : w.heap[(X.β id).blk]? = some (.map ents clock) := by rw [← hX]; exact a1
        have hlt : (X.β id).blk < w.heap.size := (Array.getElem?_eq_some_iff.1 hg).1
        obtain ⟨res, r1, r2, r3⟩ := zep hp hud hkc 0 a2
        have hfind := zgz (w := w) hud r1
        have hset : ∀ o', (setObj (X.β id).blk o').run P w = .ok () { w with heap := w.heap.setIfInBounds (X.β id).blk o' } := by
          intro o'; simp [setObj, Sem.run, hg]
        have hown : Own X id := by unfold Own; rw [ho]; trivial
        have fin : ∀ (ents' : Array MapEntry) (clock' : Nat), MapOk P kt vt (mput kk kc vc es) ents'.toList → (Instr.mapUpdate t (.map (some (X.β id).blk)) vk vx).run P w = .ok () { w with heap := w.heap.setIfInBounds (X.β id).blk (.map ents' clock') } →
            UnitRes P K X w ⟨[], .sc .ud, [(id, .mp kt vt (mput (pk P kt) kc vc es))], 0⟩ (Instr.mapUpdate t (.map (some (X.β id).blk)) vk vx) := by
          intro ents' clock' hmo hrun
          refine ⟨rfl, _, X.wrt id (X.β id) (.mp kt vt (mput (pk P kt) kc vc es)) (w.heap.setIfInBounds (X.β id).blk (.map ents' clock')), hrun, (zl _ _ _).symm, ?_⟩
          refine Stp.write (w' := { w with heap := w.heap.setIfInBounds (X.β id).blk (.map ents' clock') }) H hX hown (by simp) (fun b hb => ?_) rfl rfl rfl rfl ?_ (fun E => ?_) (fun cells' hc' => ?_)
          · show (w.heap.setIfInBounds _ _)[b]? = _
            rw [Array.getElem?_setIfInBounds, if_neg (Ne.symm hb)]
          · unfold Keeps; rw [ho]; exact ⟨⟨_, _, _, upd_same _ _ _⟩, upd_same _ _ _⟩
          · unfold AOok
            simp only [Cx.wrt, upd_same]
            refine ⟨ents', clock', ?_, by rw [hpk]; exact hmo⟩
            show (w.heap.setIfInBounds _ _)[_]? = _
            rw [Array.getElem?_setIfInBounds, if_pos rfl, if_pos hlt]
          · rw [ho] at hc'; cases hc'
        rcases r2 with ⟨b1, b2⟩ | ⟨j, v, c, b1, b2, b3, b4, b5⟩
        · refine fin (ents.push { key := vk, val := vx, born := clock }) (clock + 1) (by rw [Array.toList_push]; exact r3 b1 vx vc clock hvc) ?_
          subst b1
          unfold Instr.mapUpdate
          simp only [Sem.run_bind, run_underlying hu, Result.andThen_ok, zem hg, zd1 hp, hfind, hset]
        · obtain ⟨c1, c2⟩ := b5 vx vc hvc
          subst b1
          have hj : j < ents.size := by simpa using b4
          have hold : ((ents[0 + j]?).map (·.key)).getD vk = ents[j].key := by
            rw [Nat.zero_add, Array.getElem?_eq_getElem hj]; rfl
          have hsame : Instr.sameBits 10000 ents[j].key vk = true := c1 ents[j] (by rw [Array.getElem?_toList, Array.getElem?_eq_getElem hj])
          refine fin (ents.modify (0 + j) fun e => { e with key := vk, val := vx }) clock (by rw [Array.toList_modify, Nat.zero_add]; exact c2) ?_
          unfold Instr.mapUpdate
          simp only [Sem.run_bind, run_underlying hu, Result.andThen_ok, zem hg, zd1 hp, hfind, hold, Instr.keyThatStays, hsame, if_true, Sem.run_pure, hset]
      · cases h
    · cases h
  · cases h
theorem zlc (H : Heap P K X) (hX : X.h = w.heap) (hlk : ∀ id, lk id = X.ob id ∨ lk id = .dead) {nid : Nat} {src dst : TypeId} {a : AV} {va : Value} (ha : RV P X a va) {r : AR} (h : aconv P lk nid src dst a = some r)
    (hd : r.nn ≠ 0 → X.ob nid = .dead) : ValRes P K X w r (convert src dst va) := by
  by_cases hn : r.nn = 0
  · exact zm0 H hX hlk ha h hn
  · unfold aconv at h
    split at h
    · rename_i x
      split at h
      · unfold sc at h; cases h; simp at hn
      · unfold sc at h; cases h; simp at hn
      · rename_i e z h1 h2
        split at h
        · rename_i h3
          cases hb : Nat.beq (esz P e) 1 <;> simp only [hb, cond_false, cond_true] at h
          · cases h
          cases h
          simp only [RV, RS] at ha
          subst ha
          exact zk9 H hX (hd hn) h1 h2 h3 (zb hb) z
        · cases h
      · rename_i e h1 h2
        split at h
        · rename_i e' fr xs ids h3 h4
          cases hb : ((fits e e' && Nat.beq (esz P e) 1) && shal lk ids) <;> simp only [hb, cond_false, cond_true] at h
          · cases h
          unfold sc at h; cases h; simp at hn
        · cases h
      · cases h
    · cases h
end
end Go.Eng
end
section
namespace Go.Eng
open Go
section
variable {P : Program} {K : Kx} {X : Cx} {w : World} {lk : Lk}
def OpRes (P : Program) (K : Kx) (X : Cx) (w : World) (r : AR) (s : Sem Next) : Prop :=
  ∃ n v w' X', s.run P w = .ok n w' ∧ (n = .value v ∨ (n = .skip ∧ v = undef)) ∧ X'.ob = updl X.ob r.ws ∧ RV P X' r.v v ∧ Stp P K X w X' w'
theorem OpRes.val {r : AR} {s : Sem Value} (h : ValRes P K X w r s) : OpRes P K X w r (do pure (.value (← s))) := by
  obtain ⟨v, w', X', h1, h2, h3, h4⟩ := h
  exact ⟨_, v, w', X', by simp only [Sem.run_bind, h1, Result.andThen_ok, Sem.run_pure], .inl rfl, h2, h3, h4⟩
theorem OpRes.unit {r : AR} {s : Sem Unit} (h : UnitRes P K X w r s) : OpRes P K X w r (do s; pure .skip) := by
  obtain ⟨h0, w', X', h1, h2, h3⟩ := h
  exact ⟨_, undef, w', X', by simp only [Sem.run_bind, h1, Result.andThen_ok, Sem.run_pure], .inr ⟨rfl, rfl⟩, h2, by rw [h0]; rfl, h3⟩
theorem OpRes.now {r : AR} {v : Value} (H : Heap P K X) (hX : X.h = w.heap) (hw : r.ws = []) (hv : RV P X r.v v) : OpRes P K X w r (pure (.value v)) :=
  ⟨_, v, w, X, rfl, .inl rfl, by rw [hw]; rfl, hv, Stp.refl H hX⟩
theorem zll (H : Heap P K X) (hX : X.h = w.heap) (hlk : ∀ id, lk id = X.ob id ∨ lk id = .dead) {b : Builtin} {ats : Array TypeId} {nid : Nat} {vs : List AV} {us : List Value} (hv : F2 (RV P X) vs us) {r : AR} (h : acall P b ats lk nid vs = some r)
    (hg : ∀ b ∈ r.gs, b = true) (hd : r.nn ≠ 0 → X.ob nid = .dead) (ty : TypeId) (cs : Array Bool) : OpRes P K X w r (builtin b ats ty cs us.toArray) := by
  unfold acall at h
  split at h
  · rename_i z
    split at h
    · rename_i hu
      unfold sc at h; cases h
      cases hv with
      | cons h1 ht =>
        cases ht
        simp only [RV, RS] at h1
        subst h1
        obtain ⟨t, ht, hu⟩ := Option.bind_eq_some_iff.1 hu
        refine .val (s := Builtin.len_ ats ty _) (.pure (v := .int .i64 (z.size : Int)) H hX rfl ?_ rfl)
        simp [Builtin.len_, ht, run_underlying hu, goInt]
    · cases h
  · rename_i x _
    split at h
    · rename_i e hu
      split at h
      · rename_i e' fr xs ids hc
        unfold sc at h; cases h
        cases hv with
        | cons h1 ht =>
          cases ht
          rename_i v
          obtain ⟨t, ht, hu⟩ := Option.bind_eq_some_iff.1 hu
          have hrd : ∃ A cap, v = .slice A xs.length cap := by
            cases e' with
            | none => obtain ⟨A, cap, h, _⟩ := (zfh H hlk h1 hc (e := 0) rfl).1; exact ⟨A, cap, h⟩
            | some e' => obtain ⟨A, cap, h, _⟩ := (zfh H hlk h1 hc (e := e') (by simp [fits])).1; exact ⟨A, cap, h⟩
          obtain ⟨A, cap, rfl⟩ := hrd
          refine .val (s := Builtin.len_ ats ty _) (.pure (v := .int .i64 (xs.length : Int)) H hX rfl ?_ rfl)
          simp [Builtin.len_, ht, run_underlying hu, goInt]
      · cases h
    · cases h
  · rename_i s x
    split at h
    · rename_i st u hats
      have hats' : ats = #[st, u] := by rw [← hats]
      subst hats'
      cases hv with
      | cons h1 ht =>
        cases ht with
        | cons h2 ht =>
          cases ht
          rename_i v1 v2
          have key : ∀ d, P.underlying u = some d → (∀ k, d ≠ .int k) → aappend P lk nid st s x = some r → OpRes P K X w r (builtin .append #[st, u] ty cs #[v1, v2]) := by
            intro d hu hdk h
            exact .val (s := Builtin.append_ #[st, u] ty _) (zmn H hX hlk hu hdk h1 h2 h hg hd)
          split at h
          · rename_i hu; exact key _ hu (by simp) h
          · rename_i hu; exact key _ hu (by simp) h
          · cases h
    · cases h
  · rename_i k a r'
    split at h
    · rename_i x hx
      unfold sc at h; cases h
      cases hv with
      | cons h1 ht =>
        simp only [RV, RS] at h1
        subst h1
        obtain ⟨v, m1, m2⟩ := zdw (w := w) (mx := true) ht hx
        refine .val (s := Builtin.max_ ats ty _) (.pure (v := v) H hX rfl ?_ m2)
        simpa [Builtin.max_] using m1
    · cases h
  · rename_i k a r'
    split at h
    · rename_i x hx
      unfold sc at h; cases h
      cases hv with
      | cons h1 ht =>
        simp only [RV, RS] at h1
        subst h1
        obtain ⟨v, m1, m2⟩ := zdw (w := w) (mx := false) ht hx
        refine .val (s := Builtin.min_ ats ty _) (.pure (v := v) H hX rfl ?_ m2)
        simpa [Builtin.min_] using m1
    · cases h
  · cases h
theorem zmx (H : Heap P K X) (hX : X.h = w.heap) (hlk : ∀ id, lk id = X.ob id ∨ lk id = .dead) {a : AV} {va : Value} (ha : RV P X a va) {r : AR} (h : anil lk a = some r) : (∃ A, va = .pointer (some A)) ∧ r.ws = [] ∧ RV P X r.v va ∧ r.gs = [] := by
  unfold anil at h
  split at h
  · unfold sc at h; cases h
    exact ⟨⟨_, (show RefBx X _ _ from ha).get⟩, rfl, ha, rfl⟩
  · unfold sc at h; cases h
    obtain ⟨_, _, _, _, _, h, _⟩ := (show RS P X (.pe _ _ _ _ _) va from ha)
    exact ⟨⟨_, h⟩, rfl, ha, rfl⟩
  · rename_i id n ix o
    cases hn : now lk id n <;> simp [hn, sc] at h
    subst h
    obtain ⟨e, xs, ser, ho, hs⟩ := zgl hlk hn
    obtain ⟨_, _, hv⟩ := (show RS P X (.po id n ix o) va from ha).2.getO ho hs
    exact ⟨⟨_, hv⟩, rfl, ha, rfl⟩
  · cases h
theorem zfo : ∀ {vs : List AV} {us : List Value} {caps : List (Nat × Nat)}, F2 (RV P X) vs us → capsOf vs = some caps → (∀ c ∈ caps, RefBx X c.1 True) ∧ us = caps.map fun c => Value.pointer (some ((X.β c.1).ptr c.2))
  | [], us, caps, hf, h => by cases hf; simp [capsOf] at h; subst h; simp
  | v :: vs, us, caps, hf, h => by
    cases hf with
    | cons h1 ht =>
      unfold capsOf at h
      split at h
      · cases (by assumption : v :: vs = [])
      · rename_i id off r heq
        cases heq
        split at h
        · rename_i cs hc
          cases h
          obtain ⟨a, b⟩ := zfo ht hc
          have hr := (show RefBx X id _ from h1)
          refine ⟨fun c hc => ?_, by rw [b, hr.get]; rfl⟩
          rcases List.mem_cons.1 hc with rfl | hc
          · exact hr.imp fun _ => trivial
          · exact a c hc
        · cases h
      · cases h
theorem F2.of_map {l : List Operand} {V : Operand → AV} {ρ : Operand → Value} (h : ∀ x ∈ l, RV P X (V x) (ρ x)) : F2 (RV P X) (l.map V) (l.map ρ) := by
  induction l with
  | nil => exact .nil
  | cons x l ih => exact .cons (h x (by simp)) (ih fun y hy => h y (by simp [hy]))
set_option maxHeartbeats 1000000 in
theorem zl4 (H : Heap P K X) (hX : X.h = w.heap) (hlk : ∀ id, lk id = X.ob id ∨ lk id = .dead) {o : Oper} {V : Operand → AV} {ρ : Operand → Value} (hV : ∀ x ∈ o.op.operands.toList, RV P X (V x) (ρ x)) (hgl : ∀ g, ∃ ad, ρ (.global g) = .pointer (some ad)) {nid : Nat} {r : AR}
    (h : acore P o.op lk nid (o.op.operands.toList.map V) = some r) (hg : ∀ b ∈ r.gs, b = true) (hd : r.nn ≠ 0 → X.ob nid = .dead) : OpRes P K X w r (execOp ρ o) := by
  unfold execOp
  cases hop : o.op <;> rw [hop] at h hV <;> simp only [acore, Op.operands, List.map_cons, List.map_nil] at h <;> (try (cases h; done)) <;> simp only [Op.operands, List.mem_cons, List.not_mem_nil, or_false, forall_eq_or_imp, forall_eq] at hV
  case move x => unfold AR.pure at h; cases h; exact .now H hX rfl hV
  case assign x => unfold AR.pure at h; cases h; exact .now H hX rfl hV
  case pick c a b =>
    obtain ⟨h1, h2, h3⟩ := hV
    unfold apick at h
    split at h
    · rename_i cb hc
      unfold AR.pure at h; cases h
      rw [hc] at h1
      simp only [RV, RS] at h1
      refine ⟨Next.value (if cb then ρ a else ρ b), if cb then ρ a else ρ b, w, X, ?_, .inl rfl, rfl, ?_, Stp.refl H hX⟩
      · show Sem.run P (do let b1 ← asBool (ρ c); pure (Next.value (if b1 = true then ρ a else ρ b))) w = _
        simp only [h1, asBool, Sem.run_bind, Sem.run_pure, Result.andThen_ok]
      · cases cb <;> assumption
    · cases h
  case alloc t =>
    split at h
    · rename_i z hz; cases h; exact .val (zlg H hX (hd (by simp)) hz _)
    · cases h
  case box t x =>
    unfold abox at h
    split at h
    · cases h
    · cases h; exact .val (zmb H hX (hd (by simp)) hV)
  case build t ps =>
    unfold abuild at h
    split at h
    · rename_i z fs hz hu
      cases hc : (fs.toList.all fun f => (P.info? f.type).isSome) <;> simp only [hc, cond_false, cond_true] at h
      · cases h
      split at h
      · rename_i cs hl
        unfold AR.pure at h; cases h
        exact .val (zl1 H hX (fun x hx => hV x (by simpa using hx)) hz hu hc hl)
      · cases h
    · cases h
  case buildSlice t n ps =>
    unfold abuildSlice at h
    split at h
    · cases h
    · rename_i e he
      split at h
      · cases h
      · rename_i z hz
        cases hc : (Nat.ble (n * esz P e) 16777216 && rowOk P e) <;> simp only [hc, cond_false, cond_true] at h
        · cases h
        simp only [Bool.and_eq_true] at hc
        split at h
        · cases h
        · rename_i cs hl
          split at h
          · rename_i row o e' j hrow
            cases hdk : dkB P e (some (o, e')) <;> simp only [hdk, cond_false, cond_true] at h
            · cases h
            cases h
            split at hrow
            · exact .val (zjp H hX hlk (hd (by simp)) (fun x hx => hV x (by simpa using hx)) he hz (Nat.le_of_ble_eq_true hc.1) hc.2 hl hrow (ze9 hdk))
            · cases hrow
          split at h
          · rename_i xs f ids hr
            cases h
            exact .val (zkj H hX hlk (hd (by simp)) (fun x hx => hV x (by simpa using hx)) he hz (Nat.le_of_ble_eq_true hc.1) hc.2 hl hr)
          · cases h
  case load t x =>
    cases x with
    | global gl =>
      simp only at h
      cases hb : (isAg P t && Nat.beq (esz P t) 0) <;> simp only [hb, cond_false, cond_true] at h
      · cases h
      unfold AR.pure at h; cases h
      simp only [Bool.and_eq_true] at hb
      obtain ⟨ad, had⟩ := hgl gl
      obtain ⟨dd, hu⟩ : ∃ dd, P.underlying t = some dd := by
        have := hb.1
        unfold isAg at this
        cases hu : P.underlying t with
        | none => rw [hu] at this; cases this
        | some dd => exact ⟨dd, rfl⟩
      have hz := zb hb.2
      refine .val (.pure (v := .agg #[]) H hX rfl ?_ ⟨#[], rfl, .nil⟩)
      have hl := run_loadCells_list (P := P) w ad [] (by intro j v hj; simp at hj)
      simp only [had, Instr.loadAt, Instr.sureAddr, Sem.run_bind, Sem.run_pure, Result.andThen_ok, loadVar, zcz hu, hb.1, if_true, ze2 hu, hz]
      simp only [List.length_nil] at hl
      rw [hl]; rfl
    | _ => exact .val (zke H hX hlk hV h)
  case store t x y => exact .unit (zml H hX hlk hV.1 hV.2 h)
  case nilCheck x =>
    obtain ⟨⟨A, hA⟩, h2, h3, h4⟩ := zmx H hX hlk hV h
    simp only [hA]
    rw [hA] at h3
    exact .now H hX h2 h3
  case binOp op xt x y yt => exact .val (zi3 H hX hV.1 hV.2 h hg)
  case unOp op xt x => exact .val (zim H hX hV h)
  case convert s d x => exact .val (zlc H hX hlk hV h hd)
  case makeFunc fn first captured =>
    cases fn <;> simp only [acore] at h <;> try (cases h; done)
    rename_i f
    cases hc : Nat.beq first.size 0 <;> simp only [hc, cond_false, cond_true] at h
    · cases h
    have hf : first = #[] := Array.eq_empty_of_size_eq_zero (zb hc)
    subst hf
    split at h
    · rename_i caps hcp
      unfold sc at h; cases h
      obtain ⟨a, b⟩ := zfo (F2.of_map (ρ := ρ) fun x hx => hV x hx) hcp
      refine .val (s := Instr.makeFunc (.func f) (Array.map ρ #[]) (Array.map ρ captured)) (.pure H hX rfl rfl ⟨a, ?_⟩)
      have : (captured.map ρ) = (caps.map fun c => Value.pointer (some ((X.β c.1).ptr c.2))).toArray := by
        apply Array.ext'
        rw [Array.toList_map, ← b]
        simp
      rw [this, Array.map_empty]
    · cases h
  case makeMap t rs =>
    cases rs <;> simp only [acore] at h
    · split at h
      · cases h; exact .val (zju H hX (hd (by simp)))
      · cases h
    · cases h
  case makeSlice t n m =>
    unfold amake at h
    split at h
    · rename_i k n k' m hn hm
      split at h
      · cases h
      · rename_i e he
        split at h
        · cases h
        · rename_i z hz
          split at h
          · rename_i c hc
            cases hb : (Nat.ble (ebytes P e) 128 && rowOk P e) <;> simp only [hb, cond_false, cond_true] at h
            · cases h
            cases h
            simp only [Bool.and_eq_true] at hb
            rw [hn, hm] at hV
            simp only [RV, RS] at hV
            have g1 : 0 ≤ n := by simpa using hg (decide (0 ≤ n)) (by simp)
            have g2 : n = m := by simpa using hg (n == m) (by simp)
            have g3 : n ≤ most := by simpa using hg (decide (n ≤ most)) (by simp)
            cases hdc : dcol P e z with
            | none =>
              have := ziu (k := k) (k' := k') H hX hlk (hd (by simp)) he hz hc (Nat.le_of_ble_eq_true hb.1) hb.2 g1 g2 g3
              rw [← hV.1, ← hV.2] at this
              exact .val this
            | some q =>
              have := zjd (k := k) (k' := k') H hX hlk (hd (by simp)) he hz hc (Nat.le_of_ble_eq_true hb.1) hb.2 g1 g2 g3 hdc
              rw [← hV.1, ← hV.2] at this
              exact .val this
          · cases h
    · cases h
  case slice t x lo hi mx =>
    cases mx with
    | some m => simp only [acore] at h; cases h
    | none =>
      cases lo with
      | none =>
        cases hi with
        | none =>
          simp only [acore, Option.toArray, Array.append_empty, List.map_cons, List.map_nil, optAt] at h
          exact .val (zdu H hX hlk (hV x (by simp)) (lo := none) (hi := none) (vlo := none) (vhi := none) trivial trivial h hg)
        | some y =>
          simp only [acore, Option.toArray, List.map_cons, List.map_nil, optAt] at h
          exact .val (zdu H hX hlk (hV x (by simp)) (lo := none) (hi := some (V y)) (vlo := none) (vhi := some (ρ y)) trivial (hV y (by simp)) h hg)
      | some l =>
        cases hi with
        | none =>
          simp only [acore, Option.toArray, List.map_cons, List.map_nil, optAt] at h
          exact .val (zdu H hX hlk (hV x (by simp)) (lo := some (V l)) (hi := none) (vlo := some (ρ l)) (vhi := none) (hV l (by simp)) trivial h hg)
        | some y =>
          simp only [acore, Option.toArray, List.map_cons, List.map_nil, optAt] at h
          exact .val (zdu H hX hlk (hV x (by simp)) (lo := some (V l)) (hi := some (V y)) (vlo := some (ρ l)) (vhi := some (ρ y)) (hV l (by simp)) (hV y (by simp)) h hg)
  case fieldAddr s x f => exact .val (zmw H hX hlk hV h)
  case field s x f =>
    unfold afieldV at h
    split at h
    · rename_i cs hcs
      split at h
      · cases h
      · rename_i fd hf
        split at h
        · cases h
        · rename_i d hu
          rw [hcs] at hV
          exact .val (zlr H hX hV hf hu h)
    · cases h
  case indexAddr t x i => exact .val (zkl H hX hlk hV.1 hV.2 h hg)
  case index t x i =>
    unfold aindexS at h
    split at h
    · rename_i z k n h1 h2
      split at h
      · rename_i hu
        cases h
        rw [h1, h2] at hV
        simp only [RV, RS] at hV
        have := zi1 (k := k) H hX hu (hg _ (List.mem_singleton.2 rfl))
        rw [← hV.1, ← hV.2] at this
        exact .val this
      · cases h
    · cases h
  case lookup t m k ok => exact .val (zle H hX hlk hV.1 hV.2 h)
  case mapUpdate t m k x => exact .unit (zmv H hX hlk hV.1 hV.2.1 hV.2.2 h)
  case extract t ix => exact .val (zms H hX hV h)
  case call c =>
    split at h
    · rename_i b hb
      have hops : c.operands.toList = c.args.toList := by unfold Call.operands; rw [hb]; simp
      rw [hops] at h hV
      have := zll H hX hlk (F2.of_map (ρ := ρ) fun x hx => hV x hx) h hg hd o.type (c.args.map fun | .const _ => true | _ => false)
      show OpRes P K X w r (do let d ← resolve ρ c o.type; invoke d.target d.args)
      have e : (do let d ← resolve ρ c o.type; invoke d.target d.args) = builtin b c.argTypes o.type (c.args.map fun | .const _ => true | _ => false) (c.args.toList.map ρ).toArray := by
        unfold resolve
        rw [hb]
        simp only [pure_bind, invoke]
        congr 1
        apply Array.ext'
        simp
      rw [e]; exact this
    · cases h
end
end Go.Eng
end
section
namespace Go.Eng
open Go
structure Le (E E' : Env) : Prop where
  lv : ∃ l, E'.lv = l ++ E.lv
  n : E.n = E.lv.length → E'.n = E'.lv.length
  ids : ∀ j b, bd E.ids j = some b → bd E'.ids j = some b
  bo : ∀ id ∈ E.bo, id ∈ E'.bo
  af : E'.af = true → E.af = true
theorem Le.refl (E : Env) : Le E E := ⟨⟨[], rfl⟩, id, fun _ _ h => h, fun _ h => h, id⟩
theorem Le.trans {E F G : Env} (h : Le E F) (k : Le F G) : Le E G :=
  ⟨by obtain ⟨a, ha⟩ := h.lv; obtain ⟨b, hb⟩ := k.lv; exact ⟨b ++ a, by rw [hb, ha, List.append_assoc]⟩, fun e => k.n (h.n e), fun j b hb => k.ids j b (h.ids j b hb), fun i hi => k.bo i (h.bo i hi), fun e => h.af (k.af e)⟩
theorem Le.leaf {E E' : Env} (h : Le E E') {n : Nat} {x : Lf} (hx : E.lv.reverse[n]? = some x) : E'.lv.reverse[n]? = some x := by
  obtain ⟨l, hl⟩ := h.lv
  rw [hl, List.reverse_append, List.getElem?_append_left]
  · exact hx
  · exact (List.getElem?_eq_some_iff.1 hx).1
theorem zbj {E E' : Env} {n : Nat} {x : Lf} (h : E.push n x = some E') : Le E E' ∧ (E.n = E.lv.length → E'.lv.reverse[n]? = some x) ∧ E'.ids = E.ids ∧ E'.bo = E.bo ∧ E'.af = E.af := by
  unfold Env.push at h
  cases hb : Nat.beq n E.n <;> simp [hb] at h
  subst h
  have := zb hb; subst this
  refine ⟨⟨⟨[x], rfl⟩, fun e => by simp [e], fun _ _ h => h, fun _ h => h, fun h => h⟩, fun e => ?_, rfl, rfl, rfl⟩
  simp [e]
theorem zgq {ids : List (Nat × Bd)} {j k : Nat} {b c : Bd} (hn : bd ids j = none) (h : bd ids k = some c) : bd ((j, b) :: ids) k = some c := by
  simp only [bd]
  cases hb : Nat.beq j k
  · simpa using h
  · have := zb hb; subst this; rw [hn] at h; cases h
theorem zgp {ids : List (Nat × Bd)} {j : Nat} {b : Bd} : bd ((j, b) :: ids) j = some b := by simp [bd]
theorem zc3 {E E' : Env} {j id base : Nat} (h : E.bind j id base = some E') : Le E E' ∧ bd E'.ids j = some (.o id base) ∧ (E.n = E.lv.length → E'.n = E'.lv.length) := by
  unfold Env.bind at h
  split at h
  · rename_i hn
    cases h
    exact ⟨⟨⟨[], rfl⟩, fun e => e, fun k b hb => zgq hn hb, fun _ h => h, fun h => h⟩, zgp, fun e => e⟩
  · rename_i id' base' hb
    cases hc : (Nat.beq id id' && Nat.beq base base') <;> simp [hc] at h
    subst h
    simp only [Bool.and_eq_true] at hc
    have e1 := zb hc.1; have e2 := zb hc.2; subst e1 e2
    exact ⟨Le.refl E, hb, fun e => e⟩
  · cases h
theorem zex {E E' : Env} {j : Nat} {b : Bd} (h : E.bindNew j b = some E') : Le E E' ∧ bd E'.ids j = some b := by
  unfold Env.bindNew at h
  split at h
  · rename_i hn
    cases h
    exact ⟨⟨⟨[], rfl⟩, fun e => e, fun k b hb => zgq hn hb, fun _ h => h, fun h => h⟩, zgp⟩
  · cases h
theorem zg1 : ∀ {ps cs : List (Nat × Nat)} {E E' : Env}, mcaps ps cs E = some E' → Le E E' ∧ F2 (fun (p c : Nat × Nat) => ∃ base, bd E'.ids p.1 = some (.o c.1 base) ∧ base + p.2 = c.2) ps cs
  | [], [], E, E', h => by simp [mcaps] at h; subst h; exact ⟨Le.refl E, .nil⟩
  | (j, o) :: ps, (id, o') :: cs, E, E', h => by
    simp only [mcaps] at h
    cases hb : Nat.ble o o' <;> simp [hb] at h
    split at h
    · rename_i E1 h1
      obtain ⟨a1, a2, _⟩ := zc3 h1
      obtain ⟨b1, b2⟩ := zg1 h
      refine ⟨a1.trans b1, .cons ⟨o' - o, b1.ids _ _ a2, ?_⟩ b2⟩
      have := Nat.le_of_ble_eq_true hb
      show o' - o + o = o'
      omega
    · cases h
  | [], _ :: _, _, _, h => by simp [mcaps] at h
  | _ :: _, [], _, _, h => by simp [mcaps] at h
def Met (lk : Lk) (Ef : Env) (p : PS) (x : AS) : Prop := match p with
  | .un => True
  | .i k n => ∃ m, x = .i k m ∧ Ef.lv.reverse[n]? = some (.i m)
  | .b n => ∃ m, x = .b m ∧ Ef.lv.reverse[n]? = some (.b m)
  | .s n => ∃ m, x = .s m ∧ Ef.lv.reverse[n]? = some (.s m)
  | .fz e fr n => ∃ e' fr' xs ids, content lk x = some (e', fr', xs, ids) ∧ fits e e' = true ∧ (fr = true → fr' = true) ∧ (∀ id ∈ ids, id ∈ Ef.bo) ∧ (Ef.af = true → fr' = true) ∧ Ef.lv.reverse[n]? = some (.l xs)
  | .ow j => (∃ id m e fr xs ser, x = .ow id m ∧ lk id = .rw e fr xs ser ∧ m = ser ∧ bd Ef.ids j = some (.o id 0)) ∨
      (∃ id m lo hi e fr xs ser, x = .sb id m lo hi ∧ lk id = .rw e fr xs ser ∧ m = ser ∧ bd Ef.ids j = some (.sb id lo hi)) ∨ (x = .ns ∧ bd Ef.ids j = some .nil) ∨
      (∃ id m e c xs ser iv, x = .ow id m ∧ lk id = .dw e c xs ser 0 iv ∧ m = ser ∧ bd Ef.ids j = some (.o id 0)) ∨
      ∃ id n ix e e0 c xs ser iv, x = .ri id n ix e ∧ lk id = .dw e0 c xs ser 0 iv ∧ n = iv ∧ bd Ef.ids j = some (.el id ix)
  | .pt j o => ∃ id o' base, x = .pt id o' ∧ base + o = o' ∧ bd Ef.ids j = some (.o id base)
  | .fn f caps => ∃ caps', x = .fn f caps' ∧ F2 (fun (p c : Nat × Nat) => ∃ base, bd Ef.ids p.1 = some (.o c.1 base) ∧ base + p.2 = c.2) caps caps'
  | .mp j => ∃ id, x = .mp id ∧ bd Ef.ids j = some (.o id 0)
theorem Met.mono {lk : Lk} {E E' : Env} (h : Le E E') {p : PS} {x : AS} (hm : Met lk E p x) : Met lk E' p x := by
  cases p <;> simp only [Met] at hm ⊢
  case i k n => obtain ⟨m, a, b⟩ := hm; exact ⟨m, a, h.leaf b⟩
  case b n => obtain ⟨m, a, b⟩ := hm; exact ⟨m, a, h.leaf b⟩
  case s n => obtain ⟨m, a, b⟩ := hm; exact ⟨m, a, h.leaf b⟩
  case fz e fr n => obtain ⟨e', fr', xs, ids, a, b, c, d, f, g⟩ := hm; exact ⟨e', fr', xs, ids, a, b, c, fun i hi => h.bo i (d i hi), fun e => f (h.af e), h.leaf g⟩
  case ow j =>
    rcases hm with ⟨id, m, e, fr, xs, ser, a, b, c, d⟩ | ⟨id, m, lo, hi, e, fr, xs, ser, a, b, c, d⟩ | ⟨a, b⟩ | ⟨id, m, e, c', xs, ser, iv, a, b, c, d⟩ | ⟨id, n, ix, e, e0, c', xs, ser, iv, a, b, c, d⟩
    · exact .inl ⟨id, m, e, fr, xs, ser, a, b, c, h.ids _ _ d⟩
    · exact .inr (.inl ⟨id, m, lo, hi, e, fr, xs, ser, a, b, c, h.ids _ _ d⟩)
    · exact .inr (.inr (.inl ⟨a, h.ids _ _ b⟩))
    · exact .inr (.inr (.inr (.inl ⟨id, m, e, c', xs, ser, iv, a, b, c, h.ids _ _ d⟩)))
    · exact .inr (.inr (.inr (.inr ⟨id, n, ix, e, e0, c', xs, ser, iv, a, b, c, h.ids _ _ d⟩)))
  case pt j o => obtain ⟨id, o', base, a, b, c⟩ := hm; exact ⟨id, o', base, a, b, h.ids _ _ c⟩
  case fn f caps => obtain ⟨caps', a, b⟩ := hm; exact ⟨caps', a, b.mono fun _ _ ⟨base, c, d⟩ => ⟨base, h.ids _ _ c, d⟩⟩
  case mp j => obtain ⟨id, a, b⟩ := hm; exact ⟨id, a, h.ids _ _ b⟩
theorem mS_ok {lk : Lk} {p : PS} {x : AS} {E E' : Env} (hn : E.n = E.lv.length) (h : mS lk p x E = some E') : Le E E' ∧ Met lk E' p x := by
  cases p <;> simp only [mS] at h
  case un => cases h; exact ⟨Le.refl E, trivial⟩
  case i k n =>
    split at h
    · rename_i k' m
      cases hb : keq k k' <;> simp [hb] at h
      have := zbz hb; subst this
      obtain ⟨a, b, _⟩ := zbj h
      exact ⟨a, m, rfl, b hn⟩
    · cases h
  case b n =>
    split at h
    · obtain ⟨a, b, _⟩ := zbj h; exact ⟨a, _, rfl, b hn⟩
    · cases h
  case s n =>
    split at h
    · obtain ⟨a, b, _⟩ := zbj h; exact ⟨a, _, rfl, b hn⟩
    · cases h
  case fz e fr n =>
    split at h
    · rename_i e' fr' xs ids hc
      cases hb : (fits e e' && (!fr || fr')) <;> simp only [hb, cond_false, cond_true] at h
      · cases h
      simp only [Bool.and_eq_true, Bool.or_eq_true, Bool.not_eq_true'] at hb
      obtain ⟨a, b, c, d, f⟩ := zbj h
      refine ⟨⟨a.lv, a.n, fun j b hb => by rw [c]; exact hb, fun i hi => by rw [d]; simp [hi], fun he => ?_⟩, e', fr', xs, ids, hc, hb.1, fun he => ?_, fun i hi => by rw [d]; simp [hi], fun he => ?_, b hn⟩
      · rw [f] at he; simp at he; exact he.1
      · rcases hb.2 with h | h
        · rw [he] at h; cases h
        · exact h
      · rw [f] at he; simp at he; exact he.2
    · cases h
  case ow j =>
    split at h
    · rename_i id m
      split at h
      · rename_i e fr xs ser hl
        cases hb : Nat.beq m ser <;> simp [hb] at h
        obtain ⟨a, b, _⟩ := zc3 h
        exact ⟨a, .inl ⟨id, m, e, fr, xs, ser, rfl, hl, zb hb, b⟩⟩
      · rename_i e c xs ser lo iv hl
        cases hb : (Nat.beq m ser && Nat.beq lo 0) <;> simp only [hb, cond_false, cond_true] at h
        · cases h
        simp only [Bool.and_eq_true] at hb
        have := zb hb.2; subst this
        obtain ⟨a, b, _⟩ := zc3 h
        exact ⟨a, .inr (.inr (.inr (.inl ⟨id, m, e, c, xs, ser, iv, rfl, hl, zb hb.1, b⟩)))⟩
      · cases h
    · rename_i id n ix e
      split at h
      · rename_i e0 c xs ser lo iv hl
        cases hb : (Nat.beq n iv && Nat.beq lo 0) <;> simp only [hb, cond_false, cond_true] at h
        · cases h
        simp only [Bool.and_eq_true] at hb
        have := zb hb.2; subst this
        obtain ⟨a, b⟩ := zex h
        exact ⟨a, .inr (.inr (.inr (.inr ⟨id, n, ix, e, e0, c, xs, ser, iv, rfl, hl, zb hb.1, b⟩)))⟩
      · cases h
    · rename_i id m lo hi
      split at h
      · rename_i e fr xs ser hl
        cases hb : Nat.beq m ser <;> simp [hb] at h
        obtain ⟨a, b⟩ := zex h
        exact ⟨a, .inr (.inl ⟨id, m, lo, hi, e, fr, xs, ser, rfl, hl, zb hb, b⟩)⟩
      · cases h
    · obtain ⟨a, b⟩ := zex h
      exact ⟨a, .inr (.inr (.inl ⟨rfl, b⟩))⟩
    · cases h
  case pt j o =>
    split at h
    · rename_i id o'
      cases hb : Nat.ble o o' <;> simp [hb] at h
      obtain ⟨a, b, _⟩ := zc3 h
      have := Nat.le_of_ble_eq_true hb
      exact ⟨a, id, o', o' - o, rfl, by omega, b⟩
    · cases h
  case fn f caps =>
    split at h
    · rename_i f' caps'
      cases hb : Nat.beq f f' <;> simp [hb] at h
      have := zb hb; subst this
      obtain ⟨a, b⟩ := zg1 h
      exact ⟨a, caps', rfl, b⟩
    · cases h
  case mp j =>
    split at h
    · obtain ⟨a, b, _⟩ := zc3 h; exact ⟨a, _, rfl, b⟩
    · cases h
theorem zce {lk : Lk} : ∀ {ps : List PS} {xs : List AS} {E E' : Env}, E.n = E.lv.length → mSs lk ps xs E = some E' → Le E E' ∧ F2 (Met lk E') ps xs
  | [], [], E, E', _, h => by simp [mSs] at h; subst h; exact ⟨Le.refl E, .nil⟩
  | p :: ps, x :: xs, E, E', hn, h => by
    simp only [mSs] at h
    split at h
    · rename_i E1 h1
      obtain ⟨a, b⟩ := mS_ok hn h1
      obtain ⟨c, d⟩ := zce (a.n hn) h
      exact ⟨a.trans c, .cons (b.mono c) d⟩
    · cases h
  | [], _ :: _, _, _, _, h => by simp [mSs] at h
  | _ :: _, [], _, _, _, h => by simp [mSs] at h
def MetT (lk : Lk) (E : Env) (p : Bool × List PS) (x : Bool × List AS) : Prop := p.1 = x.1 ∧ F2 (Met lk E) p.2 x.2
def MetV (lk : Lk) (E : Env) (p : PV) (x : AV) : Prop := match p, x with
  | .sc p, .sc x => Met lk E p x
  | .ag ps, .ag xs => F2 (Met lk E) ps xs
  | .tu ps, .tu xs => F2 (MetT lk E) ps xs
  | _, _ => False
theorem MetV.mono {lk : Lk} {E E' : Env} (h : Le E E') {p : PV} {x : AV} (hm : MetV lk E p x) : MetV lk E' p x := by
  cases p <;> cases x <;> simp only [MetV] at hm ⊢ <;> try exact hm.elim
  · exact hm.mono h
  · exact F2.mono (fun _ _ h1 => h1.mono h) hm
  · exact F2.mono (fun _ _ h1 => ⟨h1.1, F2.mono (fun _ _ h2 => h2.mono h) h1.2⟩) hm
theorem zh8 {lk : Lk} : ∀ {ps : List (Bool × List PS)} {xs : List (Bool × List AS)} {E E' : Env}, E.n = E.lv.length → mTs lk ps xs E = some E' → Le E E' ∧ F2 (MetT lk E') ps xs
  | [], [], E, E', _, h => by simp [mTs] at h; subst h; exact ⟨Le.refl E, .nil⟩
  | (a, p) :: ps, (b, x) :: xs, E, E', hn, h => by
    simp only [mTs] at h
    cases hb : (a == b) <;> simp only [hb, cond_false, cond_true] at h
    · cases h
    split at h
    · rename_i E1 h1
      obtain ⟨c, d⟩ := zce hn h1
      obtain ⟨e, f⟩ := zh8 (c.n hn) h
      exact ⟨c.trans e, .cons ⟨by simpa using hb, F2.mono (fun _ _ h2 => h2.mono e) d⟩ f⟩
    · cases h
  | [], _ :: _, _, _, _, h => by simp [mTs] at h
  | _ :: _, [], _, _, _, h => by simp [mTs] at h
theorem mV_ok {lk : Lk} {p : PV} {x : AV} {E E' : Env} (hn : E.n = E.lv.length) (h : mV lk p x E = some E') : Le E E' ∧ MetV lk E' p x := by
  cases p <;> cases x <;> simp only [mV] at h <;> try (cases h; done)
  · exact mS_ok hn h
  · exact zce hn h
  · exact zh8 hn h
theorem zge {lk : Lk} : ∀ {ps : List PV} {xs : List AV} {E E' : Env}, E.n = E.lv.length → mVs lk ps xs E = some E' → Le E E' ∧ F2 (MetV lk E') ps xs
  | [], [], E, E', _, h => by simp [mVs] at h; subst h; exact ⟨Le.refl E, .nil⟩
  | p :: ps, x :: xs, E, E', hn, h => by
    simp only [mVs] at h
    split at h
    · rename_i E1 h1
      obtain ⟨a, b⟩ := mV_ok hn h1
      obtain ⟨c, d⟩ := zge (a.n hn) h
      exact ⟨a.trans c, .cons (b.mono c) d⟩
    · cases h
  | [], _ :: _, _, _, _, h => by simp [mVs] at h
  | _ :: _, [], _, _, _, h => by simp [mVs] at h
def MetO (P : Program) (lk : Lk) (Ef : Env) (p : PO) (b : Bd) : Prop := match p with
  | .bx ps => ∃ id base cells, b = .o id base ∧ lk id = .bx cells ∧ base + ps.length ≤ cells.length ∧ F2 (Met lk Ef) ps ((cells.drop base).take ps.length)
  | .rb ps => ∃ id base cells, b = .o id base ∧ (lk id = .bx cells ∨ lk id = .rb cells) ∧ base + ps.length ≤ cells.length ∧ F2 (Met lk Ef) ps ((cells.drop base).take ps.length)
  | .rw e fr n => (∃ id fr' xs ser, b = .o id 0 ∧ lk id = .rw e fr' xs ser ∧ (fr = true → fr' = true) ∧ (Ef.af = true → fr' = true) ∧ Ef.lv.reverse[n]? = some (.l xs)) ∨
      (∃ id lo hi fr' xs ser, b = .sb id lo hi ∧ lk id = .rw e fr' xs ser ∧ (fr = true → fr' = true) ∧ (Ef.af = true → fr' = true) ∧ Ef.lv.reverse[n]? = some (.l (Eng.sub xs lo hi))) ∨ (b = .nil ∧ Ef.lv.reverse[n]? = some (.l [])) ∨
      (∃ id xs ser iv, b = .o id 0 ∧ lk id = .dw e none xs ser 0 iv ∧ fr = false ∧ Ef.af = false ∧ Ef.lv.reverse[n]? = some (.l xs)) ∨
      ∃ id ix e0 c xs ser iv, b = .el id ix ∧ lk id = .dw e0 (some (c, e)) xs ser 0 iv ∧ fr = false ∧ Ef.af = false ∧ Ef.lv.reverse[n]? = some (.l (rd xs ix c).list)
  | .dw e c n => (∃ id xs ser iv, b = .o id 0 ∧ lk id = .dw e c xs ser 0 iv ∧ Ef.af = false ∧ Ef.lv.reverse[n]? = some (.l xs)) ∨
      (∃ id fr' xs ser, b = .o id 0 ∧ lk id = .rw e fr' xs ser ∧ flat P e = true ∧ c = none ∧ Ef.af = false ∧ Ef.lv.reverse[n]? = some (.l xs)) ∨ (b = .nil ∧ dkB P e c = true ∧ Ef.lv.reverse[n]? = some (.l []))
  | .mp kt vt n => ∃ id es, b = .o id 0 ∧ lk id = .mp kt vt es ∧ Ef.lv.reverse[n]? = some (.m es)
theorem Le.af0 {E E' : Env} (h : Le E E') (ha : E.af = false) : E'.af = false := by
  cases hh : E'.af with
  | false => rfl
  | true => have := h.af hh; rw [ha] at this; cases this
theorem MetO.mono {P : Program} {lk : Lk} {E E' : Env} (h : Le E E') {p : PO} {b : Bd} (hm : MetO P lk E p b) : MetO P lk E' p b := by
  cases p <;> simp only [MetO] at hm ⊢
  · obtain ⟨id, base, cells, a, b, c, d⟩ := hm; exact ⟨id, base, cells, a, b, c, F2.mono (fun _ _ h1 => h1.mono h) d⟩
  · obtain ⟨id, base, cells, a, b, c, d⟩ := hm; exact ⟨id, base, cells, a, b, c, F2.mono (fun _ _ h1 => h1.mono h) d⟩
  · rcases hm with ⟨id, fr', xs, ser, a, b, c, d, e⟩ | ⟨id, lo, hi, fr', xs, ser, a, b, c, d, e⟩ | ⟨a, b⟩ | ⟨id, xs, ser, iv, a, b, c, d, e⟩ | ⟨id, ix, e0, c', xs, ser, iv, a, b, c, d, e⟩
    · exact .inl ⟨id, fr', xs, ser, a, b, c, fun q => d (h.af q), h.leaf e⟩
    · exact .inr (.inl ⟨id, lo, hi, fr', xs, ser, a, b, c, fun q => d (h.af q), h.leaf e⟩)
    · exact .inr (.inr (.inl ⟨a, h.leaf b⟩))
    · exact .inr (.inr (.inr (.inl ⟨id, xs, ser, iv, a, b, c, h.af0 d, h.leaf e⟩)))
    · exact .inr (.inr (.inr (.inr ⟨id, ix, e0, c', xs, ser, iv, a, b, c, h.af0 d, h.leaf e⟩)))
  · obtain ⟨id, es, a, b, c⟩ := hm; exact ⟨id, es, a, b, h.leaf c⟩
  · rcases hm with ⟨id, xs, ser, iv, a, b, f, c⟩ | ⟨id, fr', xs, ser, a, b, c, d, f, e⟩ | ⟨a, b, c⟩
    · exact .inl ⟨id, xs, ser, iv, a, b, h.af0 f, h.leaf c⟩
    · exact .inr (.inl ⟨id, fr', xs, ser, a, b, c, d, h.af0 f, h.leaf e⟩)
    · exact .inr (.inr ⟨a, b, h.leaf c⟩)
theorem zd4 {a b : Option (Nat × TypeId)} (h : ceqO a b = true) : a = b := by
  unfold ceqO at h
  split at h
  · rfl
  · simp only [Bool.and_eq_true] at h
    rw [zb h.1, zb h.2]
  · cases h
theorem zdz {E E' : Env} {a : Bool} {n : Nat} {x : Lf} (ha : a = true → E.af = true) (hn : E.n = E.lv.length) (h : ({ E with af := a } : Env).push n x = some E') : Le E E' ∧ E'.af = a ∧ E'.lv.reverse[n]? = some x := by
  obtain ⟨a1, b, c, d, f⟩ := zbj h
  exact ⟨⟨a1.lv, a1.n, fun j b hb => by rw [c]; exact hb, fun i hi => by rw [d]; exact hi, fun he => ha (by rw [← he, f])⟩, f, b hn⟩
theorem mO_ok {P : Program} {lk : Lk} {p : PO} {b : Bd} {E E' : Env} (hn : E.n = E.lv.length) (h : mO P lk p b E = some E') : Le E E' ∧ MetO P lk E' p b := by
  unfold mO at h
  split at h
  · rename_i ps id base
    split at h
    · rename_i cells hl
      cases hb : Nat.ble (base + ps.length) cells.length <;> simp only [hb, cond_false, cond_true] at h
      · cases h
      obtain ⟨c, d⟩ := zce hn h
      exact ⟨c, id, base, cells, rfl, hl, Nat.le_of_ble_eq_true hb, d⟩
    · cases h
  · rename_i ps id base
    split at h
    · rename_i cells hl
      cases hb : Nat.ble (base + ps.length) cells.length <;> simp only [hb, cond_false, cond_true] at h
      · cases h
      obtain ⟨c, d⟩ := zce hn h
      exact ⟨c, id, base, cells, rfl, .inl hl, Nat.le_of_ble_eq_true hb, d⟩
    · rename_i cells hl
      cases hb : Nat.ble (base + ps.length) cells.length <;> simp only [hb, cond_false, cond_true] at h
      · cases h
      obtain ⟨c, d⟩ := zce hn h
      exact ⟨c, id, base, cells, rfl, .inr hl, Nat.le_of_ble_eq_true hb, d⟩
    · cases h
  · rename_i e fr n id
    split at h
    · rename_i e' fr' xs ser hl
      cases hb : (Nat.beq e e' && (!fr || fr')) <;> simp only [hb, cond_false, cond_true] at h
      · cases h
      simp only [Bool.and_eq_true, Bool.or_eq_true, Bool.not_eq_true'] at hb
      have := zb hb.1; subst this
      obtain ⟨a, b, c, d, f⟩ := zbj h
      refine ⟨⟨a.lv, a.n, fun j b hb => by rw [c]; exact hb, fun i hi => by rw [d]; exact hi, fun he => by rw [f] at he; simp at he; exact he.1⟩, .inl ⟨id, fr', xs, ser, rfl, hl, fun he => ?_, fun he => by rw [f] at he; simp at he; exact he.2, b hn⟩⟩
      rcases hb.2 with h | h
      · rw [he] at h; cases h
      · exact h
    · rename_i e' xs ser lo iv hl
      cases hb : ((Nat.beq e e' && Nat.beq lo 0) && !fr) <;> simp only [hb, cond_false, cond_true] at h
      · cases h
      simp only [Bool.and_eq_true, Bool.not_eq_true'] at hb
      have e1 := zb hb.1.1; have e2 := zb hb.1.2; subst e1 e2
      obtain ⟨a, b, c⟩ := zdz (fun h => by cases h) hn h
      exact ⟨a, .inr (.inr (.inr (.inl ⟨id, xs, ser, iv, rfl, hl, hb.2, b, c⟩)))⟩
    · cases h
  · rename_i e fr n id ix
    split at h
    · rename_i e0 c e' xs ser lo iv hl
      cases hb : ((Nat.beq e e' && Nat.beq lo 0) && !fr) <;> simp only [hb, cond_false, cond_true] at h
      · cases h
      simp only [Bool.and_eq_true, Bool.not_eq_true'] at hb
      have e1 := zb hb.1.1; have e2 := zb hb.1.2; subst e1 e2
      obtain ⟨a, b, d⟩ := zdz (fun h => by cases h) hn h
      exact ⟨a, .inr (.inr (.inr (.inr ⟨id, ix, e0, c, xs, ser, iv, rfl, hl, hb.2, b, d⟩)))⟩
    · cases h
  · rename_i e c n id
    split at h
    · rename_i e' c' xs ser lo iv hl
      cases hb : ((Nat.beq e e' && Nat.beq lo 0) && ceqO c c') <;> simp only [hb, cond_false, cond_true] at h
      · cases h
      simp only [Bool.and_eq_true] at hb
      have e1 := zb hb.1.1; have e2 := zb hb.1.2; have e3 := zd4 hb.2; subst e1 e2 e3
      obtain ⟨a, b, d⟩ := zdz (fun h => by cases h) hn h
      exact ⟨a, .inl ⟨id, xs, ser, iv, rfl, hl, b, d⟩⟩
    · rename_i e' fr' xs ser hl
      cases hb : ((Nat.beq e e' && flat P e) && ceqO c none) <;> simp only [hb, cond_false, cond_true] at h
      · cases h
      simp only [Bool.and_eq_true] at hb
      have e1 := zb hb.1.1; have e3 := zd4 hb.2; subst e1 e3
      obtain ⟨a, b, d⟩ := zdz (fun h => by cases h) hn h
      exact ⟨a, .inr (.inl ⟨id, fr', xs, ser, rfl, hl, hb.1.2, rfl, b, d⟩)⟩
    · cases h
  · rename_i e c n
    cases hb : dkB P e c <;> simp only [hb, cond_false, cond_true] at h
    · cases h
    obtain ⟨a, b, _⟩ := zbj h
    exact ⟨a, .inr (.inr ⟨rfl, hb, b hn⟩)⟩
  · rename_i e fr n id lo hi
    split at h
    · rename_i e' fr' xs ser hl
      cases hb : (Nat.beq e e' && (!fr || fr')) <;> simp only [hb, cond_false, cond_true] at h
      · cases h
      simp only [Bool.and_eq_true, Bool.or_eq_true, Bool.not_eq_true'] at hb
      have := zb hb.1; subst this
      obtain ⟨a, b, c, d, f⟩ := zbj h
      refine ⟨⟨a.lv, a.n, fun j b hb => by rw [c]; exact hb, fun i hi => by rw [d]; exact hi, fun he => by rw [f] at he; simp at he; exact he.1⟩, .inr (.inl ⟨id, lo, hi, fr', xs, ser, rfl, hl, fun he => ?_, fun he => by rw [f] at he; simp at he; exact he.2, b hn⟩)⟩
      rcases hb.2 with h | h
      · rw [he] at h; cases h
      · exact h
    · cases h
  · obtain ⟨a, b, _⟩ := zbj h
    exact ⟨a, .inr (.inr (.inl ⟨rfl, b hn⟩))⟩
  · rename_i kt vt n id
    split at h
    · rename_i kt' vt' es hl
      cases hb : (Nat.beq kt kt' && Nat.beq vt vt') <;> simp only [hb, cond_false, cond_true] at h
      · cases h
      simp only [Bool.and_eq_true] at hb
      have e1 := zb hb.1; have e2 := zb hb.2; subst e1 e2
      obtain ⟨a, b, _⟩ := zbj h
      exact ⟨a, id, es, rfl, hl, b hn⟩
    · cases h
  · cases h
theorem zhf {P : Program} {lk : Lk} : ∀ {ps : List PO} {j : Nat} {E E' : Env}, E.n = E.lv.length → mOs P lk j ps E = some E' → Le E E' ∧ ∀ i p, ps[i]? = some p → ∃ b, bd E'.ids (j + i) = some b ∧ MetO P lk E' p b
  | [], j, E, E', _, h => by simp [mOs] at h; subst h; exact ⟨Le.refl E, fun i p h => by simp at h⟩
  | p :: ps, j, E, E', hn, h => by
    simp only [mOs] at h
    split at h
    · cases h
    · rename_i b hb
      split at h
      · rename_i E1 h1
        obtain ⟨a1, a2⟩ := mO_ok hn h1
        obtain ⟨b1, b2⟩ := zhf (a1.n hn) h
        refine ⟨a1.trans b1, fun i q hq => ?_⟩
        cases i with
        | zero => simp at hq; subst hq; exact ⟨b, b1.ids _ _ (a1.ids _ _ hb), a2.mono b1⟩
        | succ i => obtain ⟨c, c1, c2⟩ := b2 i q (by simpa using hq); exact ⟨c, by rw [show j + (i + 1) = j + 1 + i by omega]; exact c1, c2⟩
      · cases h
theorem zeb : ∀ {l : List Nat}, nodup l = true → l.Nodup
  | [], _ => List.nodup_nil
  | x :: r, h => by
    simp only [nodup, Bool.and_eq_true, Bool.not_eq_true'] at h
    refine List.nodup_cons.2 ⟨fun hm => ?_, zeb h.2⟩
    rw [zcw.2 hm] at h
    cases h.1
theorem zg9 {P : Program} {lk : Lk} {p : Pat} {vals : List AV} {known : List (Nat × Bd)} {E : Env} (h : mtch P lk p vals known = some E) :
    F2 (MetV lk E) p.vals vals ∧ (∀ i q, p.objs[i]? = some q → ∃ b, bd E.ids i = some b ∧ MetO P lk E q b) ∧ (∀ j b, bd known j = some b → bd E.ids j = some b) ∧
      (E.ids.flatMap fun x => x.2.ids).Nodup ∧ (∀ id ∈ E.bo, id ∉ E.ids.flatMap fun x => x.2.ids) ∧ ∀ x ∈ E.ids, x.1 < p.objs.length := by
  unfold mtch at h
  split at h
  · cases h
  · rename_i E1 h1
    split at h
    · cases h
    · rename_i E2 h2
      cases hb : (nodup (E2.ids.flatMap fun x => x.2.ids) && (E2.bo.all (fun id => !has (E2.ids.flatMap fun x => x.2.ids) id) && E2.ids.all fun x => Nat.ble (x.1 + 1) p.objs.length)) <;> simp only [hb, cond_false, cond_true] at h
      · cases h
      cases h
      simp only [Bool.and_eq_true, List.all_eq_true, Bool.not_eq_true'] at hb
      obtain ⟨a1, a2⟩ := zge (by rfl) h1
      obtain ⟨b1, b2⟩ := zhf (a1.n rfl) h2
      refine ⟨F2.mono (fun _ _ h => h.mono b1) a2, fun i q hq => by simpa using b2 i q hq, fun j b hk => b1.ids _ _ (a1.ids _ _ hk), zeb hb.1, fun id hi hm => ?_, fun x hx => Nat.le_of_ble_eq_true (hb.2.2 x hx)⟩
      have := hb.2.1 id hi
      rw [zcw.2 hm] at this
      cases this
end Go.Eng
end
section
namespace Go.Eng
open Go
theorem zbg {ids : List (Nat × Bd)} {j : Nat} {b : Bd} (h : bd ids j = some b) : (j, b) ∈ ids := by
  induction ids with
  | nil => simp [bd] at h
  | cons x r ih =>
    obtain ⟨k, c⟩ := x
    simp only [bd] at h
    cases hb : Nat.beq k j <;> simp [hb] at h
    · exact List.mem_cons_of_mem _ (ih h)
    · have := zb hb; subst this; subst h; simp
def PO.el : PO → TypeId | .rw e _ _ => e | .dw e _ _ => e | _ => 0
def bdLoc (P : Program) (X : Cx) (e : TypeId) : Bd → Loc
  | .o id base => ⟨(X.β id).blk, (X.β id).off + base, (X.β id).cap, (X.β id).nil⟩
  | .nil => ⟨0, 0, 0, true⟩
  | .sb id lo hi => ⟨(X.β id).blk, if (X.β id).cap ≤ lo then (X.β id).off else (X.β id).off + lo * esz P e, (X.β id).cap - lo, (X.β id).nil⟩
  | .el id ix => match X.ob id with | .dw _ _ xs _ _ _ => if ix < xs.length then X.γ id ix else ⟨0, 0, 0, true⟩ | _ => ⟨0, 0, 0, true⟩
def bdGam (X : Cx) : Bd → Nat → Loc
  | .o id _ => X.γ id
  | _ => fun _ => ⟨0, 0, 0, true⟩
structure Ren (P : Program) (K : Kx) (X : Cx) (w : World) (lk : Lk) (Ef : Env) (X1 : Cx) (p : Pat) (X' : Cx) (z : Bool) : Prop where
  H : Heap P K X
  hX : X.h = w.heap
  hlk : ∀ id, lk id = X.ob id ∨ lk id = .dead
  fz : Frzd P K X w lk Ef.bo X1
  m : ∀ i q, p.objs[i]? = some q → ∃ b, bd Ef.ids i = some b ∧ MetO P lk Ef q b
  all : ∀ j b, bd Ef.ids j = some b → ∃ q, p.objs[j]? = some q
  h' : X'.h = X.h
  ob' : ∀ j, X'.ob j = match p.objs[j]? with | some q => q.inst Ef.lv.reverse selfIm false | none => .dead
  β' : ∀ j b q, bd Ef.ids j = some b → p.objs[j]? = some q → X'.β j = bdLoc P X q.el b
  γ' : ∀ j b q, bd Ef.ids j = some b → p.objs[j]? = some q → X'.γ j = bdGam X b
  nf : z = true → p.nf = true
  F' : ∀ fr fr', (z = true → fr = false) → (fr = true → fr' = true) → (Ef.af = true → fr' = true) → ∀ b, X1.F fr' b → X'.F fr b
section
variable {P : Program} {K : Kx} {X : Cx} {w : World} {lk : Lk} {Ef : Env} {X1 : Cx} {p : Pat} {X' : Cx} {z : Bool}
theorem g_of {lv : Lv} {n : Nat} {x : Lf} (h : lv[n]? = some x) : g lv n = x := by
  simp [g, List.getD_eq_getElem?_getD, h]
theorem Ren.at_ (R : Ren P K X w lk Ef X1 p X' z) {j : Nat} {b : Bd} (h : bd Ef.ids j = some b) : ∃ q, p.objs[j]? = some q ∧ MetO P lk Ef q b ∧ X'.ob j = q.inst Ef.lv.reverse selfIm false ∧ X'.β j = bdLoc P X q.el b := by
  obtain ⟨q, hq⟩ := R.all j b h
  obtain ⟨b', h1, h2⟩ := R.m j q hq
  rw [h] at h1; cases h1
  exact ⟨q, hq, h2, by rw [R.ob', hq], R.β' j b q h hq⟩
theorem Ren.box (R : Ren P K X w lk Ef X1 p X' z) {j id base : Nat} (h : bd Ef.ids j = some (.o id base)) (hb : ∃ cells, X.ob id = .bx cells ∨ X.ob id = .rb cells) :
    (∃ cells, X'.ob j = .bx cells ∨ X'.ob j = .rb cells) ∧ ∀ o, (X'.β j).ptr o = (X.β id).ptr (base + o) := by
  obtain ⟨q, hq, hm, ho, hl⟩ := R.at_ h
  refine ⟨?_, fun o => by rw [hl]; simp [bdLoc, Loc.ptr, Nat.add_assoc]⟩
  obtain ⟨cells, hb⟩ := hb
  cases q with
  | bx ps => exact ⟨_, .inl ho⟩
  | rb ps => exact ⟨_, .inr ho⟩
  | rw e fr n =>
    simp only [MetO] at hm
    rcases hm with ⟨id', fr', xs, ser, a, b, _⟩ | ⟨id', lo, hi, fr', xs, ser, a, b, _⟩ | ⟨a, _⟩ | ⟨id', xs, ser, iv, a, b, _⟩ | ⟨id', ix, e0, c', xs, ser, iv, a, b, _⟩ <;> cases a
    all_goals
      have := lk_rw R.hlk b (by simp)
      rcases hb with hb | hb <;> rw [hb] at this <;> cases this
  | dw e c n =>
    simp only [MetO] at hm
    rcases hm with ⟨id', xs, ser, iv, a, b, _⟩ | ⟨id', fr', xs, ser, a, b, _⟩ | ⟨a, _⟩ <;> cases a
    all_goals
      have := lk_rw R.hlk b (by simp)
      rcases hb with hb | hb <;> rw [hb] at this <;> cases this
  | mp kt vt n =>
    simp only [MetO] at hm
    obtain ⟨id', es, a, b, _⟩ := hm
    cases a
    have := lk_rw R.hlk b (by simp)
    rcases hb with hb | hb <;> rw [hb] at this <;> cases this
theorem RefBx.mk {id : Nat} {Q : Prop} (h : ∃ cells, X.ob id = .bx cells ∨ X.ob id = .rb cells) (hq : Q) : RefBx X id Q := by
  unfold RefBx
  obtain ⟨c, h | h⟩ := h <;> rw [h] <;> exact hq
theorem RefBx.is {id : Nat} {Q : Prop} (h : RefBx X id Q) : ∃ cells, X.ob id = .bx cells ∨ X.ob id = .rb cells := by
  unfold RefBx at h
  split at h
  · exact ⟨_, .inl (by assumption)⟩
  · exact ⟨_, .inr (by assumption)⟩
  · exact h.elim
theorem Ren.RS (R : Ren P K X w lk Ef X1 p X' z) {q : PS} {x : AS} {v : Value} (hz : z = true → q.nf = true) (hm : Met lk Ef q x) (hr : RS P X x v) : Eng.RS P X' (q.inst Ef.lv.reverse selfIm false) v := by
  cases q <;> simp only [Met] at hm <;> simp only [PS.inst]
  case un => trivial
  case i k n => obtain ⟨m, rfl, h⟩ := hm; rw [g_of h]; exact hr
  case b n => obtain ⟨m, rfl, h⟩ := hm; rw [g_of h]; exact hr
  case s n => obtain ⟨m, rfl, h⟩ := hm; rw [g_of h]; exact hr
  case fz e fr n =>
    obtain ⟨e', fr', xs, ids, h1, h2, h3, h4, h5, h6⟩ := hm
    rw [g_of h6]
    obtain ⟨A, cap, a, b, c⟩ := zhq R.H R.hlk R.fz hr h1 h4 h2
    simp only [Bool.or_false]
    exact ⟨A, cap, a, b, Con.mono (fun n hn => R.F' fr fr' (fun h => by have := hz h; simpa [PS.nf] using this) h3 h5 n hn) (fun n hn => by rw [R.h', R.fz.h]) c⟩
  case ow j =>
    have fin : ∀ {e : TypeId} {xs : Rw}, RowOb X' j e xs 0 → v = .slice (slAddr P e (X'.β j) 0) xs.length (X'.β j).cap → Eng.RS P X' (.ow (selfIm j).1 0) v := fun ho hv => ⟨⟨_, _, _, hv⟩, RefRw.mkO ho rfl hv⟩
    rcases hm with ⟨id, m, e, fr, xs, ser, rfl, h1, h2, h3⟩ | ⟨id, m, lo, hi, e, fr, xs, ser, rfl, h1, h2, h3⟩ | ⟨rfl, h3⟩ | ⟨id, m, e, c, xs, ser, iv, rfl, h1, h2, h3⟩ | ⟨id, n, ix, e, e0, c, xs, ser, iv, rfl, h1, h2, h3⟩ <;> obtain ⟨q, hq, hmo, ho, hl⟩ := R.at_ h3
    · have hob := lk_rw R.hlk h1 (by simp)
      have hv := hr.2.get (.inl hob) h2
      cases q <;> simp only [MetO] at hmo
      case bx => obtain ⟨_, _, _, a, b, _⟩ := hmo; cases a; rw [h1] at b; cases b
      case rb => obtain ⟨_, _, _, a, b, _⟩ := hmo; cases a; rw [h1] at b; rcases b with b | b <;> cases b
      case mp => obtain ⟨_, _, a, b, _⟩ := hmo; cases a; rw [h1] at b; cases b
      case rw e2 fr2 n2 =>
        rcases hmo with ⟨id', fr', xs', ser', a, b, c, d, f⟩ | ⟨id', lo, hi, fr', xs', ser', a, b, _⟩ | ⟨a, _⟩ | ⟨id', xs', ser', iv', a, b, _⟩ | ⟨id', ix', e0', c', xs', ser', iv', a, b, _⟩ <;> cases a
        · rw [h1] at b; cases b
          simp only [PO.inst, g_of f] at ho
          exact fin (.inl ⟨_, .inl ho⟩) (by rw [hl, hv]; rfl)
        · rw [h1] at b; cases b
      case dw e2 c2 n2 =>
        rcases hmo with ⟨id', xs', ser', iv', a, b, _, f⟩ | ⟨id', fr', xs', ser', a, b, c, d, _, f⟩ | ⟨a, _⟩ <;> cases a
        · rw [h1] at b; cases b
        · rw [h1] at b; cases b
          simp only [PO.inst, g_of f] at ho
          exact fin (.inr ⟨_, _, _, ho⟩) (by rw [hl, hv]; rfl)
    · have hob := lk_rw R.hlk h1 (by simp)
      obtain ⟨hlo, hhi, hv⟩ := hr.2.get (.inl hob) h2
      cases q <;> simp only [MetO] at hmo
      case bx => obtain ⟨_, _, _, a, b, _⟩ := hmo; cases a
      case rb => obtain ⟨_, _, _, a, b, _⟩ := hmo; cases a
      case mp => obtain ⟨_, _, a, b, _⟩ := hmo; cases a
      case dw => rcases hmo with ⟨_, _, _, _, a, _⟩ | ⟨_, _, _, _, a, _⟩ | ⟨a, _⟩ <;> cases a
      rename_i e2 fr2 n2
      rcases hmo with ⟨id', fr', xs', ser', a, b, c, d, f⟩ | ⟨id', lo', hi', fr', xs', ser', a, b, c, d, f⟩ | ⟨a, _⟩ | ⟨id', xs', ser', iv', a, b, _⟩ | ⟨id', ix', e0', c', xs', ser', iv', a, b, _⟩ <;> cases a
      rw [h1] at b; cases b
      simp only [PO.inst, g_of f] at ho
      refine fin (.inl ⟨_, .inl ho⟩) ?_
      rw [hl, hv]
      have : (Lf.l (Eng.sub xs lo hi)).list.length = hi - lo := zbd hhi
      rw [this]
      have hcap : lo ≤ (X.β id).cap := by
        have hk := R.H.ok id
        unfold Eng.AOok at hk
        rw [hob] at hk
        rcases hk with ⟨_, a2, _⟩ | ⟨_, a2, _⟩
        · rw [a2] at hhi; simp at hhi; omega
        · omega
      have e1 : ((X.β id).cap ≤ lo) = (lo = (X.β id).cap) := propext ⟨fun h => by omega, fun h => by omega⟩
      simp [slAddr, bdLoc, PO.el, e1]
    · cases q <;> simp only [MetO] at hmo
      case bx => obtain ⟨_, _, _, a, b, _⟩ := hmo; cases a
      case rb => obtain ⟨_, _, _, a, b, _⟩ := hmo; cases a
      case mp => obtain ⟨_, _, a, b, _⟩ := hmo; cases a
      case dw e2 c2 n2 =>
        rcases hmo with ⟨_, _, _, _, a, _⟩ | ⟨_, _, _, _, a, _⟩ | ⟨a, _, f⟩ <;> cases a
        simp only [PO.inst, g_of f] at ho
        refine fin (.inr ⟨_, _, _, ho⟩) ?_
        rw [hl, hr]
        simp [slAddr, bdLoc, Lf.list]
      rename_i e2 fr2 n2
      rcases hmo with ⟨id', fr', xs', ser', a, b, c, d, f⟩ | ⟨id', lo', hi', fr', xs', ser', a, b, c, d, f⟩ | ⟨a, f⟩ | ⟨id', xs', ser', iv', a, b, _⟩ | ⟨id', ix', e0', c', xs', ser', iv', a, b, _⟩ <;> cases a
      simp only [PO.inst, g_of f] at ho
      refine fin (.inl ⟨_, .inl ho⟩) ?_
      rw [hl, hr]
      simp [slAddr, bdLoc, Lf.list]
    · have hob := lk_rw R.hlk h1 (by simp)
      have hv := hr.2.getD hob h2
      cases q <;> simp only [MetO] at hmo
      case bx => obtain ⟨_, _, _, a, b, _⟩ := hmo; cases a; rw [h1] at b; cases b
      case rb => obtain ⟨_, _, _, a, b, _⟩ := hmo; cases a; rw [h1] at b; rcases b with b | b <;> cases b
      case mp => obtain ⟨_, _, a, b, _⟩ := hmo; cases a; rw [h1] at b; cases b
      case rw e2 fr2 n2 =>
        rcases hmo with ⟨id', fr', xs', ser', a, b, c, d, f⟩ | ⟨id', lo, hi, fr', xs', ser', a, b, _⟩ | ⟨a, _⟩ | ⟨id', xs', ser', iv', a, b, _, _, f⟩ | ⟨id', ix', e0', c', xs', ser', iv', a, b, _⟩ <;> cases a
        · rw [h1] at b; cases b
        · rw [h1] at b; cases b
          simp only [PO.inst, g_of f] at ho
          exact fin (.inl ⟨_, .inl ho⟩) (by rw [hl, hv]; rfl)
      case dw e2 c2 n2 =>
        rcases hmo with ⟨id', xs', ser', iv', a, b, _, f⟩ | ⟨id', fr', xs', ser', a, b, c, d, _, f⟩ | ⟨a, _⟩ <;> cases a
        · rw [h1] at b; cases b
          simp only [PO.inst, g_of f] at ho
          exact fin (.inr ⟨_, _, _, ho⟩) (by rw [hl, hv]; rfl)
        · rw [h1] at b; cases b
    · have hob := lk_rw R.hlk h1 (by simp)
      cases q <;> simp only [MetO] at hmo
      case bx => obtain ⟨_, _, _, a, b, _⟩ := hmo; cases a
      case rb => obtain ⟨_, _, _, a, b, _⟩ := hmo; cases a
      case mp => obtain ⟨_, _, a, b, _⟩ := hmo; cases a
      case dw => rcases hmo with ⟨_, _, _, _, a, _⟩ | ⟨_, _, _, _, a, _⟩ | ⟨a, _⟩ <;> cases a
      rename_i e2 fr2 n2
      rcases hmo with ⟨id', fr', xs', ser', a, b, c, d, f⟩ | ⟨id', lo', hi', fr', xs', ser', a, b, c, d, f⟩ | ⟨a, f⟩ | ⟨id', xs', ser', iv', a, b, _⟩ | ⟨id', ix', e0', c', xs', ser', iv', a, b, _, _, f⟩ <;> cases a
      rw [h1] at b; cases b
      simp only [PO.inst, g_of f] at ho
      obtain ⟨q1, q2, q3⟩ := hr.2.get hob h2
      refine fin (.inl ⟨_, .inl ho⟩) ?_
      have hlx : X'.β j = X.γ id ix := by rw [hl]; simp only [bdLoc, hob, if_pos q2]
      rw [hlx]
      rcases q3 with ⟨a1, a2, a3, a4⟩ | ⟨a1, a2, _⟩
      · rw [a4]; simp [slAddr, a1, a2, a3, Lf.list]
      · rw [a2]; simp [slAddr, a1, Lf.list]
  case pt j o =>
    obtain ⟨id, o', base, rfl, h1, h2⟩ := hm
    have hr' := (show RefBx X id _ from hr)
    obtain ⟨a, b⟩ := R.box h2 hr'.is
    refine RefBx.mk a ?_
    show v = .pointer (some ((X'.β j).ptr (0 + o)))
    rw [Nat.zero_add, b, h1]
    exact hr'.get
  case fn f caps =>
    obtain ⟨caps', rfl, h1⟩ := hm
    obtain ⟨h2, h3⟩ := hr
    have key : ∀ {ps cs : List (Nat × Nat)}, F2 (fun (p c : Nat × Nat) => ∃ base, bd Ef.ids p.1 = some (.o c.1 base) ∧ base + p.2 = c.2) ps cs → (∀ c ∈ cs, RefBx X c.1 True) →
        (∀ c ∈ ps.map (fun c => ((selfIm c.1).1, (selfIm c.1).2 + c.2)), RefBx X' c.1 True) ∧ (ps.map (fun c => ((selfIm c.1).1, (selfIm c.1).2 + c.2))).map (fun c => Value.pointer (some ((X'.β c.1).ptr c.2))) = cs.map (fun c => Value.pointer (some ((X.β c.1).ptr c.2))) := by
      intro ps cs hf hc
      induction hf with
      | nil => exact ⟨fun c h => by simp at h, rfl⟩
      | cons h1 _ ih =>
        rename_i p c ps cs _t
        obtain ⟨base, b1, b2⟩ := h1
        obtain ⟨i1, i2⟩ := ih fun c hm => hc c (by simp [hm])
        obtain ⟨a, b⟩ := R.box b1 (hc c (by simp)).is
        refine ⟨fun d hd => ?_, ?_⟩
        · rw [List.map_cons] at hd
          rcases List.mem_cons.1 hd with rfl | hd
          · exact RefBx.mk a trivial
          · exact i1 d hd
        · simp only [List.map_cons, i2]
          congr 1
          show Value.pointer (some ((X'.β p.1).ptr (0 + p.2))) = _
          rw [Nat.zero_add, b, b2]
    obtain ⟨k1, k2⟩ := key h1 h2
    exact ⟨k1, by rw [k2]; exact h3⟩
  case mp j =>
    obtain ⟨id, rfl, h1⟩ := hm
    have hr' := (show RefMp X id _ from hr)
    obtain ⟨q, hq, hmo, ho, hl⟩ := R.at_ h1
    unfold RefMp at hr'
    split at hr'
    · rename_i kt vt es hob
      cases q <;> simp only [MetO] at hmo
      case bx => obtain ⟨_, _, _, a, b, _⟩ := hmo; cases a; have := lk_rw R.hlk b (by simp); rw [hob] at this; cases this
      case rb =>
        obtain ⟨_, _, _, a, b, _⟩ := hmo; cases a
        rcases b with b | b <;> have := lk_rw R.hlk b (by simp) <;> rw [hob] at this <;> cases this
      case rw =>
        rcases hmo with ⟨_, _, _, _, a, b, _⟩ | ⟨_, _, _, _, _, _, a, _⟩ | ⟨a, _⟩ | ⟨_, _, _, _, a, b, _⟩ | ⟨_, _, _, _, _, _, _, a, _⟩ <;> cases a
        all_goals
          have := lk_rw R.hlk b (by simp); rw [hob] at this; cases this
      case dw =>
        rcases hmo with ⟨_, _, _, _, a, b, _⟩ | ⟨_, _, _, _, a, b, _⟩ | ⟨a, _⟩ <;> cases a
        all_goals
          have := lk_rw R.hlk b (by simp); rw [hob] at this; cases this
      show RefMp X' j _
      unfold RefMp
      rw [ho]
      simp only [PO.inst]
      show v = .map (some (X'.β j).blk)
      rw [hl]; exact hr'
    · exact hr'.elim
theorem Ren.RSs (R : Ren P K X w lk Ef X1 p X' z) {ps : List PS} {xs : List AS} (hz : z = true → ps.all PS.nf = true) (hm : F2 (Met lk Ef) ps xs) : ∀ {vs : List Value}, Eng.RSs P X xs vs → Eng.RSs P X' (ps.map (·.inst Ef.lv.reverse selfIm false)) vs := by
  induction hm with
  | nil => intro vs h; cases h; exact .nil
  | cons h1 _ ih =>
    intro vs h
    cases h with
    | cons a b =>
      simp only [List.all_cons, Bool.and_eq_true] at hz
      exact .cons (R.RS (fun h => (hz h).1) h1 a) (ih (fun h => (hz h).2) b)
theorem Ren.RV (R : Ren P K X w lk Ef X1 p X' z) {q : PV} {x : AV} {v : Value} (hz : z = true → q.nf = true) (hm : MetV lk Ef q x) (hr : RV P X x v) : Eng.RV P X' (q.inst Ef.lv.reverse selfIm false) v := by
  cases q <;> cases x <;> simp only [MetV] at hm <;> try exact hm.elim
  · exact R.RS hz hm hr
  · obtain ⟨cs, h1, h2⟩ := hr; exact ⟨cs, h1, R.RSs hz hm h2⟩
  · obtain ⟨vs, h1, h2⟩ := hr
    refine ⟨vs, h1, ?_⟩
    have : ∀ {ps : List (Bool × List PS)} {ts : List (Bool × List AS)}, (z = true → ps.all (fun t => t.2.all PS.nf) = true) → F2 (MetT lk Ef) ps ts → ∀ {us : List Value}, F2 (RT P X) ts us → F2 (RT P X') (ps.map fun x => (x.1, x.2.map (·.inst Ef.lv.reverse selfIm false))) us := by
      intro ps ts hz hf
      induction hf with
      | nil => intro us h; cases h; exact .nil
      | cons h1 _ ih =>
        rename_i p t ps ts _t
        simp only [List.all_cons, Bool.and_eq_true] at hz
        intro us h
        cases h with
        | cons a b =>
          refine .cons ?_ (ih (fun h => (hz h).2) b)
          obtain ⟨e1, e2⟩ := h1
          obtain ⟨pb, pl⟩ := p
          obtain ⟨tb, tl⟩ := t
          simp only at e1 e2
          subst e1
          cases pb
          · exact R.RSs (fun h => (hz h).1) e2 a
          · obtain ⟨cs, c1, c2⟩ := a; exact ⟨cs, c1, R.RSs (fun h => (hz h).1) e2 c2⟩
    exact this hz hm h2
theorem Ren.obnf (R : Ren P K X w lk Ef X1 p X' z) {j : Nat} {q : PO} (h : p.objs[j]? = some q) : z = true → q.nf = true := fun hz => by
  have := R.nf hz
  simp only [Pat.nf, Bool.and_eq_true, List.all_eq_true] at this
  exact this.2 q (List.mem_of_getElem? h)
end
end Go.Eng
end
section
namespace Go.Eng
open Go
section
variable {P : Program} {K K' : Kx} {X : Cx} {w : World} {lk : Lk} {Ef : Env} {X1 : Cx} {p : Pat} {X' : Cx} {z : Bool}
theorem Ren.cells (R : Ren P K X w lk Ef X1 p X' z) {ps : List PS} {cells : List AS} {base : Nat} (hz : z = true → ps.all PS.nf = true) (hm : F2 (Met lk Ef) ps ((cells.drop base).take ps.length)) {cs : Array Value} {off : Nat}
    (hc : ∀ j x, cells[j]? = some x → ∃ v, cs[off + j]? = some v ∧ Eng.RS P X x v) : ∀ j y, (ps.map (·.inst Ef.lv.reverse selfIm false))[j]? = some y → ∃ v, cs[off + base + j]? = some v ∧ Eng.RS P X' y v := by
  intro j y hj
  rw [List.getElem?_map] at hj
  cases hp : ps[j]? with
  | none => rw [hp] at hj; cases hj
  | some q =>
    rw [hp] at hj
    simp at hj; subst hj
    obtain ⟨x, h1, h2⟩ := hm.get hp
    have hlt : j < ps.length := (List.getElem?_eq_some_iff.1 hp).1
    rw [List.getElem?_take_of_lt hlt, List.getElem?_drop] at h1
    obtain ⟨v, a, b⟩ := hc (base + j) x h1
    exact ⟨v, by rw [Nat.add_assoc]; exact a, R.RS (fun h => by have := hz h; rw [List.all_eq_true] at this; exact this q (List.mem_of_getElem? hp)) h2 b⟩
theorem RowD.rowAt {h : Array Obj} {γ : Nat → Loc} {e : TypeId} {cs : Array Value} {off : Nat} {xs : Rw} (hd : Dk P e none) (hr : RowD P h γ e cs off xs 0) {con : TypeId → Option Addr → Rw → Prop} : RowAt P con e cs off xs := by
  intro i hi o ho
  obtain ⟨v, a, b⟩ := hr i (Nat.zero_le _) hi o ho
  refine ⟨v, a, ?_⟩
  cases hk : ck P e o <;> rw [hk] at b <;> try exact b
  have hm := zbc hk (by simp)
  unfold Dk Eng.flat at hd
  simp only [List.all_eq_true] at hd
  have := hd _ hm
  simp at this
theorem RowAt.rowD {h : Array Obj} {γ : Nat → Loc} {e : TypeId} {cs : Array Value} {off : Nat} {xs : Rw} {lo : Nat} (hd : Eng.flat P e = true) {con : TypeId → Option Addr → Rw → Prop} (hr : RowAt P con e cs off xs) : RowD P h γ e cs off xs lo := by
  intro i _ hi o ho
  obtain ⟨v, a, b⟩ := hr i hi o ho
  refine ⟨v, a, ?_⟩
  cases hk : ck P e o <;> rw [hk] at b <;> try exact b
  have hm := zbc hk (by simp)
  unfold Eng.flat at hd
  simp only [List.all_eq_true] at hd
  have := hd _ hm
  simp at this
theorem Ren.AOok (R : Ren P K X w lk Ef X1 p X' z) (hR : ∀ (j : Nat) (ps : List PS) (id base : Nat), p.objs[j]? = some (.rb ps) → bd Ef.ids j = some (.o id base) → K'.R (X.β id).blk)
    (hf : (∀ (j : Nat) (e : TypeId) (n : Nat), p.objs[j]? ≠ some (.rw e true n)) ∨ K'.h0 = K.h0) (j : Nat) : Eng.AOok P K' X' j := by
  unfold Eng.AOok
  cases hp : p.objs[j]? with
  | none => rw [R.ob', hp]; trivial
  | some q =>
    obtain ⟨b, hb, hm⟩ := R.m j q hp
    have hl := R.β' j b q hb hp
    rw [R.ob', hp]
    cases q with
    | bx ps =>
      obtain ⟨id, base, cells, rfl, h1, h2, h3⟩ := hm
      have hk := R.H.ok id
      unfold Eng.AOok at hk
      rw [lk_rw R.hlk h1 (by simp)] at hk
      obtain ⟨cs, ty, a1, a2⟩ := hk
      simp only [PO.inst]
      rw [hl, R.h']
      exact ⟨cs, ty, a1, R.cells (fun h => R.obnf hp h) h3 a2⟩
    | rb ps =>
      obtain ⟨id, base, cells, rfl, h1, h2, h3⟩ := hm
      have hbox := zdn R.H (id := id) (cells := cells) (h1.imp (fun h => lk_rw R.hlk h (by simp)) fun h => lk_rw R.hlk h (by simp))
      obtain ⟨cs, ty, fz, a1, a2⟩ := hbox
      simp only [PO.inst]
      rw [hl, R.h']
      exact ⟨hR j ps id base hp hb, cs, ty, fz, a1, R.cells (fun h => R.obnf hp h) h3 a2⟩
    | rw e fr n =>
      simp only [MetO] at hm
      simp only [PO.inst, Bool.or_false]
      have low : ∀ {fr' : Bool} {cs : Array Value} {off : Nat} {xs : Rw}, (fr = true → fr' = true) → (Ef.af = true → fr' = true) → RowAt P (Con P X.h (X.F fr') 7) e cs off xs → RowAt P (Con P X'.h (X'.F fr) 7) e cs off xs := by
        intro fr' cs off xs h1 h2 h
        exact h.mono fun _ _ _ hx => Con.mono (fun n hn => R.F' fr fr' (fun h => by have := R.obnf hp h; simpa [PO.nf] using this) h1 h2 n (R.fz.stp.ext.F fr' n hn)) (fun n hn => by rw [R.h']) hx
      have hfr : ∀ {fr' : Bool} {blk : Nat}, (fr = true → fr' = true) → (fr' = true → K.h0.size ≤ blk) → fr = true → K'.h0.size ≤ blk := by
        intro fr' blk h1 h2 h3
        subst h3
        rcases hf with hf | hf
        · exact absurd hp (hf j e n)
        · rw [hf]; exact h2 (h1 rfl)
      rcases hm with ⟨id, fr', xs, ser, rfl, h1, h2, h3, h4⟩ | ⟨id, lo, hi, fr', xs, ser, rfl, h1, h2, h3, h4⟩ | ⟨rfl, h4⟩ | ⟨id, xs, ser, iv, rfl, h1, h2, h3, h4⟩ | ⟨id, ix, e0, c, xs, ser, iv, rfl, h1, h2, h3, h4⟩ <;> rw [g_of h4]
      · have hk := R.H.ok id
        unfold Eng.AOok at hk
        rw [lk_rw R.hlk h1 (by simp)] at hk
        rw [hl]
        rcases hk with ⟨a1, a2, a3⟩ | ⟨a1, a2, a3, cs, ty, a4, a5, a6⟩
        · exact .inl ⟨a1, a2, a3⟩
        · exact .inr ⟨a1, a2, hfr h2 a3, cs, ty, by rw [R.h']; exact a4, a5, low h2 h3 a6⟩
      · have hob := lk_rw R.hlk h1 (by simp)
        have hk := R.H.ok id
        unfold Eng.AOok at hk
        rw [hob] at hk
        rw [hl]
        show ((X.β id).nil = true ∧ Eng.sub xs lo hi = [] ∧ (X.β id).cap - lo = 0) ∨ ((X.β id).nil = false ∧ (Eng.sub xs lo hi).length ≤ (X.β id).cap - lo ∧ (fr = true → K'.h0.size ≤ (X.β id).blk) ∧
          ∃ cs ty, X'.h[(X.β id).blk]? = some (.cells cs ty (0, 0)) ∧ (if (X.β id).cap ≤ lo then (X.β id).off else (X.β id).off + lo * esz P e) + ((X.β id).cap - lo) * esz P e ≤ cs.size ∧
            RowAt P (Con P X'.h (X'.F fr) 7) e cs (if (X.β id).cap ≤ lo then (X.β id).off else (X.β id).off + lo * esz P e) (Eng.sub xs lo hi))
        have hlen : (Eng.sub xs lo hi).length ≤ xs.length - lo := by simp [Eng.sub]; omega
        rcases hk with ⟨a1, a2, a3⟩ | ⟨a1, a2, a3, cs, ty, a4, a5, a6⟩
        · exact .inl ⟨a1, by rw [a2]; simp [Eng.sub], by omega⟩
        · refine .inr ⟨a1, by omega, hfr h2 a3, cs, ty, by rw [R.h']; exact a4, ?_, ?_⟩
          · by_cases hc : (X.β id).cap ≤ lo
            · rw [if_pos hc, Nat.sub_eq_zero_of_le hc, Nat.zero_mul]; omega
            · rw [if_neg hc, Nat.add_assoc, ← Nat.add_mul, show lo + ((X.β id).cap - lo) = (X.β id).cap by omega]; exact a5
          · by_cases hc : (X.β id).cap ≤ lo
            · rw [if_pos hc]
              have : Eng.sub xs lo hi = [] := List.eq_nil_of_length_eq_zero (by omega)
              rw [this]; intro i hi; simp at hi
            · rw [if_neg hc]
              intro i hi' o ho
              obtain ⟨v, b1, b2⟩ := low h2 h3 a6 (lo + i) (by omega) o ho
              refine ⟨v, ?_, ?_⟩
              · rw [← b1]; congr 1; rw [Nat.add_mul]; omega
              · have : i < hi - lo := by simp [Eng.sub] at hi'; omega
                rw [rd_sub this]; exact b2
      · rw [hl]; exact .inl ⟨rfl, rfl, rfl⟩
      · have hk := R.H.ok id
        unfold Eng.AOok at hk
        rw [lk_rw R.hlk h1 (by simp)] at hk
        rw [hl]
        obtain ⟨hd, ⟨a1, a2, a3⟩ | ⟨a1, a2, _, ⟨cs, ty, a4, a5, a6⟩, _⟩⟩ := hk
        · exact .inl ⟨a1, a2, a3⟩
        · exact .inr ⟨a1, a2, (fun h => by rw [h2] at h; cases h), cs, ty, by rw [R.h']; exact a4, a5, a6.rowAt hd⟩
      · have hob := lk_rw R.hlk h1 (by simp)
        have hk := R.H.ok id
        unfold Eng.AOok at hk
        rw [hob] at hk
        rw [hl]
        simp only [bdLoc, hob]
        by_cases hix : ix < xs.length
        · rw [if_pos hix]
          obtain ⟨⟨d1, d2, _⟩, ⟨_, a2, _⟩ | ⟨a1, a2, _, ⟨cs, ty, a4, a5, a6⟩, _⟩⟩ := hk
          · subst a2; simp at hix
          · obtain ⟨v, _, b2⟩ := a6 ix (Nat.zero_le _) hix c d1
            rw [d2] at b2
            rcases b2 with ⟨c1, c2, c3, _⟩ | ⟨c1, _, c3, cs', ty', c4, c5, c6⟩
            · exact .inl ⟨c1, c2, c3⟩
            · exact .inr ⟨c1, c3, (fun h => by rw [h2] at h; cases h), cs', ty', by rw [R.h']; exact c4, c5, c6.mono fun _ _ _ hx => hx.elim⟩
        · rw [if_neg hix]
          have hrd : (rd xs ix c).list = [] := by
            unfold rd
            rw [List.getD_eq_getElem?_getD (l := xs), List.getElem?_eq_none (by omega)]; rfl
          exact .inl ⟨rfl, hrd, rfl⟩
    | dw e c n =>
      simp only [MetO] at hm
      have hg := R.γ' j b _ hb hp
      simp only [PO.inst]
      rcases hm with ⟨id, xs, ser, iv, rfl, h1, _, h4⟩ | ⟨id, fr', xs, ser, rfl, h1, h2, h3, _, h4⟩ | ⟨rfl, h1, h4⟩ <;> rw [g_of h4, hl]
      · have hk := R.H.ok id
        unfold Eng.AOok at hk
        rw [lk_rw R.hlk h1 (by simp)] at hk
        rw [hg, R.h']
        exact hk
      · have hk := R.H.ok id
        unfold Eng.AOok at hk
        rw [lk_rw R.hlk h1 (by simp)] at hk
        subst h3
        refine ⟨h2, ?_⟩
        rcases hk with ⟨a1, a2, a3⟩ | ⟨a1, a2, _, cs, ty, a4, a5, a6⟩
        · exact .inl ⟨a1, a2, a3⟩
        · exact .inr ⟨a1, a2, Nat.zero_le _, ⟨cs, ty, by rw [R.h']; exact a4, a5, a6.rowD h2⟩, fun k e' hc => by cases hc⟩
      · exact ⟨ze9 h1, .inl ⟨rfl, rfl, rfl⟩⟩
    | mp kt vt n =>
      obtain ⟨id, es, rfl, h1, h2⟩ := hm
      have hk := R.H.ok id
      unfold Eng.AOok at hk
      rw [lk_rw R.hlk h1 (by simp)] at hk
      simp only [PO.inst, g_of h2]
      rw [hl, R.h']
      exact hk
theorem Ren.own (R : Ren P K X w lk Ef X1 p X' z) {j n : Nat} (h : Has X' j n) : ∃ b id, bd Ef.ids j = some b ∧ id ∈ b.ids ∧ Has X id n := by
  obtain ⟨h, hn⟩ := h
  unfold Own at h
  unfold InB at hn
  cases hp : p.objs[j]? with
  | none => rw [R.ob', hp] at h; exact h.elim
  | some q =>
    obtain ⟨b, hb, hm⟩ := R.m j q hp
    have hl := R.β' j b q hb hp
    have hg := R.γ' j b q hb hp
    rw [R.ob', hp] at h hn
    cases q with
    | bx ps =>
      obtain ⟨id, base, cells, rfl, h1, h2, h3⟩ := hm
      refine ⟨_, id, hb, by simp [Bd.ids], by unfold Own; rw [lk_rw R.hlk h1 (by simp)]; trivial, .inl ?_⟩
      rw [hn.resolve_right fun h => h, hl]; rfl
    | rb ps => exact h.elim
    | rw e fr n =>
      simp only [PO.inst] at h
      have hn := hn.resolve_right fun h => h
      simp only [MetO] at hm
      rcases hm with ⟨id, fr', xs, ser, rfl, h1, h2, h3, h4⟩ | ⟨id, lo, hi, fr', xs, ser, rfl, h1, h2, h3, h4⟩ | ⟨rfl, h4⟩ | ⟨id, xs, ser, iv, rfl, h1, h2, h3, h4⟩ | ⟨id, ix, e0, c, xs, ser, iv, rfl, h1, h2, h3, h4⟩
      · rw [hl] at h hn
        exact ⟨_, id, hb, by simp [Bd.ids], by unfold Own; rw [lk_rw R.hlk h1 (by simp)]; exact h, .inl hn⟩
      · rw [hl] at h hn
        exact ⟨_, id, hb, by simp [Bd.ids], by unfold Own; rw [lk_rw R.hlk h1 (by simp)]; exact h, .inl hn⟩
      · rw [hl] at h; simp [bdLoc] at h
      · rw [hl] at h hn
        exact ⟨_, id, hb, by simp [Bd.ids], by unfold Own; rw [lk_rw R.hlk h1 (by simp)]; exact h, .inl hn⟩
      · have hob := lk_rw R.hlk h1 (by simp)
        rw [hl] at h hn
        simp only [bdLoc, hob] at h hn
        by_cases hix : ix < xs.length
        · rw [if_pos hix] at h hn
          have hk := R.H.ok id
          unfold Eng.AOok at hk
          rw [hob] at hk
          refine ⟨_, id, hb, by simp [Bd.ids], ?_, .inr (by rw [hn]; exact InB.of hob (Nat.zero_le _) hix h)⟩
          unfold Own; rw [hob]
          rcases hk.2 with ⟨_, a2, _⟩ | ⟨a1, _⟩
          · subst a2; simp at hix
          · exact a1
        · rw [if_neg hix] at h; cases h
    | dw e c n =>
      simp only [PO.inst] at h hn
      simp only [MetO] at hm
      rcases hm with ⟨id, xs, ser, iv, rfl, h1, _, h4⟩ | ⟨id, fr', xs, ser, rfl, h1, h2, h3, _, h4⟩ | ⟨rfl, h1, h4⟩
      · have hob := lk_rw R.hlk h1 (by simp)
        rw [hl] at h hn
        rw [hg, g_of h4] at hn
        refine ⟨_, id, hb, by simp [Bd.ids], by unfold Own; rw [hob]; exact h, hn.imp (fun q => q) fun q => ?_⟩
        unfold InB; rw [hob]; exact q
      · subst h3
        rw [hl] at h hn
        refine ⟨_, id, hb, by simp [Bd.ids], by unfold Own; rw [lk_rw R.hlk h1 (by simp)]; exact h, .inl (hn.resolve_right ?_)⟩
        rintro ⟨_, _, hc, _⟩
        cases hc
      · rw [hl] at h; simp [bdLoc] at h
    | mp kt vt n =>
      obtain ⟨id, es, rfl, h1, h2⟩ := hm
      refine ⟨_, id, hb, by simp [Bd.ids], by unfold Own; rw [lk_rw R.hlk h1 (by simp)]; trivial, .inl ?_⟩
      rw [hn.resolve_right fun h => h, hl]; rfl
theorem zdc {α : Type} {f : α → List Nat} : ∀ {l : List α}, (l.flatMap f).Nodup → ∀ {x y : α} {a : Nat}, x ∈ l → y ∈ l → a ∈ f x → a ∈ f y → x = y
  | [], _, x, _, _, hx, _, _, _ => by simp at hx
  | z :: l, h, x, y, a, hx, hy, hax, hay => by
    rw [List.flatMap_cons, List.nodup_append] at h
    obtain ⟨_, h2, h3⟩ := h
    have mem : ∀ {x : α}, x ∈ l → a ∈ f x → a ∈ l.flatMap f := fun hx ha => List.mem_flatMap.2 ⟨_, hx, ha⟩
    rcases List.mem_cons.1 hx with e1 | hx' <;> rcases List.mem_cons.1 hy with e2 | hy'
    · rw [e1, e2]
    · subst e1; exact absurd rfl (h3 a hax a (mem hy' hay))
    · subst e2; exact absurd rfl (h3 a hay a (mem hx' hax))
    · exact zdc h2 hx' hy' hax hay
theorem Ren.heap (R : Ren P K X w lk Ef X1 p X' z) (hR : ∀ (j : Nat) (ps : List PS) (id base : Nat), p.objs[j]? = some (.rb ps) → bd Ef.ids j = some (.o id base) → K'.R (X.β id).blk)
    (hf : (∀ (j : Nat) (e : TypeId) (n : Nat), p.objs[j]? ≠ some (.rw e true n)) ∨ K'.h0 = K.h0) (nod : (Ef.ids.flatMap fun x => x.2.ids).Nodup) (nbo : ∀ id ∈ Ef.bo, id ∉ Ef.ids.flatMap fun x => x.2.ids)
    (hsub : ∀ b, X'.F false b → X1.F false b) (hle : ∀ b, X'.F true b → X'.F false b) (hfr : ∀ b, X'.F true b → K'.h0.size ≤ b) (hsz : K'.h0.size ≤ X.h.size) (hRsz : ∀ b, K'.R b → b < K'.h0.size)
    (hnR : ∀ j b, Has X' j b → ¬ K'.R b) (hoM : ∀ j b, Has X' j b → K'.M b ∨ K'.h0.size ≤ b) : Heap P K' X' := by
  have own1 : ∀ {j b id n}, bd Ef.ids j = some b → id ∈ b.ids → Has X id n → Has X1 id n := by
    intro j b id n hb hi ho
    have hn : id ∉ Ef.bo := fun h => nbo id h (List.mem_flatMap.2 ⟨_, zbg hb, hi⟩)
    exact (Has.congr (by rw [R.fz.ob, zdm hn]) (by rw [R.fz.β]) (by rw [R.fz.γ])).2 ho
  refine ⟨R.AOok hR hf, fun j j' n h h' => ?_, fun j n h hF => ?_, hnR, hoM, hle, hfr, fun b hb => ?_, hRsz, by rw [R.h']; exact hsz⟩
  · obtain ⟨b, id, a1, a2, a3⟩ := R.own h
    obtain ⟨b', id', b1, b2, b3⟩ := R.own h'
    have := R.H.inj id id' n a3 b3
    subst this
    have := zdc nod (zbg a1) (zbg b1) a2 b2
    cases this; rfl
  · obtain ⟨b, id, a1, a2, a3⟩ := R.own h
    exact R.fz.stp.heap.nF id n (own1 a1 a2 a3) (hsub _ hF)
  · rw [R.h', ← R.fz.h]; exact R.fz.stp.heap.Fsz b (hsub b hb)
end
end Go.Eng
end
section
namespace Go.Eng
open Go
structure Aft (P : Program) (X' X'' : Cx) (po : List PO) (sh : Bool) (y : Lv) (im : Im) (fo : Bool) (el : Bool) : Prop where
  h : X''.h = X'.h
  F : ∀ fr b, (fr = true ∨ sh = true) → X'.F fr b → X''.F (fr || fo) b
  ob : ∀ j, X'.ob j = match po[j]? with | some q => q.inst y selfIm false | none => .dead
  bx : ∀ j ps, po[j]? = some (.bx ps) → (∃ cells, X''.ob (im j).1 = .bx cells) ∧ ∀ o, (X''.β (im j).1).ptr ((im j).2 + o) = (X'.β j).ptr o
  mp : ∀ j kt vt n, po[j]? = some (.mp kt vt n) → (∃ kt vt es, X''.ob (im j).1 = .mp kt vt es) ∧ (X''.β (im j).1).blk = (X'.β j).blk
  rw : el = false → ∀ j e fr n, po[j]? = some (.rw e fr n) → (∃ ser, X''.ob (im j).1 = .rw e (fr || fo) (g y n).list ser) ∧ X''.β (im j).1 = X'.β j
  dw : ∀ j e c n, po[j]? = some (.dw e c n) → (∃ ser lo iv, X''.ob (im j).1 = .dw e c (g y n).list ser lo iv) ∧ X''.β (im j).1 = X'.β j
  nrb : ∀ (j : Nat) (ps : List PS), po[j]? ≠ some (.rb ps)
section
variable {P : Program} {X' X'' : Cx} {po : List PO} {sh : Bool} {y : Lv} {im : Im} {fo el : Bool}
theorem Aft.box (R : Aft P X' X'' po sh y im fo el) {j : Nat} {Q : Prop} (h : RefBx X' j Q) : (∃ cells, X''.ob (im j).1 = .bx cells) ∧ (∀ o, (X''.β (im j).1).ptr ((im j).2 + o) = (X'.β j).ptr o) ∧ Q := by
  unfold RefBx at h
  rw [R.ob] at h
  cases hp : po[j]? with
  | none => rw [hp] at h; exact h.elim
  | some q =>
    rw [hp] at h
    cases q with
    | bx ps => obtain ⟨a, b⟩ := R.bx j ps hp; exact ⟨a, b, h⟩
    | rb ps => exact absurd hp (R.nrb j ps)
    | rw e fr n => exact h.elim
    | mp kt vt n => exact h.elim
    | dw e c n => exact h.elim
theorem Aft.RS (R : Aft P X' X'' po sh y im fo el) {q : PS} {v : Value} (ht : q.tr = true ∨ sh = true) (hfree : el = true → q.free = true) (hr : Eng.RS P X' (q.inst y selfIm false) v) : Eng.RS P X'' (q.inst y im fo) v := by
  cases q <;> simp only [PS.inst] at hr ⊢
  case un => trivial
  case i k n => exact hr
  case b n => exact hr
  case s n => exact hr
  case fz e fr n =>
    obtain ⟨A, cap, a, b, c⟩ := hr
    rw [Bool.or_false] at c
    exact ⟨A, cap, a, b, Con.mono (fun n hn => R.F fr n ht hn) (fun n hn => by rw [R.h]) c⟩
  case ow j =>
    obtain ⟨h1, h2⟩ := hr
    refine ⟨h1, ?_⟩
    have h2' : RefRw X' j 0 fun e xs => v = .slice (slAddr P e (X'.β j) 0) xs.length (X'.β j).cap := h2
    unfold RefRw at h2'
    rw [R.ob] at h2'
    cases hp : po[j]? with
    | none => rw [hp] at h2'; exact h2'.elim
    | some q =>
      rw [hp] at h2'
      cases q with
      | bx ps => obtain ⟨⟨c, hc⟩, _⟩ := R.bx j ps hp; unfold RefRw; rw [hc]; trivial
      | rb ps => exact absurd hp (R.nrb j ps)
      | rw e fr n =>
        have hel : el = false := by
          cases he : el with
          | false => rfl
          | true => have := hfree he; cases this
        obtain ⟨⟨ser, a⟩, b⟩ := R.rw hel j e fr n hp
        unfold RefRw
        rw [a]
        exact ⟨Nat.zero_le _, fun _ => by rw [b]; exact h2'.2 rfl⟩
      | mp kt vt n => obtain ⟨⟨_, _, _, hc⟩, _⟩ := R.mp j kt vt n hp; unfold RefRw; rw [hc]; trivial
      | dw e c n =>
        obtain ⟨⟨ser, lo, iv, a⟩, b⟩ := R.dw j e c n hp
        unfold RefRw
        rw [a]
        exact ⟨Nat.zero_le _, fun _ => by rw [b]; exact h2'.2 rfl⟩
  case pt j o =>
    obtain ⟨⟨c, hc⟩, b, d⟩ := R.box (show RefBx X' j _ from hr)
    refine RefBx.mk ⟨c, .inl hc⟩ ?_
    rw [b, d]
    show Value.pointer (some ((X'.β j).ptr (0 + o))) = _
    rw [Nat.zero_add]
  case fn f caps =>
    obtain ⟨h1, h2⟩ := hr
    refine ⟨fun c hc => ?_, ?_⟩
    · rw [List.mem_map] at hc
      obtain ⟨d, hd, rfl⟩ := hc
      obtain ⟨⟨c, hc⟩, _⟩ := R.box (h1 (d.1, 0 + d.2) (List.mem_map.2 ⟨d, hd, rfl⟩))
      exact RefBx.mk ⟨c, .inl hc⟩ trivial
    · rw [h2]
      simp only [List.map_map]
      congr 2
      apply List.map_congr_left
      intro d hd
      obtain ⟨_, b, _⟩ := R.box (h1 (d.1, 0 + d.2) (List.mem_map.2 ⟨d, hd, rfl⟩))
      show Value.pointer (some ((X'.β d.1).ptr (0 + d.2))) = Value.pointer (some ((X''.β (im d.1).1).ptr ((im d.1).2 + d.2)))
      rw [b, Nat.zero_add]
  case mp j =>
    have h2 : RefMp X' j (v = .map (some (X'.β j).blk)) := hr
    unfold RefMp at h2
    rw [R.ob] at h2
    cases hp : po[j]? with
    | none => rw [hp] at h2; exact h2.elim
    | some q =>
      rw [hp] at h2
      cases q with
      | bx ps => exact h2.elim
      | rb ps => exact h2.elim
      | rw e fr n => exact h2.elim
      | dw e c n => exact h2.elim
      | mp kt vt n =>
        obtain ⟨⟨_, _, _, a⟩, b⟩ := R.mp j kt vt n hp
        show RefMp X'' (im j).1 _
        unfold RefMp
        rw [a]
        show v = .map (some (X''.β (im j).1).blk)
        rw [b]; exact h2
theorem Aft.RSs (R : Aft P X' X'' po sh y im fo el) : ∀ {ps : List PS} {vs : List Value}, (ps.all PS.tr = true ∨ sh = true) → (el = true → ps.all PS.free = true) → Eng.RSs P X' (ps.map (·.inst y selfIm false)) vs → Eng.RSs P X'' (ps.map (·.inst y im fo)) vs
  | [], _, _, _, h => by cases h; exact .nil
  | p :: ps, _, ht, hf, h => by
    cases h with
    | cons a b =>
      simp only [List.all_cons, Bool.and_eq_true] at ht hf
      exact .cons (R.RS (ht.imp (·.1) id) (fun h => (hf h).1) a) (R.RSs (ht.imp (·.2) id) (fun h => (hf h).2) b)
theorem Aft.RV (R : Aft P X' X'' po sh y im fo el) {q : PV} {v : Value} (ht : q.tr = true ∨ sh = true) (hfree : el = true → q.free = true) (hr : Eng.RV P X' (q.inst y selfIm false) v) : Eng.RV P X'' (q.inst y im fo) v := by
  cases q with
  | sc p => exact R.RS ht hfree hr
  | ag ps => obtain ⟨cs, a, b⟩ := hr; exact ⟨cs, a, R.RSs ht hfree b⟩
  | tu ts =>
    obtain ⟨vs, a, b⟩ := hr
    refine ⟨vs, a, ?_⟩
    have : ∀ {ts : List (Bool × List PS)} {us : List Value}, (ts.all (fun t => t.2.all PS.tr) = true ∨ sh = true) → (el = true → ts.all (fun t => t.2.all PS.free) = true) → F2 (RT P X') (ts.map fun x => (x.1, x.2.map (·.inst y selfIm false))) us → F2 (RT P X'') (ts.map fun x => (x.1, x.2.map (·.inst y im fo))) us := by
      intro ts
      induction ts with
      | nil => intro us _ _ h; cases h; exact .nil
      | cons t ts ih =>
        intro us ht hf h
        cases h with
        | cons a b =>
          simp only [List.all_cons, Bool.and_eq_true] at ht hf
          refine .cons ?_ (ih (ht.imp (·.2) id) (fun h => (hf h).2) b)
          obtain ⟨tb, tl⟩ := t
          cases tb
          · exact R.RSs (ht.imp (·.1) id) (fun h => (hf h).1) a
          · obtain ⟨cs, c1, c2⟩ := a; exact ⟨cs, c1, R.RSs (ht.imp (·.1) id) (fun h => (hf h).1) c2⟩
    exact this ht hfree b
end
end Go.Eng
end
section
namespace Go.Eng
open Go
theorem zdt {α : Type} {d : α} : ∀ {l : List (Nat × α)} {n : Nat}, (∀ v, (n, v) ∉ l) → look d l n = d
  | [], _, _ => rfl
  | (k, v) :: r, n, h => by
    simp only [look]
    rw [zn (fun e => by subst e; exact h v (by simp))]
    exact zdt fun v hv => h v (by simp [hv])
theorem zc6 {α : Type} {d : α} : ∀ {l : List (Nat × α)} {n : Nat} {v : α}, (n, v) ∈ l → (∀ v', (n, v') ∈ l → v' = v) → look d l n = v
  | [], _, _, h, _ => by simp at h
  | (k, u) :: r, n, v, h, hu => by
    simp only [look]
    by_cases e : k = n
    · subst e; simp; exact hu u (by simp)
    · rw [zn e]
      rcases List.mem_cons.1 h with h | h
      · cases h; exact absurd rfl e
      · exact zc6 h fun v' hv => hu v' (by simp [hv])
theorem zco {α : Type} : ∀ {l : List α} {n k : Nat} {x : α}, (k, x) ∈ numbered n l ↔ ∃ i, l[i]? = some x ∧ k = n + i
  | [], n, k, x => by simp [numbered]
  | y :: l, n, k, x => by
    simp only [numbered, List.mem_cons, zco (l := l)]
    constructor
    · rintro (h | ⟨i, h1, h2⟩)
      · cases h; exact ⟨0, by simp, by simp⟩
      · exact ⟨i + 1, by simpa using h1, by omega⟩
    · rintro ⟨i, h1, h2⟩
      cases i with
      | zero => simp at h1; subst h1; left; simp [h2]
      | succ i => right; exact ⟨i, by simpa using h1, by omega⟩
theorem zcp {lk : Lk} {ids : List (Nat × Bd)} {lv : Lv} {im : Im} {fo : Bool} {x : Nat × AO} : ∀ {n j : Nat} {ps : List PO}, x ∈ back lk ids lv im fo n j ps ↔ ∃ i p b, i < n ∧ ps[i]? = some p ∧ bd ids (j + i) = some b ∧ x ∈ back1 lk lv im fo b p
  | 0, j, ps => by simp [back]
  | n + 1, j, [] => by simp [back]
  | n + 1, j, p :: ps => by
    simp only [back]
    have ih := @zcp lk ids lv im fo x n (j + 1) ps
    cases hb : bd ids j with
    | none =>
      simp only [ih]
      constructor
      · rintro ⟨i, q, b, h1, h2, h3, h4⟩
        exact ⟨i + 1, q, b, by omega, by simpa using h2, by rw [← h3]; congr 1; omega, h4⟩
      · rintro ⟨i, q, b, h1, h2, h3, h4⟩
        cases i with
        | zero => simp at h3; rw [hb] at h3; cases h3
        | succ i => exact ⟨i, q, b, by omega, by simpa using h2, by rw [← h3]; congr 1; omega, h4⟩
    | some b =>
      simp only [List.mem_append, ih]
      constructor
      · rintro (h | ⟨i, q, b, h1, h2, h3, h4⟩)
        · exact ⟨0, p, b, by omega, by simp, hb, h⟩
        · exact ⟨i + 1, q, b, by omega, by simpa using h2, by rw [← h3]; congr 1; omega, h4⟩
      · rintro ⟨i, q, b', h1, h2, h3, h4⟩
        cases i with
        | zero => simp at h3 h2; rw [hb] at h3; cases h3; subst h2; exact .inl h4
        | succ i => exact .inr ⟨i, q, b', by omega, by simpa using h2, by rw [← h3]; congr 1; omega, h4⟩
theorem zde {lk : Lk} {lv : Lv} {im : Im} {fo : Bool} {b : Bd} {p : PO} {id : Nat} {o : AO} (h : (id, o) ∈ back1 lk lv im fo b p) : id ∈ b.ids ∧ ((∃ base, b = .o id base ∧
    ((∃ qs cells, p = .bx qs ∧ lk id = .bx cells ∧ o = .bx (setMany cells base (qs.map (·.inst lv im fo)))) ∨ (∃ kt vt n, p = .mp kt vt n ∧ o = .mp kt vt (g lv n).map) ∨ ∃ e fr n e' fr' xs ser, p = .rw e fr n ∧ lk id = .rw e' fr' xs ser ∧ o = .rw e (fr || fo) (g lv n).list ser)) ∨
    (∃ base e c n e' c' xs ser lo iv, b = .o id base ∧ p = .dw e c n ∧ lk id = .dw e' c' xs ser lo iv ∧ o = .dw e c (g lv n).list ser lo (iv + 1)) ∨
    ∃ ix e fr n e' c e2 xs ser lo iv, b = .el id ix ∧ p = .rw e fr n ∧ lk id = .dw e' (some (c, e2)) xs ser lo iv ∧ o = .dw e' (some (c, e2)) (wr xs ix c (.l (g lv n).list)) ser lo (iv + 1)) := by
  unfold back1 at h
  split at h
  · rename_i id' base qs
    split at h
    · rename_i cells hl
      simp at h
      obtain ⟨rfl, rfl⟩ := h
      exact ⟨by simp [Bd.ids], .inl ⟨base, rfl, .inl ⟨qs, cells, rfl, hl, rfl⟩⟩⟩
    · simp at h
  · simp at h
    obtain ⟨rfl, rfl⟩ := h
    exact ⟨by simp [Bd.ids], .inl ⟨_, rfl, .inr (.inl ⟨_, _, _, rfl, rfl⟩)⟩⟩
  · rename_i id' base e fr n
    split at h
    · rename_i e' fr' xs ser hl
      simp at h
      obtain ⟨rfl, rfl⟩ := h
      exact ⟨by simp [Bd.ids], .inl ⟨base, rfl, .inr (.inr ⟨e, fr, n, e', fr', xs, ser, rfl, hl, rfl⟩)⟩⟩
    · simp at h
  · rename_i id' base e c n
    split at h
    · rename_i e' c' xs ser lo iv hl
      simp at h
      obtain ⟨rfl, rfl⟩ := h
      exact ⟨by simp [Bd.ids], .inr (.inl ⟨base, e, c, n, e', c', xs, ser, lo, iv, rfl, rfl, hl, rfl⟩)⟩
    · simp at h
  · rename_i id' ix e fr n
    split at h
    · rename_i e' c e2 xs ser lo iv hl
      simp at h
      obtain ⟨rfl, rfl⟩ := h
      exact ⟨by simp [Bd.ids], .inr (.inr ⟨ix, e, fr, n, e', c, e2, xs, ser, lo, iv, rfl, rfl, hl, rfl⟩)⟩
    · simp at h
  · simp at h
def PO.row : PO → Bool | .rw _ _ _ => true | .dw _ _ _ => true | _ => false
theorem zcj {nb : Nat} {ids : List (Nat × Bd)} {id : Nat} {o : AO} : ∀ {ps : List PO} {j : Nat}, ((id, o) ∈ given nb ids j ps ↔ o = .gone ∧ ∃ i p b, nb ≤ j + i ∧ ps[i]? = some p ∧ p.row = true ∧ bd ids (j + i) = some b ∧ id ∈ b.ids ∧ b.isEl = false ∧ (∀ e c n lo hi, p = .dw e c n → b ≠ .sb id lo hi))
  | [], j => by simp [given]
  | p :: ps, j => by
    have ih := @zcj nb ids id o ps (j + 1)
    have skip : (nb ≤ j → p.row = true → ∀ b, bd ids j = some b → id ∈ b.ids → b.isEl = false → (∀ e c n lo hi, p = .dw e c n → b ≠ .sb id lo hi) → False) → ((o = .gone ∧ ∃ i q b, nb ≤ j + 1 + i ∧ ps[i]? = some q ∧ q.row = true ∧ bd ids (j + 1 + i) = some b ∧ id ∈ b.ids ∧ b.isEl = false ∧ (∀ e c n lo hi, q = .dw e c n → b ≠ .sb id lo hi)) ↔
        (o = .gone ∧ ∃ i q b, nb ≤ j + i ∧ (p :: ps)[i]? = some q ∧ q.row = true ∧ bd ids (j + i) = some b ∧ id ∈ b.ids ∧ b.isEl = false ∧ (∀ e c n lo hi, q = .dw e c n → b ≠ .sb id lo hi))) := by
      intro hp
      constructor
      · rintro ⟨h0, i, q, b, hn, h1, h2, h3, h4⟩
        exact ⟨h0, i + 1, q, b, by omega, by simpa using h1, h2, by rw [← h3]; congr 1; omega, h4⟩
      · rintro ⟨h0, i, q, b, hn, h1, h2, h3, h4, h5, h6⟩
        cases i with
        | zero => simp at h1 h3; subst h1; exact (hp (by omega) h2 b h3 h4 h5 h6).elim
        | succ i => exact ⟨h0, i, q, b, by omega, by simpa using h1, h2, by rw [← h3]; congr 1; omega, h4, h5, h6⟩
    have take : ∀ {id' : Nat} {b : Bd}, nb ≤ j → p.row = true → bd ids j = some b → b.ids = [id'] → b.isEl = false → (∀ e c n lo hi, p = .dw e c n → b ≠ .sb id' lo hi) → (((id, o) = (id', .gone) ∨ (o = .gone ∧ ∃ i q b, nb ≤ j + 1 + i ∧ ps[i]? = some q ∧ q.row = true ∧ bd ids (j + 1 + i) = some b ∧ id ∈ b.ids ∧ b.isEl = false ∧ (∀ e c n lo hi, q = .dw e c n → b ≠ .sb id lo hi))) ↔
        (o = .gone ∧ ∃ i q b, nb ≤ j + i ∧ (p :: ps)[i]? = some q ∧ q.row = true ∧ bd ids (j + i) = some b ∧ id ∈ b.ids ∧ b.isEl = false ∧ (∀ e c n lo hi, q = .dw e c n → b ≠ .sb id lo hi))) := by
      intro id' b hn hr hb hi he hd
      constructor
      · rintro (h | ⟨h0, i, q, b, hn, h1, h2, h3, h4⟩)
        · cases h; exact ⟨rfl, 0, p, b, by omega, rfl, hr, hb, by rw [hi]; simp, he, hd⟩
        · exact ⟨h0, i + 1, q, b, by omega, by simpa using h1, h2, by rw [← h3]; congr 1; omega, h4⟩
      · rintro ⟨h0, i, q, b', hn, h1, h2, h3, h4, h5, h6⟩
        cases i with
        | zero => simp at h1 h3; rw [hb] at h3; cases h3; rw [hi] at h4; simp at h4; left; rw [h0, h4]
        | succ i => exact .inr ⟨h0, i, q, b', by omega, by simpa using h1, h2, by rw [← h3]; congr 1; omega, h4, h5, h6⟩
    simp only [given]
    cases hble : Nat.ble nb j
    · rw [cond_false, ih]
      refine skip fun hn => ?_
      rw [Nat.ble_eq_true_of_le hn] at hble; cases hble
    have hnb := Nat.le_of_ble_eq_true hble
    rw [cond_true]
    split
    · rename_i e fr n id' base hb
      rw [List.mem_cons, ih]
      exact take hnb rfl hb rfl rfl fun _ _ _ _ _ h => by cases h
    · rename_i e fr n id' lo hi hb
      rw [List.mem_cons, ih]
      exact take hnb rfl hb rfl rfl fun _ _ _ _ _ h => by cases h
    · rename_i e c n id' base hb
      rw [List.mem_cons, ih]
      exact take hnb rfl hb rfl rfl fun _ _ _ _ _ _ h => by cases h
    · rename_i p' p2 x2 hn1 hn2 hn3
      rw [ih]
      refine skip fun _ hr b hb hm he hd => ?_
      cases p' with
      | bx ps => cases hr
      | rb ps => cases hr
      | mp kt vt n => cases hr
      | rw e fr n =>
        cases b with
        | o id' base => exact hn1 e fr n id' base rfl hb
        | nil => simp [Bd.ids] at hm
        | sb id' lo hi => exact hn2 e fr n id' lo hi rfl hb
        | el id' ix => cases he
      | dw e c n =>
        cases b with
        | o id' base => exact hn3 e c n id' base rfl hb
        | nil => simp [Bd.ids] at hm
        | sb id' lo hi => simp [Bd.ids] at hm; subst hm; exact hd e c n lo hi rfl rfl
        | el id' ix => cases he
theorem zbs : ∀ {n : Nat} {ps qs : List PO}, stays n ps qs = true → ∀ j, j < n → (∃ as bs, ps[j]? = some (.bx as) ∧ qs[j]? = some (.bx bs) ∧ as.length = bs.length) ∨ (∃ kt vt a b, ps[j]? = some (.mp kt vt a) ∧ qs[j]? = some (.mp kt vt b)) ∨ (∃ e fr a fr' b, ps[j]? = some (.rw e fr a) ∧ qs[j]? = some (.rw e fr' b)) ∨ ∃ e c a b, ps[j]? = some (.dw e c a) ∧ qs[j]? = some (.dw e c b)
  | 0, _, _, _, j, hj => by omega
  | n + 1, ps, qs, h, j, hj => by
    unfold stays at h
    split at h
    · rename_i hx; cases hx
    · rename_i n' as r bs r' hx
      cases hx
      simp only [Bool.and_eq_true] at h
      cases j with
      | zero => exact .inl ⟨as, bs, rfl, rfl, zb h.1⟩
      | succ j => simpa using zbs h.2 j (by omega)
    · rename_i n' kt vt a r kt' vt' b r' hx
      cases hx
      simp only [Bool.and_eq_true] at h
      have e1 := zb h.1.1; have e2 := zb h.1.2; subst e1 e2
      cases j with
      | zero => exact .inr (.inl ⟨kt, vt, a, b, rfl, rfl⟩)
      | succ j => simpa using zbs h.2 j (by omega)
    · rename_i n' e fr a r e' fr' b r' hx
      cases hx
      simp only [Bool.and_eq_true] at h
      have e1 := zb h.1; subst e1
      cases j with
      | zero => exact .inr (.inr (.inl ⟨e, fr, a, fr', b, rfl, rfl⟩))
      | succ j => simpa using zbs h.2 j (by omega)
    · rename_i n' e c a r e' c' b r' hx
      cases hx
      simp only [Bool.and_eq_true] at h
      have e1 := zb h.1.1; have e2 := zd4 h.1.2; subst e1 e2
      cases j with
      | zero => exact .inr (.inr (.inr ⟨e, c, a, b, rfl, rfl⟩))
      | succ j => simpa using zbs h.2 j (by omega)
    · cases h
theorem zcq {lk : Lk} {ids : List (Nat × Bd)} : ∀ {n j : Nat} {ps : List PO}, bdOk lk ids n j ps = true → ∀ i p, ps[i]? = some p →
    (i < n → (∀ e fr a, p = .rw e fr a → (∃ id base e' fr' xs ser, bd ids (j + i) = some (.o id base) ∧ lk id = .rw e' fr' xs ser) ∨ ∃ id ix, bd ids (j + i) = some (.el id ix)) ∧
      ∀ e c a, p = .dw e c a → ∃ id base e' c' xs ser lo iv, bd ids (j + i) = some (.o id base) ∧ lk id = .dw e' c' xs ser lo iv) ∧
    (n ≤ i → ∀ b, bd ids (j + i) = some b → b.isEl = false)
  | n, j, [], h, i, p, hp => by simp at hp
  | n, j, q :: ps, h, i, p, hp => by
    have h2 : bdOk lk ids (n - 1) (j + 1) ps = true := by
      cases n with
      | zero => simp only [bdOk, Bool.and_eq_true] at h; exact h.2
      | succ n => cases q <;> simp only [bdOk, Bool.and_eq_true] at h <;> first | exact h.2 | exact h
    cases i with
    | succ i =>
      obtain ⟨a, b⟩ := zcq h2 i p (by simpa using hp)
      have e : j + (i + 1) = j + 1 + i := by omega
      rw [e]
      exact ⟨fun hi => a (by omega), fun hi => b (by omega)⟩
    | zero =>
      simp at hp; subst hp
      rw [Nat.add_zero]
      refine ⟨fun hi => ?_, fun hi b hb => ?_⟩
      · cases n with
        | zero => omega
        | succ n =>
          refine ⟨fun e fr a hq => ?_, fun e c a hq => ?_⟩
          · subst hq
            simp only [bdOk, Bool.and_eq_true] at h
            have h1 := h.1
            split at h1
            · rename_i id base hb
              split at h1
              · rename_i e' fr' xs ser hl
                exact .inl ⟨id, base, e', fr', xs, ser, hb, hl⟩
              · cases h1
            · rename_i id ix hb; exact .inr ⟨id, ix, hb⟩
            · cases h1
          · subst hq
            simp only [bdOk, Bool.and_eq_true] at h
            have h1 := h.1
            split at h1
            · rename_i id base hb
              split at h1
              · rename_i e' c' xs ser lo iv hl
                exact ⟨id, base, e', c', xs, ser, lo, iv, hb, hl⟩
              · cases h1
            · cases h1
      · have hn : n = 0 := by omega
        subst hn
        simp only [bdOk, Bool.and_eq_true] at h
        have h1 := h.1
        rw [hb] at h1
        cases b <;> first | rfl | cases h1
theorem zd6 {lk : Lk} : ∀ {n j : Nat} {ps : List PO}, rwOk lk n j ps = true → ∀ i p, i < n → ps[i]? = some p → (∀ e fr a, p = .rw e fr a → ∃ e fr xs, lk (j + i) = .rw e fr xs 0) ∧ ∀ e c a, p = .dw e c a → ∃ e c xs iv, lk (j + i) = .dw e c xs 0 0 iv ∧ iv < most
  | 0, j, ps, h, i, p, hi, hp => by omega
  | n + 1, j, [], h, i, p, hi, hp => by simp at hp
  | n + 1, j, q :: ps, h, i, p, hi, hp => by
    cases i with
    | zero =>
      simp at hp; subst hp
      refine ⟨fun e fr a hq => ?_, fun e c a hq => ?_⟩
      · subst hq
        simp only [rwOk, Bool.and_eq_true] at h
        have h1 := h.1
        split at h1
        · rename_i e fr xs hb; exact ⟨e, fr, xs, hb⟩
        · cases h1
      · subst hq
        simp only [rwOk, Bool.and_eq_true] at h
        have h1 := h.1
        split at h1
        · rename_i e c xs iv hb; exact ⟨e, c, xs, iv, hb, Nat.le_of_ble_eq_true h1⟩
        · cases h1
    | succ i =>
      have h2 : rwOk lk n (j + 1) ps = true := by
        cases q <;> simp only [rwOk, Bool.and_eq_true] at h <;> first | exact h.2 | exact h
      have := zd6 h2 i p (by omega) (by simpa using hp)
      rw [show j + (i + 1) = j + 1 + i by omega]; exact this
end Go.Eng
end
section
namespace Go.Eng
open Go
def kx (X0 : Cx) : Kx := ⟨X0.h, fun b => b < X0.h.size ∧ ∀ j, ¬ Has X0 j b, fun b => ∃ j, Has X0 j b⟩
def Kept (X X' : Cx) (id : Nat) : Prop := match X.ob id with
  | .dw e c xs ser _ _ => X'.ob id = .gone ∨ (∃ fr' xs' ser', X'.ob id = .fz e fr' xs' ser') ∨ ∃ xs' ser' lo' iv', X'.ob id = .dw e c xs' ser' lo' iv' ∧ ser ≤ ser' ∧ (ser' = ser → xs'.length = xs.length ∧ X'.β id = X.β id ∧ (iv' < most → X'.γ id = X.γ id))
  | _ => Keeps X X' id
theorem Kept.keeps {X X' : Cx} {id : Nat} (h : Kept X X' id) (hd : (X.ob id).isD = false) : Keeps X X' id := by
  unfold Kept at h
  split at h
  · rename_i ho; rw [ho] at hd; cases hd
  · exact h
theorem Keeps.kept {X X' : Cx} {id : Nat} (h : Keeps X X' id) : Kept X X' id := by
  unfold Kept
  split
  · rename_i ho
    unfold Keeps at h
    rw [ho] at h
    rcases h with h | ⟨⟨fr', xs', h, _⟩, _⟩ | ⟨xs', ser', lo', iv', h, h1, _, h2, _⟩ | ⟨fr', xs', ser', h, _⟩
    · exact .inl h
    · exact .inr (.inl ⟨_, _, _, h⟩)
    · exact .inr (.inr ⟨xs', ser', lo', iv', h, h1, h2⟩)
    · exact .inr (.inl ⟨_, _, _, h⟩)
  · exact h
theorem Kept.trans {X Y Z : Cx} {id : Nat} (h : Kept X Y id) (k : Keeps Y Z id) : Kept X Z id := by
  unfold Kept at h ⊢
  split at h
  · rcases h with h | ⟨fr', xs', ser', h⟩ | ⟨xs', ser', lo', iv', h, h1, h2⟩
    · unfold Keeps at k; rw [h] at k; exact .inl k
    · unfold Keeps at k; rw [h] at k
      rcases k with k | ⟨⟨_, _, k, _⟩, _⟩
      · exact .inl k
      · exact .inr (.inl ⟨_, _, _, k⟩)
    · unfold Keeps at k; rw [h] at k
      rcases k with k | ⟨⟨_, _, k, _⟩, _⟩ | ⟨xs2, ser2, lo2, iv2, k, k1, k4, k2, _⟩ | ⟨_, _, _, k, _⟩
      · exact .inl k
      · exact .inr (.inl ⟨_, _, _, k⟩)
      · refine .inr (.inr ⟨xs2, ser2, lo2, iv2, k, by omega, fun hq => ?_⟩)
        obtain ⟨a1, a2, a3⟩ := h2 (by omega)
        obtain ⟨b1, b2, b3⟩ := k2 (by omega)
        exact ⟨b1.trans a1, b2.trans a2, fun hq => (b3 hq).trans (a3 (by omega))⟩
      · exact .inr (.inl ⟨_, _, _, k⟩)
  · exact Keeps.trans h k
structure Past (P : Program) (K : Kx) (nb : Nat) (X0 : Cx) (w0 : World) (X : Cx) (w : World) : Prop where
  heap : Heap P K X
  hX : X.h = w.heap
  os : w.os = w0.os
  tape : w.tape = w0.tape
  output : w.output = w0.output
  sz : X0.h.size ≤ X.h.size
  fr : ∀ b, b < X0.h.size → (∀ id, ¬ Has X0 id b) → X.h[b]? = X0.h[b]?
  own : ∀ id b, Has X id b → X0.h.size ≤ b ∨ ∃ id0, Has X0 id0 b
  Fnew : ∀ b, X.F false b → X0.F false b ∨ X0.h.size ≤ b ∨ ∃ id, Has X0 id b
  kp : ∀ j, j < nb → Kept X0 X j
  box : ∀ j cells, j < nb → X0.ob j = .bx cells → BoxK X0 X j cells.length
def obOf (ps : List PO) (y : Lv) : Nat → AO := fun j => match ps[j]? with | some q => q.inst y selfIm false | none => .dead
structure Cal (P : Program) (K : Kx) (X : Cx) (w : World) (lk : Lk) (E : Env) (s : Sig) (nid : Nat) (y : Lv) (X1 X0 Xb X' : Cx) (w' : World) : Prop where
  R : Ren P K X w lk E X1 s.pre X0 true
  H0 : Heap P (kx X0) X0
  F0 : ∀ fr b, X0.F fr b ↔ fr = false ∧ X1.F E.af b
  nod : (E.ids.flatMap fun x => x.2.ids).Nodup
  nbo : ∀ id ∈ E.bo, id ∉ E.ids.flatMap fun x => x.2.ids
  ok : s.ok = true
  dead : ∀ t, t < s.post.objs.length - s.nb → X.ob (nid + t) = .dead
  b : (s.sh = true ∧ Xb = X1) ∨ (s.sh = false ∧ Xb = X)
  pa : Past P (kx X0) s.nb X0 w X' w'
  ob' : X'.ob = obOf s.post.objs y
  whole : bdOk lk E.ids s.nb 0 s.pre.objs = true
  elok : elOk E.ids s.post = true
section
variable {P : Program} {K : Kx} {X : Cx} {w : World} {lk : Lk} {E : Env} {s : Sig} {nid : Nat} {y : Lv} {X1 X0 Xb X' : Cx} {w' : World}
def Set_ (E : Env) (s : Sig) (nid : Nat) (id : Nat) : Prop := (∃ t, t < s.post.objs.length - s.nb ∧ id = nid + t) ∨ ∃ j b, bd E.ids j = some b ∧ id ∈ b.ids ∧ (j < s.nb ∨ ∃ q, s.pre.objs[j]? = some q ∧ q.row = true)
def wsOf (s : Sig) (lk : Lk) (nid : Nat) (E : Env) (y : Lv) : List (Nat × AO) :=
  back lk E.ids y (bdIm E.ids s.nb nid) E.af s.nb 0 s.post.objs ++ (numbered nid ((s.post.objs.drop s.nb).map (·.inst y (bdIm E.ids s.nb nid) E.af)) ++ given s.nb E.ids 0 s.pre.objs)
def cxOf (s : Sig) (lk : Lk) (nid : Nat) (E : Env) (y : Lv) (Xb X' : Cx) : Cx :=
  ⟨fun id => if nid ≤ id ∧ id < nid + (s.post.objs.length - s.nb) then X'.β (s.nb + (id - nid)) else Xb.β id,
   fun fr b => Xb.F fr b ∨ X'.F true b ∨ (s.sh = true ∧ (fr = false ∨ E.af = true) ∧ X'.F false b), updl Xb.ob (wsOf s lk nid E y), X'.h,
   fun id => if nid ≤ id ∧ id < nid + (s.post.objs.length - s.nb) then X'.γ (s.nb + (id - nid)) else Xb.γ id⟩
theorem Cal.parts (C : Cal P K X w lk E s nid y X1 X0 Xb X' w') : s.pre.nf = true ∧ stays s.nb s.pre.objs s.post.objs = true ∧ (∀ q ∈ s.pre.objs.drop s.nb, q.lent = true) ∧ (∀ q ∈ s.post.objs.drop s.nb, q.new = true) ∧ s.post.vals.length = 1 ∧ (s.sh = true ∨ s.post.tr = true) := by
  have := C.ok
  simp only [Sig.ok, Bool.and_eq_true, List.all_eq_true, Bool.or_eq_true] at this
  exact ⟨this.1, this.2.1, this.2.2.1, this.2.2.2.1, zb this.2.2.2.2.1, this.2.2.2.2.2⟩
theorem Cal.uniq (C : Cal P K X w lk E s nid y X1 X0 Xb X' w') {j j' id : Nat} {b b' : Bd} (h : bd E.ids j = some b) (h' : bd E.ids j' = some b') (hi : id ∈ b.ids) (hi' : id ∈ b'.ids) : j = j' ∧ b = b' := by
  have := zdc C.nod (zbg h) (zbg h') hi hi'
  cases this; exact ⟨rfl, rfl⟩
theorem Cal.nobo (C : Cal P K X w lk E s nid y X1 X0 Xb X' w') {j id : Nat} {b : Bd} (h : bd E.ids j = some b) (hi : id ∈ b.ids) : id ∉ E.bo := fun hm => C.nbo id hm (List.mem_flatMap.2 ⟨_, zbg h, hi⟩)
theorem Cal.Xbob (C : Cal P K X w lk E s nid y X1 X0 Xb X' w') {id : Nat} (h : id ∉ E.bo) : Xb.ob id = X.ob id := by
  rcases C.b with ⟨_, h1⟩ | ⟨_, h1⟩
  · rw [h1, C.R.fz.ob, zdm h]
  · rw [h1]
theorem Cal.Xbβ (C : Cal P K X w lk E s nid y X1 X0 Xb X' w') : Xb.β = X.β := by
  rcases C.b with ⟨_, h1⟩ | ⟨_, h1⟩
  · rw [h1, C.R.fz.β]
  · rw [h1]
theorem Cal.Xbγ (C : Cal P K X w lk E s nid y X1 X0 Xb X' w') : Xb.γ = X.γ := by
  rcases C.b with ⟨_, h1⟩ | ⟨_, h1⟩
  · rw [h1, C.R.fz.γ]
  · rw [h1]
theorem Cal.Xbh (C : Cal P K X w lk E s nid y X1 X0 Xb X' w') : Xb.h = X.h := by
  rcases C.b with ⟨_, h1⟩ | ⟨_, h1⟩
  · rw [h1, C.R.fz.h]
  · rw [h1]
theorem Cal.XbH (C : Cal P K X w lk E s nid y X1 X0 Xb X' w') : Heap P K Xb := by
  rcases C.b with ⟨_, h1⟩ | ⟨_, h1⟩
  · rw [h1]; exact C.R.fz.stp.heap
  · rw [h1]; exact C.R.H
theorem Cal.h0 (C : Cal P K X w lk E s nid y X1 X0 Xb X' w') : X0.h = X.h := C.R.h'
theorem Cal.Xbdead (C : Cal P K X w lk E s nid y X1 X0 Xb X' w') {id : Nat} (h : X.ob id = .dead) : Xb.ob id = .dead := by
  rcases C.b with ⟨_, h1⟩ | ⟨_, h1⟩
  · by_cases hm : id ∈ E.bo
    · rw [h1, C.R.fz.ob]
      show look (X.ob id) (frz lk E.bo) id = .dead
      rw [zdt, h]
      intro v hv
      have : ∀ {l : List Nat}, (id, v) ∈ frz lk l → lk id ≠ .dead := by
        intro l
        induction l with
        | nil => intro h; simp [frz] at h
        | cons i l ih =>
          intro h
          simp only [frz] at h
          split at h
          · rename_i hl
            rcases List.mem_cons.1 h with h | h
            · cases h; rw [hl]; simp
            · exact ih h
          · rename_i e c xs ser lo iv hl
            cases hlo : Nat.beq lo 0 <;> simp only [hlo, cond_false, cond_true] at h
            · exact ih h
            rcases List.mem_cons.1 h with h | h
            · cases h; rw [hl]; simp
            · exact ih h
          · exact ih h
      have hl := this hv
      rcases C.R.hlk id with h9 | h9
      · rw [h9, h] at hl; exact absurd rfl hl
      · exact absurd h9 hl
    · rw [C.Xbob hm, h]
  · rw [h1, h]
theorem Cal.alive (C : Cal P K X w lk E s nid y X1 X0 Xb X' w') {j id : Nat} {b : Bd} (h : bd E.ids j = some b) (hi : id ∈ b.ids) : X.ob id ≠ .dead := by
  obtain ⟨q, hq, hm, _⟩ := C.R.at_ h
  cases q <;> simp only [MetO] at hm
  · obtain ⟨id', base, cells, rfl, h1, _⟩ := hm
    simp [Bd.ids] at hi; subst hi
    rw [lk_rw C.R.hlk h1 (by simp)]; simp
  · obtain ⟨id', base, cells, rfl, h1, _⟩ := hm
    simp [Bd.ids] at hi; subst hi
    rcases h1 with h1 | h1 <;> rw [lk_rw C.R.hlk h1 (by simp)] <;> simp
  · rcases hm with ⟨id', fr', xs, ser, rfl, h1, _⟩ | ⟨id', lo, hi', fr', xs, ser, rfl, h1, _⟩ | ⟨rfl, _⟩ | ⟨id', xs, ser, iv, rfl, h1, _⟩ | ⟨id', ix, e0, c', xs, ser, iv, rfl, h1, _⟩
    · simp [Bd.ids] at hi; subst hi; rw [lk_rw C.R.hlk h1 (by simp)]; simp
    · simp [Bd.ids] at hi; subst hi; rw [lk_rw C.R.hlk h1 (by simp)]; simp
    · simp [Bd.ids] at hi
    · simp [Bd.ids] at hi; subst hi; rw [lk_rw C.R.hlk h1 (by simp)]; simp
    · simp [Bd.ids] at hi; subst hi; rw [lk_rw C.R.hlk h1 (by simp)]; simp
  · obtain ⟨id', es, rfl, h1, _⟩ := hm
    simp [Bd.ids] at hi; subst hi
    rw [lk_rw C.R.hlk h1 (by simp)]; simp
  · rcases hm with ⟨id', xs, ser, iv, rfl, h1, _⟩ | ⟨id', fr', xs, ser, rfl, h1, _⟩ | ⟨rfl, _⟩
    · simp [Bd.ids] at hi; subst hi; rw [lk_rw C.R.hlk h1 (by simp)]; simp
    · simp [Bd.ids] at hi; subst hi; rw [lk_rw C.R.hlk h1 (by simp)]; simp
    · simp [Bd.ids] at hi
theorem Cal.fresh (C : Cal P K X w lk E s nid y X1 X0 Xb X' w') {j id t : Nat} {b : Bd} (h : bd E.ids j = some b) (hi : id ∈ b.ids) (ht : t < s.post.objs.length - s.nb) : id ≠ nid + t := fun e => by
  subst e; exact C.alive h hi (C.dead t ht)
theorem Cal.other (C : Cal P K X w lk E s nid y X1 X0 Xb X' w') {id : Nat} (h : ¬ Set_ E s nid id) (d : AO) : look d (wsOf s lk nid E y) id = d := by
  apply zdt
  intro v hv
  simp only [wsOf, List.mem_append] at hv
  rcases hv with hv | hv | hv
  · obtain ⟨i, p, b, h1, h2, h3, h4⟩ := zcp.1 hv
    rw [Nat.zero_add] at h3
    exact h (.inr ⟨i, _, h3, (zde h4).1, .inl h1⟩)
  · obtain ⟨t, h1, h2⟩ := zco.1 hv
    have := (List.getElem?_eq_some_iff.1 h1).1
    simp at this
    exact h (.inl ⟨t, by omega, h2⟩)
  · obtain ⟨_, i, q, b, _, h1, h2, h3, h4, _⟩ := zcj.1 hv
    rw [Nat.zero_add] at h3
    exact h (.inr ⟨i, b, h3, h4, .inr ⟨q, h1, h2⟩⟩)
theorem Cal.new (C : Cal P K X w lk E s nid y X1 X0 Xb X' w') {t : Nat} {q : PO} (ht : s.post.objs[s.nb + t]? = some q) (d : AO) : look d (wsOf s lk nid E y) (nid + t) = q.inst y (bdIm E.ids s.nb nid) E.af := by
  have hl : t < s.post.objs.length - s.nb := by have := (List.getElem?_eq_some_iff.1 ht).1; omega
  have hq : ((s.post.objs.drop s.nb).map (·.inst y (bdIm E.ids s.nb nid) E.af))[t]? = some (q.inst y (bdIm E.ids s.nb nid) E.af) := by
    rw [List.getElem?_map, List.getElem?_drop, ht]; rfl
  apply zc6
  · simp only [wsOf, List.mem_append]
    exact .inr (.inl (zco.2 ⟨t, hq, rfl⟩))
  · intro v hv
    simp only [wsOf, List.mem_append] at hv
    rcases hv with hv | hv | hv
    · obtain ⟨i, p, b, h1, h2, h3, h4⟩ := zcp.1 hv
      exact absurd rfl (C.fresh h3 (zde h4).1 hl)
    · obtain ⟨t', h1, h2⟩ := zco.1 hv
      have : t' = t := by omega
      subst this; rw [hq] at h1; cases h1; rfl
    · obtain ⟨_, i, q, b, _, h1, h2, h3, h4, _⟩ := zcj.1 hv
      exact absurd rfl (C.fresh h3 h4 hl)
theorem Cal.gone (C : Cal P K X w lk E s nid y X1 X0 Xb X' w') {j id : Nat} {b : Bd} {q : PO} (hj : s.nb ≤ j) (h : bd E.ids j = some b) (hi : id ∈ b.ids) (hq : s.pre.objs[j]? = some q) (hr : q.row = true) (d : AO) :
    look d (wsOf s lk nid E y) id = .gone := by
  have hel : b.isEl = false := (zcq C.whole j q hq).2 hj b (by rw [Nat.zero_add]; exact h)
  have hsb : ∀ e c n lo hi, q = .dw e c n → b ≠ .sb id lo hi := by
    intro e c n lo hi' hq2 hb
    subst hq2 hb
    obtain ⟨q2, hq2, hm, _⟩ := C.R.at_ h
    rw [hq] at hq2; cases hq2
    rcases hm with ⟨_, _, _, _, a, _⟩ | ⟨_, _, _, _, a, _⟩ | ⟨a, _⟩ <;> cases a
  apply zc6
  · simp only [wsOf, List.mem_append]
    exact .inr (.inr (zcj.2 ⟨rfl, j, q, b, by omega, hq, hr, by rw [Nat.zero_add]; exact h, hi, hel, hsb⟩))
  · intro v hv
    simp only [wsOf, List.mem_append] at hv
    rcases hv with hv | hv | hv
    · obtain ⟨i, p, b', h1, h2, h3, h4⟩ := zcp.1 hv
      have := (C.uniq h h3 hi (zde h4).1).1
      omega
    · obtain ⟨t, h1, h2⟩ := zco.1 hv
      have hl := (List.getElem?_eq_some_iff.1 h1).1
      simp at hl
      exact absurd h2 (C.fresh h hi (by omega))
    · exact (zcj.1 hv).1
theorem Cal.kept (C : Cal P K X w lk E s nid y X1 X0 Xb X' w') {j id : Nat} {b : Bd} {p : PO} {o : AO} (hj : j < s.nb) (h : bd E.ids j = some b) (hi : id ∈ b.ids) (hp : s.post.objs[j]? = some p) (ho : back1 lk y (bdIm E.ids s.nb nid) E.af b p = [(id, o)]) (d : AO) :
    look d (wsOf s lk nid E y) id = o := by
  apply zc6
  · simp only [wsOf, List.mem_append]
    exact .inl (zcp.2 ⟨j, p, _, hj, hp, by rw [Nat.zero_add]; exact h, by rw [ho]; simp⟩)
  · intro v hv
    simp only [wsOf, List.mem_append] at hv
    rcases hv with hv | hv | hv
    · obtain ⟨i, p', b', h1, h2, h3, h4⟩ := zcp.1 hv
      rw [Nat.zero_add] at h3
      obtain ⟨rfl, e⟩ := C.uniq (id := id) h h3 hi (zde h4).1
      cases e
      rw [hp] at h2; cases h2
      rw [ho] at h4; simpa using h4
    · obtain ⟨t, h1, h2⟩ := zco.1 hv
      have hl := (List.getElem?_eq_some_iff.1 h1).1
      simp at hl
      exact absurd h2 (C.fresh h hi (by omega))
    · obtain ⟨_, i, q, b', hn, h1, h2, h3, h4, _⟩ := zcj.1 hv
      rw [Nat.zero_add] at h3
      obtain ⟨rfl, _⟩ := C.uniq h h3 hi h4
      omega
theorem Cal.per (C : Cal P K X w lk E s nid y X1 X0 Xb X' w') {j : Nat} (hj : j < s.nb) :
    (∃ id base cells as bs, bd E.ids j = some (.o id base) ∧ s.pre.objs[j]? = some (.bx as) ∧ s.post.objs[j]? = some (.bx bs) ∧ as.length = bs.length ∧ lk id = .bx cells ∧ X.ob id = .bx cells ∧ base + as.length ≤ cells.length ∧
      (∀ d, look d (wsOf s lk nid E y) id = .bx (setMany cells base (bs.map (·.inst y (bdIm E.ids s.nb nid) E.af)))) ∧ X0.β j = ⟨(X.β id).blk, (X.β id).off + base, (X.β id).cap, (X.β id).nil⟩) ∨
    (∃ id kt vt a c es, bd E.ids j = some (.o id 0) ∧ s.pre.objs[j]? = some (.mp kt vt a) ∧ s.post.objs[j]? = some (.mp kt vt c) ∧ X.ob id = .mp kt vt es ∧ (∀ d, look d (wsOf s lk nid E y) id = .mp kt vt (g y c).map) ∧ X0.β j = ⟨(X.β id).blk, (X.β id).off, (X.β id).cap, (X.β id).nil⟩) ∨
    (∃ id e fr a fr2 c fr' xs ser, bd E.ids j = some (.o id 0) ∧ s.pre.objs[j]? = some (.rw e fr a) ∧ s.post.objs[j]? = some (.rw e fr2 c) ∧ X.ob id = .rw e fr' xs ser ∧ (∀ d, look d (wsOf s lk nid E y) id = .rw e (fr2 || E.af) (g y c).list ser) ∧ X0.β j = X.β id ∧ X0.ob j = .rw e fr xs 0 ∧ (E.af = true → fr' = true)) ∨
    (∃ id e c a b xs ser iv, bd E.ids j = some (.o id 0) ∧ s.pre.objs[j]? = some (.dw e c a) ∧ s.post.objs[j]? = some (.dw e c b) ∧ X.ob id = .dw e c xs ser 0 iv ∧ (∀ d, look d (wsOf s lk nid E y) id = .dw e c (g y b).list ser 0 (iv + 1)) ∧ X0.β j = X.β id ∧ X0.ob j = .dw e c xs 0 0 0 ∧ X0.γ j = X.γ id) ∨
    ∃ id ix e fr a fr2 b e0 c xs ser iv, bd E.ids j = some (.el id ix) ∧ s.pre.objs[j]? = some (.rw e fr a) ∧ s.post.objs[j]? = some (.rw e fr2 b) ∧ X.ob id = .dw e0 (some (c, e)) xs ser 0 iv ∧ (∀ d, look d (wsOf s lk nid E y) id = .dw e0 (some (c, e)) (wr xs ix c (.l (g y b).list)) ser 0 (iv + 1)) ∧
      X0.ob j = .rw e fr (rd xs ix c).list 0 ∧ X0.β j = (if ix < xs.length then X.γ id ix else ⟨0, 0, 0, true⟩) ∧ fr = false ∧ E.af = false := by
  rcases zbs C.parts.2.1 j hj with ⟨as, bs, h1, h2, h3⟩ | ⟨kt, vt, a, c, h1, h2⟩ | ⟨e, fr, a, fr2, c, h1, h2⟩ | ⟨e, c, a, b2, h1, h2⟩
  · obtain ⟨b, hb, id, base, cells, rfl, h5, h6, _⟩ := C.R.m j _ h1
    have h7 := lk_rw C.R.hlk h5 (by simp)
    exact .inl ⟨id, base, cells, as, bs, hb, h1, h2, h3, h5, h7, h6, fun d => C.kept hj hb (by simp [Bd.ids]) h2 (by simp [back1, h5]) d, by rw [C.R.β' j _ _ hb h1]; rfl⟩
  · obtain ⟨b, hb, id, es, rfl, h5, _⟩ := C.R.m j _ h1
    have h7 := lk_rw C.R.hlk h5 (by simp)
    exact .inr (.inl ⟨id, kt, vt, a, c, es, hb, h1, h2, h7, fun d => C.kept hj hb (by simp [Bd.ids]) h2 (by simp [back1]) d, by rw [C.R.β' j _ _ hb h1]; rfl⟩)
  · obtain ⟨b, hb, hm⟩ := C.R.m j _ h1
    have hob0 : ∀ ys, E.lv.reverse[a]? = some (.l ys) → X0.ob j = .rw e fr ys 0 := by
      intro ys h8
      rw [C.R.ob', h1]
      simp only [PO.inst, Bool.or_false]
      rw [g_of h8]; rfl
    rcases ((zcq C.whole j _ h1).1 hj).1 e fr a rfl with ⟨id0, base0, e', fr'', xs', ser', hb0, hl0⟩ | ⟨id0, ix0, hb0⟩ <;> rw [Nat.zero_add, hb] at hb0 <;> cases hb0
    · rcases hm with ⟨id, fr', xs, ser, hbe, h5, h6, h7, h8⟩ | ⟨id, lo, hi, fr', xs, ser, hbe, _⟩ | ⟨hbe, _⟩ | ⟨id, xs, ser, iv, hbe, h5, _⟩ | ⟨id, ix, e0, c', xs, ser, iv, hbe, _⟩ <;> cases hbe
      · have h9 := lk_rw C.R.hlk h5 (by simp)
        refine .inr (.inr (.inl ⟨_, e, fr, a, fr2, c, fr', xs, ser, hb, h1, h2, h9, fun d => C.kept hj hb (by simp [Bd.ids]) h2 (by simp [back1, h5]) d, by rw [C.R.β' j _ _ hb h1]; rfl, hob0 _ h8, h7⟩))
      · rw [hl0] at h5; cases h5
    · rcases hm with ⟨id, fr', xs, ser, hbe, h5, h6, h7, h8⟩ | ⟨id, lo, hi, fr', xs, ser, hbe, _⟩ | ⟨hbe, _⟩ | ⟨id, xs, ser, iv, hbe, h5, _⟩ | ⟨id, ix, e0, c', xs, ser, iv, hbe, h5, h6, h7, h8⟩ <;> cases hbe
      have h9 := lk_rw C.R.hlk h5 (by simp)
      exact .inr (.inr (.inr (.inr ⟨_, _, e, fr, a, fr2, c, e0, c', xs, ser, iv, hb, h1, h2, h9, fun d => C.kept hj hb (by simp [Bd.ids]) h2 (by simp [back1, h5]) d, hob0 _ h8, by rw [C.R.β' j _ _ hb h1]; simp only [bdLoc, h9], h6, h7⟩)))
  · obtain ⟨b, hb, hm⟩ := C.R.m j _ h1
    obtain ⟨id0, base0, e', c', xs', ser', lo', iv', hb0, hl0⟩ := ((zcq C.whole j _ h1).1 hj).2 e c a rfl
    rw [Nat.zero_add, hb] at hb0
    cases hb0
    rcases hm with ⟨id, xs, ser, iv, hbe, h5, _, h8⟩ | ⟨id, fr', xs, ser, hbe, h5, _⟩ | ⟨hbe, _⟩ <;> cases hbe
    · have h9 := lk_rw C.R.hlk h5 (by simp)
      refine .inr (.inr (.inr (.inl ⟨_, e, c, a, b2, xs, ser, iv, hb, h1, h2, h9, fun d => C.kept hj hb (by simp [Bd.ids]) h2 (by simp [back1, h5]) d, by rw [C.R.β' j _ _ hb h1]; rfl, ?_, by rw [C.R.γ' j _ _ hb h1]; rfl⟩)))
      rw [C.R.ob', h1]
      simp only [PO.inst]
      rw [g_of h8]; rfl
    · rw [hl0] at h5; cases h5
theorem Cal.keeps (C : Cal P K X w lk E s nid y X1 X0 Xb X' w') {j : Nat} (hj : j < s.nb) : X'.β j = X0.β j ∧ (∀ e fr xs e' fr' ys, X0.ob j = .rw e fr xs 0 → X'.ob j = .rw e' fr' ys 0 → ys.length = xs.length) ∧
    ∀ e c xs e' c' ys, X0.ob j = .dw e c xs 0 0 0 → X'.ob j = .dw e' c' ys 0 0 0 → ys.length = xs.length ∧ X'.γ j = X0.γ j := by
  have hk := C.pa.kp j hj
  have hob0 : ∀ q, s.pre.objs[j]? = some q → X0.ob j = q.inst E.lv.reverse selfIm false := fun q hq => by rw [C.R.ob', hq]
  have hob1 : ∀ q, s.post.objs[j]? = some q → X'.ob j = q.inst y selfIm false := fun q hq => by rw [C.ob']; unfold obOf; rw [hq]
  rcases zbs C.parts.2.1 j hj with ⟨as, bs, h1, h2, h3⟩ | ⟨kt, vt, a, c, h1, h2⟩ | ⟨e, fr, a, fr2, c, h1, h2⟩ | ⟨e, c, a, b, h1, h2⟩
  · have hk := hk.keeps (by rw [hob0 _ h1]; rfl)
    unfold Keeps at hk
    rw [hob0 _ h1] at hk ⊢
    exact ⟨hk.2, fun _ _ _ _ _ _ h => (by cases h), fun _ _ _ _ _ _ h => by cases h⟩
  · have hk := hk.keeps (by rw [hob0 _ h1]; rfl)
    unfold Keeps at hk
    rw [hob0 _ h1] at hk ⊢
    exact ⟨hk.2, fun _ _ _ _ _ _ h => (by cases h), fun _ _ _ _ _ _ h => by cases h⟩
  · have hk := hk.keeps (by rw [hob0 _ h1]; rfl)
    unfold Keeps at hk
    rw [hob0 _ h1, hob1 _ h2] at hk
    rw [hob0 _ h1, hob1 _ h2]
    simp only [PO.inst] at hk ⊢
    rcases hk with hc | ⟨⟨fr', xs', hc | hc, hl⟩, hb⟩ | ⟨e', fr', xs', ser', hc | hc, hl⟩
    · cases hc
    · cases hc
      exact ⟨hb, fun _ _ _ _ _ _ h h' => (by cases h; cases h'; exact hl), fun _ _ _ _ _ _ h => by cases h⟩
    · cases hc
    · cases hc; omega
    · cases hc
  · unfold Kept at hk
    rw [hob0 _ h1, hob1 _ h2] at hk
    rw [hob0 _ h1, hob1 _ h2]
    simp only [PO.inst] at hk ⊢
    rcases hk with hc | ⟨fr', xs', ser', hc⟩ | ⟨xs', ser', lo', iv', hc, _, hl⟩
    · cases hc
    · cases hc
    · cases hc
      obtain ⟨l1, l2, l3⟩ := hl rfl
      exact ⟨l2, fun _ _ _ _ _ _ h => (by cases h), fun _ _ _ _ _ _ h h' => by cases h; cases h'; exact ⟨l1, l3 (by decide)⟩⟩
theorem Cal.im_lt (C : Cal P K X w lk E s nid y X1 X0 Xb X' w') {j id base : Nat} (hj : j < s.nb) (h : bd E.ids j = some (.o id base)) : bdIm E.ids s.nb nid j = (id, base) := by
  have : Nat.ble s.nb j = false := by
    cases hb : Nat.ble s.nb j with
    | false => rfl
    | true => have := Nat.le_of_ble_eq_true hb; omega
  simp [bdIm, this, h]
theorem Cal.im_ge {j : Nat} (hj : s.nb ≤ j) : bdIm E.ids s.nb nid j = (nid + (j - s.nb), 0) := by
  simp [bdIm, Nat.ble_eq_true_of_le hj]
end
end Go.Eng
end
section
namespace Go.Eng
open Go
section
variable {P : Program} {K : Kx} {X : Cx} {w : World} {lk : Lk} {E : Env} {s : Sig} {nid : Nat} {y : Lv} {X1 X0 Xb X' : Cx} {w' : World}
theorem Cal.XXob (C : Cal P K X w lk E s nid y X1 X0 Xb X' w') (id : Nat) : ((cxOf s lk nid E y Xb X')).ob id = look (Xb.ob id) (wsOf s lk nid E y) id := rfl
theorem Cal.XXβnew {t : Nat} (ht : t < s.post.objs.length - s.nb) : ((cxOf s lk nid E y Xb X')).β (nid + t) = X'.β (s.nb + t) := by
  show (if _ then _ else _) = _
  rw [if_pos ⟨by omega, by omega⟩]; congr 1; omega
theorem Cal.XXβold {id : Nat} (h : ¬ ∃ t, t < s.post.objs.length - s.nb ∧ id = nid + t) : ((cxOf s lk nid E y Xb X')).β id = Xb.β id := by
  show (if _ then _ else _) = _
  rw [if_neg fun hc => h ⟨id - nid, by omega, by omega⟩]
theorem Cal.XXβbd (C : Cal P K X w lk E s nid y X1 X0 Xb X' w') {j id : Nat} {b : Bd} (h : bd E.ids j = some b) (hi : id ∈ b.ids) : ((cxOf s lk nid E y Xb X')).β id = X.β id := by
  rw [Cal.XXβold fun ⟨t, ht, e⟩ => C.fresh h hi ht e, C.Xbβ]
theorem Cal.XXγnew {t : Nat} (ht : t < s.post.objs.length - s.nb) : ((cxOf s lk nid E y Xb X')).γ (nid + t) = X'.γ (s.nb + t) := by
  show (if _ then _ else _) = _
  rw [if_pos ⟨by omega, by omega⟩]; congr 1; omega
theorem Cal.XXγold {id : Nat} (h : ¬ ∃ t, t < s.post.objs.length - s.nb ∧ id = nid + t) : ((cxOf s lk nid E y Xb X')).γ id = Xb.γ id := by
  show (if _ then _ else _) = _
  rw [if_neg fun hc => h ⟨id - nid, by omega, by omega⟩]
theorem Cal.XXγbd (C : Cal P K X w lk E s nid y X1 X0 Xb X' w') {j id : Nat} {b : Bd} (h : bd E.ids j = some b) (hi : id ∈ b.ids) : ((cxOf s lk nid E y Xb X')).γ id = X.γ id := by
  rw [Cal.XXγold fun ⟨t, ht, e⟩ => C.fresh h hi ht e, C.Xbγ]
theorem Cal.perβ (C : Cal P K X w lk E s nid y X1 X0 Xb X' w') {j id base : Nat} (hj : j < s.nb) (h : bd E.ids j = some (.o id base)) : (X'.β j).blk = (X.β id).blk ∧ (X'.β j).off = (X.β id).off + base := by
  rw [(C.keeps hj).1]
  rcases C.per hj with ⟨id', base', _, _, _, h1, _, _, _, _, _, _, _, h2⟩ | ⟨id', _, _, _, _, _, h1, _, _, _, _, h2⟩ | ⟨id', _, _, _, _, _, _, _, _, h1, _, _, _, _, h2, _⟩ | ⟨id', _, _, _, _, _, _, _, h1, _, _, _, _, h2, _⟩ | ⟨id', _, _, _, _, _, _, _, _, _, _, _, h1, _⟩
  · rw [h] at h1; cases h1; rw [h2]; exact ⟨rfl, rfl⟩
  · rw [h] at h1; cases h1; rw [h2]; exact ⟨rfl, rfl⟩
  · rw [h] at h1; cases h1; rw [h2]; exact ⟨rfl, rfl⟩
  · rw [h] at h1; cases h1; rw [h2]; exact ⟨rfl, rfl⟩
  · rw [h] at h1; cases h1
theorem Cal.perOwn1 (C : Cal P K X w lk E s nid y X1 X0 Xb X' w') {j : Nat} (hj : j < s.nb) (h0 : Own X0 j) : Own X' j := by
  have hb := (C.keeps hj).1
  unfold Own at h0 ⊢
  rw [C.ob', hb]
  unfold obOf
  rcases C.per hj with ⟨_, _, _, _, _, _, _, h1, _⟩ | ⟨_, _, _, _, _, _, _, _, h1, _⟩ | ⟨_, _, _, _, _, _, _, _, _, _, _, h1, _, _, _, h3, _⟩ | ⟨_, _, _, _, _, _, _, _, _, _, h1, _, _, _, h3, _⟩ | ⟨_, _, _, _, _, _, _, _, _, _, _, _, _, _, h1, _, _, h3, _⟩ <;> rw [h1]
  · trivial
  · trivial
  · rw [h3] at h0; exact h0
  · rw [h3] at h0; exact h0
  · rw [h3] at h0; exact h0
theorem Cal.perOwn (C : Cal P K X w lk E s nid y X1 X0 Xb X' w') {j n : Nat} (hj : j < s.nb) (h0 : Has X0 j n) : Has X' j n := by
  refine ⟨C.perOwn1 hj h0.1, ?_⟩
  rw [(C.keeps hj).1]
  refine h0.2.imp (fun q => q) fun q => ?_
  unfold InB at q ⊢
  rcases C.per hj with ⟨_, base, cells, as, bs, h1, hpre, _⟩ | ⟨_, kt, vt, a, c, es, h1, hpre, _⟩ | ⟨_, _, _, _, _, _, _, _, _, _, _, _, _, _, _, h3, _⟩ | ⟨_, e, c, a, b, xs, ser, iv, _, _, h2, _, _, _, h3, _⟩ | ⟨_, _, _, _, _, _, _, _, _, _, _, _, _, _, _, _, _, h3, _⟩
  · rw [C.R.ob', hpre] at q; exact q.elim
  · rw [C.R.ob', hpre] at q; exact q.elim
  · rw [h3] at q; exact q.elim
  · have hob1 : X'.ob j = .dw e c (g y b).list 0 0 0 := by rw [C.ob']; unfold obOf; rw [h2]; rfl
    obtain ⟨l1, l2⟩ := (C.keeps hj).2.2 _ _ _ _ _ _ h3 hob1
    rw [h3] at q
    rw [hob1, l2]
    obtain ⟨k, e', hc, i, a1, a2, a3, a4⟩ := q
    exact ⟨k, e', hc, i, a1, by rw [l1]; exact a2, a3, a4⟩
  · rw [h3] at q; exact q.elim
theorem Cal.own0 (C : Cal P K X w lk E s nid y X1 X0 Xb X' w') {j m : Nat} (h : Has X0 j m) : ∃ b id, bd E.ids j = some b ∧ id ∈ b.ids ∧ Set_ E s nid id ∧ Has Xb id m ∧ (j < s.nb ∨ ∃ q, s.pre.objs[j]? = some q ∧ q.row = true) := by
  obtain ⟨b, id, h1, h2, h3⟩ := C.R.own h
  have hk : j < s.nb ∨ ∃ q, s.pre.objs[j]? = some q ∧ q.row = true := by
    rcases Nat.lt_or_ge j s.nb with hl | hl
    · exact .inl hl
    · obtain ⟨q, hq, hm, hob, _⟩ := C.R.at_ h1
      have hlent := C.parts.2.2.1 q (List.mem_of_getElem? (i := j - s.nb) (by rw [List.getElem?_drop, show s.nb + (j - s.nb) = j by omega]; exact hq))
      cases q with
      | bx ps => cases hlent
      | rb ps => have h := h.1; unfold Own at h; rw [hob] at h; exact h.elim
      | rw e fr n => exact .inr ⟨_, hq, rfl⟩
      | mp kt vt n => cases hlent
      | dw e c n => exact .inr ⟨_, hq, rfl⟩
  refine ⟨b, id, h1, h2, .inr ⟨j, b, h1, h2, hk⟩, ?_, hk⟩
  exact (Has.congr (C.Xbob (C.nobo h1 h2)) (by rw [C.Xbβ]) (by rw [C.Xbγ])).2 h3
theorem Cal.rowfr (C : Cal P K X w lk E s nid y X1 X0 Xb X' w') (haf : E.af = true) {j m : Nat} (h : Has X0 j m) (hr : ∃ q, s.pre.objs[j]? = some q ∧ q.row = true) : K.h0.size ≤ m := by
  obtain ⟨bb, id, a1, a2, a3, a4, a6⟩ := C.own0 h
  obtain ⟨q, hq, hrow⟩ := hr
  have hX : Has X id m := (Has.congr (C.Xbob (C.nobo a1 a2)) (by rw [C.Xbβ]) (by rw [C.Xbγ])).1 a4
  obtain ⟨bb', hb', hm⟩ := C.R.m j _ hq
  rw [a1] at hb'; cases hb'
  have key : ∀ {e : TypeId} {fr' : Bool} {xs : Rw} {ser : Nat}, lk id = .rw e fr' xs ser → fr' = true → K.h0.size ≤ m := by
    intro e fr' xs ser hl hfr
    have hob := lk_rw C.R.hlk hl (by simp)
    obtain ⟨hX, hXb⟩ := Has.one hX (by rw [hob]; rfl)
    have hk := C.R.H.ok id
    unfold AOok at hk
    unfold Own at hX
    rw [hob] at hk hX
    rw [hXb]
    rcases hk with ⟨hn, _⟩ | ⟨_, _, hn, _⟩
    · rw [hX] at hn; cases hn
    · exact hn hfr
  cases q with
  | bx ps => cases hrow
  | rb ps => cases hrow
  | mp kt vt n => cases hrow
  | rw e fr n =>
    rcases hm with ⟨id', fr', xs, ser, rfl, b1, b2, b3, b4⟩ | ⟨id', lo, hi, fr', xs, ser, rfl, b1, b2, b3, b4⟩ | ⟨rfl, _⟩ | ⟨id', xs, ser, iv, rfl, b1, b2, b3, b4⟩ | ⟨id', ix, e0, c', xs, ser, iv, rfl, b1, b2, b3, b4⟩
    · simp [Bd.ids] at a2; subst a2; exact key b1 (b3 haf)
    · simp [Bd.ids] at a2; subst a2; exact key b1 (b3 haf)
    · simp [Bd.ids] at a2
    · rw [haf] at b3; cases b3
    · rw [haf] at b3; cases b3
  | dw e c n =>
    rcases hm with ⟨id', xs, ser, iv, rfl, b1, b3, _⟩ | ⟨id', fr', xs, ser, rfl, b1, _, _, b3, _⟩ | ⟨rfl, _⟩
    · rw [haf] at b3; cases b3
    · rw [haf] at b3; cases b3
    · simp [Bd.ids] at a2
theorem Cal.F'ok (C : Cal P K X w lk E s nid y X1 X0 Xb X' w') {b : Nat} (h : X'.F false b) : X1.F E.af b ∨ X.h.size ≤ b ∨ ∃ j, Has X0 j b ∧ s.nb ≤ j := by
  rcases C.pa.Fnew b h with h1 | h1 | ⟨j, h1⟩
  · exact .inl ((C.F0 _ _).1 h1).2
  · rw [C.h0] at h1; exact .inr (.inl h1)
  · refine .inr (.inr ⟨j, h1, ?_⟩)
    rcases Nat.lt_or_ge j s.nb with hl | hl
    · exact absurd h (C.pa.heap.nF j b (C.perOwn hl h1))
    · exact hl
def nmOf (E : Env) (s : Sig) (nid j : Nat) : Nat := if s.nb ≤ j then nid + (j - s.nb) else match bd E.ids j with | some (.o id _) => id | some (.el id _) => id | _ => 0
theorem Cal.ownS (C : Cal P K X w lk E s nid y X1 X0 Xb X' w') {id n : Nat} (hs : Set_ E s nid id) (h : Has (cxOf s lk nid E y Xb X') id n) : (∃ j, Has X' j n ∧ id = nmOf E s nid j) ∨ (Has Xb id n ∧ ∀ j, ¬ Has X0 j n) := by
  obtain ⟨h, hn⟩ := h
  unfold Own at h
  unfold InB at hn
  rcases hs with ⟨t, ht, rfl⟩ | ⟨j, b, hb, hi, hj⟩
  · have hq : s.post.objs[s.nb + t]? = some s.post.objs[s.nb + t] := List.getElem?_eq_getElem (by omega)
    have ho := C.new hq (Xb.ob (nid + t))
    refine .inl ⟨s.nb + t, ?_, by unfold nmOf; rw [if_pos (by omega)]; omega⟩
    rw [C.XXob, ho, Cal.XXβnew ht] at h hn
    rw [Cal.XXγnew ht] at hn
    unfold Has Own InB
    rw [C.ob']
    unfold obOf
    rw [hq]
    generalize s.post.objs[s.nb + t] = q at h hn
    cases q with
    | bx ps => exact ⟨trivial, hn⟩
    | rb ps => exact h.elim
    | rw e fr n => exact ⟨h, hn⟩
    | mp kt vt n => exact ⟨trivial, hn⟩
    | dw e c n => exact ⟨h, hn⟩
  · rcases Nat.lt_or_ge j s.nb with hl | hl
    · have hlt : ¬ s.nb ≤ j := by omega
      rcases C.per hl with ⟨id', base, _, _, _, h1, hp1, hp2, _, _, _, _, h5, _⟩ | ⟨id', _, _, _, _, _, h1, hp1, hp2, _, h5, _⟩ | ⟨id', e, _, _, _, _, _, _, ser, h1, hp1, hp2, _, h5, h2, _⟩ | ⟨id', e, c, a, b2, xs, ser, iv, h1, _, hp2, h9, h5, h2, h3, h4⟩ | ⟨id', ix, e, fr, a, fr2, b2, e0, c, xs, ser, iv, h1, hp1, hp2, h9, h5, h3, h2, _⟩
      · rw [hb] at h1; cases h1
        simp [Bd.ids] at hi; subst hi
        rw [C.XXob, h5] at h hn
        refine .inl ⟨j, ⟨by unfold Own; rw [C.ob']; unfold obOf; rw [hp2]; trivial, .inl ?_⟩, by unfold nmOf; rw [if_neg hlt, hb]⟩
        rw [hn.resolve_right fun q => q, C.XXβbd hb (by simp [Bd.ids])]; exact (C.perβ hl hb).1.symm
      · rw [hb] at h1; cases h1
        simp [Bd.ids] at hi; subst hi
        rw [C.XXob, h5] at h hn
        refine .inl ⟨j, ⟨by unfold Own; rw [C.ob']; unfold obOf; rw [hp2]; trivial, .inl ?_⟩, by unfold nmOf; rw [if_neg hlt, hb]⟩
        rw [hn.resolve_right fun q => q, C.XXβbd hb (by simp [Bd.ids])]; exact (C.perβ hl hb).1.symm
      · rw [hb] at h1; cases h1
        simp [Bd.ids] at hi; subst hi
        rw [C.XXob, h5, C.XXβbd hb (by simp [Bd.ids])] at h hn
        refine .inl ⟨j, ⟨?_, .inl ?_⟩, by unfold nmOf; rw [if_neg hlt, hb]⟩
        · unfold Own
          rw [C.ob', (C.keeps hl).1, h2]
          unfold obOf
          rw [hp2]
          exact h
        · rw [hn.resolve_right fun q => q]; exact (C.perβ hl hb).1.symm
      · rw [hb] at h1; cases h1
        simp [Bd.ids] at hi; subst hi
        rw [C.XXob, h5, C.XXβbd hb (by simp [Bd.ids])] at h hn
        rw [C.XXγbd hb (by simp [Bd.ids])] at hn
        have hob1 : X'.ob j = .dw e c (g y b2).list 0 0 0 := by rw [C.ob']; unfold obOf; rw [hp2]; rfl
        obtain ⟨_, l2⟩ := (C.keeps hl).2.2 _ _ _ _ _ _ h3 hob1
        refine .inl ⟨j, ⟨?_, ?_⟩, by unfold nmOf; rw [if_neg hlt, hb]⟩
        · unfold Own; rw [hob1, (C.keeps hl).1, h2]; exact h
        · unfold InB; rw [hob1, (C.keeps hl).1, h2, l2, h4]; exact hn
      · rw [hb] at h1; cases h1
        simp [Bd.ids] at hi; subst hi
        rw [C.XXob, h5, C.XXβbd hb (by simp [Bd.ids])] at h hn
        rw [C.XXγbd hb (by simp [Bd.ids])] at hn
        have hX : Has X id n := by
          refine ⟨by unfold Own; rw [h9]; exact h, hn.imp (fun q => q) fun ⟨k, e', hc, i, a1, a2, a3, a4⟩ => ?_⟩
          unfold InB; rw [h9]
          exact ⟨k, e', hc, i, a1, by rw [zbn] at a2; exact a2, a3, a4⟩
        have hob1 : X'.ob j = .rw e fr2 (g y b2).list 0 := by rw [C.ob']; unfold obOf; rw [hp2]; simp [PO.inst]
        by_cases hme : Has X0 j n
        · obtain ⟨m1, m2⟩ := Has.one hme (by rw [h3]; rfl)
          refine .inl ⟨j, ⟨C.perOwn1 hl m1, .inl (by rw [(C.keeps hl).1]; exact m2)⟩, by unfold nmOf; rw [if_neg hlt, hb]⟩
        · refine .inr ⟨(Has.congr (C.Xbob (C.nobo hb (by simp [Bd.ids]))) (by rw [C.Xbβ]) (by rw [C.Xbγ])).2 hX, fun j' hj' => ?_⟩
          obtain ⟨b', id', k1, k2, k3⟩ := C.R.own hj'
          have := C.R.H.inj id' id n k3 hX
          subst this
          obtain ⟨rfl, _⟩ := C.uniq k1 hb k2 (by simp [Bd.ids])
          exact hme hj'
    · obtain ⟨q, hq, hrow⟩ := hj.resolve_left (by omega)
      rw [C.XXob, C.gone hl hb hi hq hrow] at h
      exact h.elim
theorem Cal.size (C : Cal P K X w lk E s nid y X1 X0 Xb X' w') : X.h.size ≤ X'.h.size := by rw [← C.h0]; exact C.pa.sz
theorem Cal.turn (C : Cal P K X w lk E s nid y X1 X0 Xb X' w') : Turn P K Xb (cxOf s lk nid E y Xb X') (Set_ E s nid) := by
  have ownb : ∀ {j b id n}, bd E.ids j = some b → id ∈ b.ids → (Has Xb id n ↔ Has X id n) := fun hb hi => Has.congr (C.Xbob (C.nobo hb hi)) (by rw [C.Xbβ]) (by rw [C.Xbγ])
  refine ⟨fun fr b h => .inl h, fun b h => ?_, fun b h => ?_, fun b h => ?_, ?_, fun b hb hno => ?_, fun id hs => ?_, fun id hs => ?_, fun id hs => ?_, fun id hs => ?_, fun id n hs ho => ?_, fun id id' n hs hs' ho ho' => ?_⟩
  · rcases h with h | h | ⟨h1, _, h2⟩
    · exact .inl (C.XbH.Fle b h)
    · exact .inr (.inl h)
    · exact .inr (.inr ⟨h1, .inl rfl, h2⟩)
  · rcases h with h | h | ⟨h1, h2, h3⟩
    · exact C.XbH.Ffr b h
    · have := C.pa.heap.Ffr b h
      rw [show (kx X0).h0 = X0.h from rfl, C.h0] at this
      exact Nat.le_trans C.R.H.sz this
    · have haf : E.af = true := h2.resolve_left (by simp)
      rcases C.F'ok h3 with h4 | h4 | ⟨j, h4, h6⟩
      · rw [haf] at h4; exact C.R.fz.stp.heap.Ffr b h4
      · exact Nat.le_trans C.R.H.sz h4
      · obtain ⟨bb, id, a1, a2, a3, a4, a6⟩ := C.own0 h4
        exact C.rowfr haf h4 (a6.resolve_left (by omega))
  · have inr : ∀ {b}, X'.F false b → X.h.size ≤ b → (Xb.h.size ≤ b ∧ b < ((cxOf s lk nid E y Xb X')).h.size) := fun hf hs => ⟨by rw [C.Xbh]; exact hs, C.pa.heap.Fsz _ hf⟩
    rcases h with h | h | ⟨h1, h2, h3⟩
    · exact .inl h
    · have := C.pa.heap.Ffr b h
      rw [show (kx X0).h0 = X0.h from rfl, C.h0] at this
      exact .inr (.inl (inr (C.pa.heap.Fle b h) this))
    · have hXb : Xb = X1 := by
        rcases C.b with ⟨_, h⟩ | ⟨h, _⟩
        · exact h
        · rw [h1] at h; cases h
      rcases C.F'ok h3 with h4 | h4 | ⟨j, h4, _⟩
      · left; rw [hXb]
        cases haf : E.af
        · rw [haf] at h4; exact h4
        · rw [haf] at h4; exact C.R.fz.stp.heap.Fle b h4
      · exact .inr (.inl (inr h3 h4))
      · obtain ⟨_, id, _, _, a3, a4, _⟩ := C.own0 h4
        exact .inr (.inr ⟨id, a3, a4⟩)
  · rw [C.Xbh]; exact C.size
  · show X'.h[b]? = _
    rw [C.Xbh] at hb ⊢
    rw [← C.h0]
    refine C.pa.fr b (by rw [C.h0]; exact hb) fun j hj => ?_
    obtain ⟨_, id, _, _, a3, a4, _⟩ := C.own0 hj
    exact hno id a3 a4
  · rw [C.XXob, C.other hs]
  · exact Cal.XXβold fun h => hs (.inl h)
  · exact Cal.XXγold fun h => hs (.inl h)
  · unfold Keeps
    rcases hs with ⟨t, ht, rfl⟩ | ⟨j, b, hb, hi, hj⟩
    · rw [C.Xbdead (C.dead t ht)]; trivial
    · rw [C.Xbob (C.nobo hb hi), C.XXβbd hb hi, C.Xbβ, C.XXob]
      rcases Nat.lt_or_ge j s.nb with hl | hl
      · rcases C.per hl with ⟨id', base, cells, as, bs, h1, _, _, _, _, h2, _, h3, _⟩ | ⟨id', kt, vt, _, c, es, h1, _, _, h2, h3, _⟩ | ⟨id', e, fr, a, fr2, c, fr', xs, ser, h1, _, hp2, h2, h3, _, h5, _⟩ | ⟨id', e, c, a, b2, xs, ser, iv, h1, _, hp2, h9, h3, h2, h5, h4⟩ | ⟨id', ix, e, fr, a, fr2, b2, e0, c, xs, ser, iv, h1, hp1, hp2, h9, h3, h5, h2, _⟩
        · rw [hb] at h1; cases h1
          simp [Bd.ids] at hi; subst hi
          rw [h2, h3]
          exact ⟨by simp, rfl⟩
        · rw [hb] at h1; cases h1
          simp [Bd.ids] at hi; subst hi
          rw [h2, h3]
          exact ⟨by simp, rfl⟩
        · rw [hb] at h1; cases h1
          simp [Bd.ids] at hi; subst hi
          rw [h2, h3]
          refine .inr (.inl ⟨⟨_, _, .inl rfl, ?_⟩, rfl⟩)
          refine (C.keeps hl).2.1 _ _ _ e fr2 _ h5 ?_
          rw [C.ob']; unfold obOf; rw [hp2]
          simp [PO.inst]
        · rw [hb] at h1; cases h1
          simp [Bd.ids] at hi; subst hi
          have hob1 : X'.ob j = .dw e c (g y b2).list 0 0 0 := by rw [C.ob']; unfold obOf; rw [hp2]; rfl
          obtain ⟨l1, _⟩ := (C.keeps hl).2.2 _ _ _ _ _ _ h5 hob1
          rw [h9, h3]
          exact .inr (.inr (.inl ⟨_, _, _, _, rfl, Nat.le_refl _, Nat.le_succ _, fun _ => ⟨l1, rfl, fun _ => by rw [C.XXγbd hb (by simp [Bd.ids]), C.Xbγ]⟩, fun q => by omega⟩))
        · rw [hb] at h1; cases h1
          simp [Bd.ids] at hi; subst hi
          rw [h9, h3]
          exact .inr (.inr (.inl ⟨_, _, _, _, rfl, Nat.le_refl _, Nat.le_succ _, fun _ => ⟨zbn _ _ _ _, rfl, fun _ => by rw [C.XXγbd hb (by simp [Bd.ids]), C.Xbγ]⟩, fun q => by omega⟩))
      · obtain ⟨q, hq, hrow⟩ := hj.resolve_left (by omega)
        rw [C.gone hl hb hi hq hrow]
        obtain ⟨bb', hb', hm⟩ := C.R.m j _ hq
        rw [hb] at hb'; cases hb'
        have hel := (zcq C.whole j q hq).2 hl b (by rw [Nat.zero_add]; exact hb)
        cases q with
        | bx ps => cases hrow
        | rb ps => cases hrow
        | mp kt vt n => cases hrow
        | rw e fr n =>
          rcases hm with ⟨id', fr', xs, ser, rfl, b1, _⟩ | ⟨id', lo, hi, fr', xs, ser, rfl, b1, _⟩ | ⟨rfl, _⟩ | ⟨id', xs, ser, iv, rfl, b1, _⟩ | ⟨id', ix, e0, c', xs, ser, iv, rfl, b1, _⟩
          · simp [Bd.ids] at hi; subst hi; rw [lk_rw C.R.hlk b1 (by simp)]; exact .inl rfl
          · simp [Bd.ids] at hi; subst hi; rw [lk_rw C.R.hlk b1 (by simp)]; exact .inl rfl
          · simp [Bd.ids] at hi
          · simp [Bd.ids] at hi; subst hi; rw [lk_rw C.R.hlk b1 (by simp)]; exact .inl rfl
          · cases hel
        | dw e c n =>
          rcases hm with ⟨id', xs, ser, iv, rfl, b1, _⟩ | ⟨id', fr', xs, ser, rfl, b1, _⟩ | ⟨rfl, _⟩
          · simp [Bd.ids] at hi; subst hi; rw [lk_rw C.R.hlk b1 (by simp)]; exact .inl rfl
          · simp [Bd.ids] at hi; subst hi; rw [lk_rw C.R.hlk b1 (by simp)]; exact .inl rfl
          · simp [Bd.ids] at hi
  · rcases C.ownS hs ho with ⟨j, h1, h3⟩ | ⟨h1, h3⟩
    · have hwas : Xb.h.size ≤ n ∨ ∃ id0, Set_ E s nid id0 ∧ Has Xb id0 n := by
        rw [C.Xbh, ← C.h0]
        rcases C.pa.own j n h1 with h | ⟨j0, h4⟩
        · exact .inl h
        · obtain ⟨_, id0, _, _, a3, a4, _⟩ := C.own0 h4
          exact .inr ⟨id0, a3, a4⟩
      refine ⟨hwas, fun hF => ?_⟩
      have nF := C.pa.heap.nF j n h1
      rcases hF with hF | hF | ⟨_, _, hF⟩
      · rcases hwas with h | ⟨id0, _, h4⟩
        · have := C.XbH.Fsz _ hF; omega
        · exact C.XbH.nF id0 n h4 hF
      · exact nF (C.pa.heap.Fle _ hF)
      · exact nF hF
    · refine ⟨.inr ⟨id, hs, h1⟩, fun hF => ?_⟩
      have hsz := h1.lt C.XbH
      have nF' : ¬ X'.F false n := by
        intro hF
        rcases C.F'ok hF with h4 | h4 | ⟨j, h4, _⟩
        · have h4 : X1.F false n := by
            cases haf : E.af
            · rw [haf] at h4; exact h4
            · rw [haf] at h4; exact C.R.fz.stp.heap.Fle n h4
          rcases hs with ⟨t, ht, rfl⟩ | ⟨j, b, hb, hi, _⟩
          · have := h1.1
            unfold Own at this
            rw [C.Xbdead (C.dead t ht)] at this
            exact this
          · have hX : Has X id n := (ownb hb hi).1 h1
            exact C.R.fz.stp.heap.nF id n ((Has.congr (by rw [C.R.fz.ob, zdm (C.nobo hb hi)]) (by rw [C.R.fz.β]) (by rw [C.R.fz.γ])).2 hX) h4
        · rw [C.Xbh] at hsz; omega
        · exact h3 j h4
      rcases hF with hF | hF | ⟨_, _, hF⟩
      · exact C.XbH.nF id n h1 hF
      · exact nF' (C.pa.heap.Fle _ hF)
      · exact nF' hF
  · have cross : ∀ {id id' : Nat}, (∃ j, Has X' j n ∧ id = nmOf E s nid j) → (Has Xb id' n ∧ ∀ j, ¬ Has X0 j n) → False := by
      rintro id id' ⟨j, h1, _⟩ ⟨h2, h3⟩
      rcases C.pa.own j n h1 with h | ⟨j0, h4⟩
      · have := h2.lt C.XbH
        rw [C.Xbh, ← C.h0] at this; omega
      · exact h3 j0 h4
    rcases C.ownS hs ho with h1 | h1 <;> rcases C.ownS hs' ho' with h2 | h2
    · obtain ⟨j, a1, a2⟩ := h1
      obtain ⟨j', b1, b2⟩ := h2
      have := C.pa.heap.inj j j' n a1 b1
      rw [a2, b2, this]
    · exact (cross h1 h2).elim
    · exact (cross h2 h1).elim
    · exact C.XbH.inj id id' n h1.1 h2.1
end
end Go.Eng
end
section
namespace Go.Eng
open Go
section
variable {P : Program} {K : Kx} {X : Cx} {w : World} {lk : Lk} {E : Env} {s : Sig} {nid : Nat} {y : Lv} {X1 X0 Xb X' : Cx} {w' : World}
theorem Cal.newq (C : Cal P K X w lk E s nid y X1 X0 Xb X' w') {j : Nat} (hj : s.nb ≤ j) {q : PO} (hq : s.post.objs[j]? = some q) : ((cxOf s lk nid E y Xb X')).ob (nid + (j - s.nb)) = q.inst y (bdIm E.ids s.nb nid) E.af ∧ ((cxOf s lk nid E y Xb X')).β (nid + (j - s.nb)) = X'.β j ∧ q.new = true := by
  have hl := (List.getElem?_eq_some_iff.1 hq).1
  have e : s.nb + (j - s.nb) = j := by omega
  refine ⟨by rw [C.XXob]; exact C.new (by rw [e]; exact hq) _, by rw [Cal.XXβnew (by omega), e], ?_⟩
  exact C.parts.2.2.2.1 q (List.mem_of_getElem? (i := j - s.nb) (by rw [List.getElem?_drop, e]; exact hq))
def hasEl (E : Env) : Bool := E.ids.any fun x => x.2.isEl
theorem Cal.aft (C : Cal P K X w lk E s nid y X1 X0 Xb X' w') : Aft P X' (cxOf s lk nid E y Xb X') s.post.objs s.sh y (bdIm E.ids s.nb nid) E.af (hasEl E) := by
  refine ⟨rfl, fun fr b h hF => ?_, fun j => by rw [C.ob']; rfl, fun j ps hp => ?_, fun j kt vt n hp => ?_, fun hel j e fr n hp => ?_, fun j e c n hp => ?_, fun j ps hp => ?_⟩
  · cases fr
    · have hs : s.sh = true := h.resolve_left (by simp)
      refine .inr (.inr ⟨hs, ?_, hF⟩)
      cases E.af <;> simp
    · exact .inr (.inl hF)
  · rcases Nat.lt_or_ge j s.nb with hl | hl
    · rcases C.per hl with ⟨id, base, cells, as, bs, h1, _, h2, _, _, _, _, h3, _⟩ | ⟨_, _, _, _, _, _, _, _, h2, _⟩ | ⟨_, _, _, _, _, _, _, _, _, _, _, h2, _⟩ | ⟨_, _, _, _, _, _, _, _, _, _, h2, _⟩ | ⟨_, _, _, _, _, _, _, _, _, _, _, _, _, _, h2, _⟩
      · rw [C.im_lt hl h1]
        refine ⟨⟨_, by rw [C.XXob]; exact h3 _⟩, fun o => ?_⟩
        obtain ⟨a, b⟩ := C.perβ hl h1
        rw [C.XXβbd h1 (by simp [Bd.ids])]
        simp [Loc.ptr, a, b, Nat.add_assoc]
      all_goals (rw [hp] at h2; cases h2)
    · rw [Cal.im_ge hl]
      obtain ⟨a, b, _⟩ := C.newq hl hp
      exact ⟨⟨_, a⟩, fun o => by rw [b]; simp [Loc.ptr]⟩
  · rcases Nat.lt_or_ge j s.nb with hl | hl
    · rcases C.per hl with ⟨_, _, _, _, _, _, _, h2, _⟩ | ⟨id, kt', vt', _, c, es, h1, _, h2, _, h3, _⟩ | ⟨_, _, _, _, _, _, _, _, _, _, _, h2, _⟩ | ⟨_, _, _, _, _, _, _, _, _, _, h2, _⟩ | ⟨_, _, _, _, _, _, _, _, _, _, _, _, _, _, h2, _⟩
      · rw [hp] at h2; cases h2
      · rw [C.im_lt hl h1]
        exact ⟨⟨_, _, _, by rw [C.XXob]; exact h3 _⟩, by rw [C.XXβbd h1 (by simp [Bd.ids]), (C.perβ hl h1).1]⟩
      all_goals (rw [hp] at h2; cases h2)
    · rw [Cal.im_ge hl]
      obtain ⟨a, b, _⟩ := C.newq hl hp
      exact ⟨⟨_, _, _, a⟩, by rw [b]⟩
  · rcases Nat.lt_or_ge j s.nb with hl | hl
    · rcases C.per hl with ⟨_, _, _, _, _, _, _, h2, _⟩ | ⟨_, _, _, _, _, _, _, _, h2, _⟩ | ⟨id, _, _, _, _, _, _, _, ser, h1, _, h2, _, h3, h4, _⟩ | ⟨_, _, _, _, _, _, _, _, _, _, h2, _⟩ | ⟨_, _, _, _, _, _, _, _, _, _, _, _, h1, _, h2, _⟩
      · rw [hp] at h2; cases h2
      · rw [hp] at h2; cases h2
      · rw [hp] at h2; cases h2
        rw [C.im_lt hl h1]
        exact ⟨⟨ser, by rw [C.XXob]; exact h3 _⟩, by rw [C.XXβbd h1 (by simp [Bd.ids]), (C.keeps hl).1, h4]⟩
      · rw [hp] at h2; cases h2
      · have hmem := zbg h1
        unfold hasEl at hel
        rw [List.any_eq_false] at hel
        exact absurd rfl (hel _ hmem)
    · rw [Cal.im_ge hl]
      obtain ⟨a, b, _⟩ := C.newq hl hp
      exact ⟨⟨0, a⟩, b⟩
  · rcases Nat.lt_or_ge j s.nb with hl | hl
    · rcases C.per hl with ⟨_, _, _, _, _, _, _, h2, _⟩ | ⟨_, _, _, _, _, _, _, _, h2, _⟩ | ⟨_, _, _, _, _, _, _, _, _, _, _, h2, _⟩ | ⟨id, _, _, _, _, _, ser, iv, h1, _, h2, _, h3, h4, _⟩ | ⟨_, _, _, _, _, _, _, _, _, _, _, _, _, _, h2, _⟩
      · rw [hp] at h2; cases h2
      · rw [hp] at h2; cases h2
      · rw [hp] at h2; cases h2
      · rw [hp] at h2; cases h2
        rw [C.im_lt hl h1]
        exact ⟨⟨ser, 0, iv + 1, by rw [C.XXob]; exact h3 _⟩, by rw [C.XXβbd h1 (by simp [Bd.ids]), (C.keeps hl).1, h4]⟩
      · rw [hp] at h2; cases h2
    · rw [Cal.im_ge hl]
      obtain ⟨a, b, _⟩ := C.newq hl hp
      exact ⟨⟨0, 0, 0, a⟩, b⟩
  · rcases Nat.lt_or_ge j s.nb with hl | hl
    · rcases C.per hl with ⟨_, _, _, _, _, _, _, h2, _⟩ | ⟨_, _, _, _, _, _, _, _, h2, _⟩ | ⟨_, _, _, _, _, _, _, _, _, _, _, h2, _⟩ | ⟨_, _, _, _, _, _, _, _, _, _, h2, _⟩ | ⟨_, _, _, _, _, _, _, _, _, _, _, _, _, _, h2, _⟩ <;> rw [hp] at h2 <;> cases h2
    · cases (C.newq hl hp).2.2
theorem Cal.frv (C : Cal P K X w lk E s nid y X1 X0 Xb X' w') (h : hasEl E = true) : s.post.vals.all PV.free = true ∧ s.post.objs.all PO.free = true := by
  have := C.elok
  unfold elOk at this
  unfold hasEl at h
  rw [h] at this
  simpa using this
theorem Cal.frq (C : Cal P K X w lk E s nid y X1 X0 Xb X' w') {j : Nat} {q : PO} (hq : s.post.objs[j]? = some q) (h : hasEl E = true) : q.free = true := by
  have := (C.frv h).2
  rw [List.all_eq_true] at this
  exact this q (List.mem_of_getElem? hq)
theorem Cal.trq (C : Cal P K X w lk E s nid y X1 X0 Xb X' w') {j : Nat} {q : PO} (hq : s.post.objs[j]? = some q) : q.tr = true ∨ s.sh = true := by
  rcases C.parts.2.2.2.2.2 with h | h
  · exact .inr h
  · simp only [Pat.tr, Bool.and_eq_true, List.all_eq_true] at h
    exact .inl (h.2 q (List.mem_of_getElem? hq))
theorem Cal.cells (C : Cal P K X w lk E s nid y X1 X0 Xb X' w') {ps : List PS} (ht : ps.all PS.tr = true ∨ s.sh = true) (hf : hasEl E = true → ps.all PS.free = true) {cs : Array Value} {off : Nat} (h : ∀ j x, (ps.map (·.inst y selfIm false))[j]? = some x → ∃ v, cs[off + j]? = some v ∧ RS P X' x v) :
    ∀ j x, (ps.map (·.inst y (bdIm E.ids s.nb nid) E.af))[j]? = some x → ∃ v, cs[off + j]? = some v ∧ RS P (cxOf s lk nid E y Xb X') x v := by
  intro j x hx
  rw [List.getElem?_map] at hx
  cases hp : ps[j]? with
  | none => rw [hp] at hx; cases hx
  | some q =>
    rw [hp] at hx; simp at hx; subst hx
    obtain ⟨v, a, b⟩ := h j (q.inst y selfIm false) (by rw [List.getElem?_map, hp]; rfl)
    refine ⟨v, a, C.aft.RS (ht.imp (fun h => ?_) id) (fun h => ?_) b⟩
    · rw [List.all_eq_true] at h
      exact h q (List.mem_of_getElem? hp)
    · have := hf h
      rw [List.all_eq_true] at this
      exact this q (List.mem_of_getElem? hp)
theorem Cal.okEl (C : Cal P K X w lk E s nid y X1 X0 Xb X' w') {j id ix : Nat} (hl : j < s.nb) {e : TypeId} {fr : Bool} {fr2 : Bool} {b2 : Nat} {e0 : TypeId} {c : Nat} {xs : Rw} {ser iv : Nat} (hb : bd E.ids j = some (.el id ix)) (hp2 : s.post.objs[j]? = some (.rw e fr2 b2))
    (h9 : X.ob id = .dw e0 (some (c, e)) xs ser 0 iv) (h3 : X0.ob j = .rw e fr (rd xs ix c).list 0) (h2 : X0.β j = (if ix < xs.length then X.γ id ix else ⟨0, 0, 0, true⟩)) :
    Dk P e0 (some (c, e)) ∧ (((X.β id).nil = true ∧ wr xs ix c (.l (g y b2).list) = [] ∧ (X.β id).cap = 0) ∨ ((X.β id).nil = false ∧ (wr xs ix c (.l (g y b2).list)).length ≤ (X.β id).cap ∧ 0 ≤ (wr xs ix c (.l (g y b2).list)).length ∧
      (∃ cs ty, X'.h[(X.β id).blk]? = some (.cells cs ty (0, 0)) ∧ (X.β id).off + (X.β id).cap * esz P e0 ≤ cs.size ∧ RowD P X'.h (X.γ id) e0 cs (X.β id).off (wr xs ix c (.l (g y b2).list)) 0) ∧ Apart (X.γ id) (X.β id).blk (some (c, e)) (wr xs ix c (.l (g y b2).list)) 0)) := by
  have hk0 := C.R.H.ok id
  unfold AOok at hk0
  rw [h9] at hk0
  obtain ⟨hd, hk0⟩ := hk0
  refine ⟨hd, ?_⟩
  rcases hk0 with ⟨a1, a2, a3⟩ | ⟨a1, a2, _, ⟨cs, ty, a4, a5, a6⟩, a7⟩
  · subst a2
    exact .inl ⟨a1, by simp [wr], a3⟩
  have hown : Own X id := by unfold Own; rw [h9]; exact a1
  have hj0 : ∀ m, Has X0 j m → ix < xs.length ∧ (X.γ id ix).nil = false ∧ m = (X.γ id ix).blk := by
    intro m hm
    obtain ⟨m1, m2⟩ := Has.one hm (by rw [h3]; rfl)
    unfold Own at m1
    rw [h3] at m1
    rw [h2] at m1 m2
    by_cases hix : ix < xs.length
    · rw [if_pos hix] at m1 m2; exact ⟨hix, m1, m2⟩
    · rw [if_neg hix] at m1; cases m1
  have hfr : ∀ m, Has X id m → (ix < xs.length → (X.γ id ix).nil = false → m ≠ (X.γ id ix).blk) → X'.h[m]? = X.h[m]? := by
    intro m hm hne
    rw [← C.h0]
    refine C.pa.fr m (by rw [C.h0]; exact hm.lt C.R.H) fun j' hj' => ?_
    obtain ⟨b', id', k1, k2, k3⟩ := C.R.own hj'
    have := C.R.H.inj id' id m k3 hm
    subst this
    obtain ⟨rfl, _⟩ := C.uniq k1 hb k2 (by simp [Bd.ids])
    obtain ⟨u1, u2, u3⟩ := hj0 m hj'
    exact hne u1 u2 u3
  obtain ⟨d1, d2, d3, d4⟩ := hd
  refine .inr ⟨a1, by rw [zbn]; exact a2, Nat.zero_le _, ⟨cs, ty, (hfr _ hown.has fun h1 h4 h5 => (a7 c e rfl ix (Nat.zero_le _) h1 h4).1 h5.symm).trans a4, a5, ?_⟩, fun k e' hc i i1 i2 i3 => ?_⟩
  · intro i _ hi o ho
    rw [zbn] at hi
    obtain ⟨v, b1, b3⟩ := a6 i (Nat.zero_le _) hi o ho
    refine ⟨v, b1, ?_⟩
    have keep : ∀ (hne : i ≠ ix), rd (wr xs ix c (.l (g y b2).list)) i o = rd xs i o := by
      intro hne
      by_cases hix : ix < xs.length
      · rw [rd_wr hix, if_neg fun h => hne h.1]
      · unfold wr rd
        rw [List.set_eq_of_length_le (by omega)]
    by_cases hio : i = ix ∧ o = c
    · obtain ⟨rfl, rfl⟩ := hio
      rw [rd_wr hi, if_pos ⟨rfl, rfl⟩, d2]
      rw [d2] at b3
      show Inner P X'.h e (X.γ id i) v (g y b2).list
      have hob1 : X'.ob j = .rw e fr2 (g y b2).list 0 := by rw [C.ob']; unfold obOf; rw [hp2]; simp [PO.inst]
      have hlen := (C.keeps hl).2.1 _ _ _ _ _ _ h3 hob1
      have hβ : X'.β j = X.γ id i := by rw [(C.keeps hl).1, h2, if_pos hi]
      have hk := C.pa.heap.ok j
      unfold AOok at hk
      rw [hob1, hβ] at hk
      rcases b3 with ⟨c1, c2, c3, c4⟩ | ⟨c1, c2, c3, _⟩
      · rw [c2] at hlen
        exact .inl ⟨c1, List.eq_nil_of_length_eq_zero hlen, c3, c4⟩
      · rcases hk with ⟨k1, _⟩ | ⟨_, k2, _, cs', ty', k4, k5, k6⟩
        · rw [c1] at k1; cases k1
        · exact .inr ⟨c1, by rw [hlen]; exact c2, k2, cs', ty', k4, k5, k6.flat' d3⟩
    · have hrd : rd (wr xs ix c (.l (g y b2).list)) i o = rd xs i o := by
        by_cases hne : i = ix
        · subst hne
          rw [rd_wr hi, if_neg hio]
        · exact keep hne
      rw [hrd]
      cases hk : ck P e0 o <;> rw [hk] at b3 <;> try exact b3
      rename_i e2
      have hoc := d4 o e2 hk
      have hne : i ≠ ix := fun h => hio ⟨h, hoc⟩
      refine b3.keep fun hn => hfr _ ⟨hown, .inr (InB.of h9 (Nat.zero_le _) hi hn)⟩ fun h1 h4 h5 => hne ?_
      exact (a7 c e rfl i (Nat.zero_le _) hi hn).2 ix (Nat.zero_le _) h1 h4 h5
  · rw [zbn] at i2
    obtain ⟨r1, r2⟩ := a7 k e' hc i i1 i2 i3
    exact ⟨r1, fun j' j1 j2 => r2 j' j1 (by rw [zbn] at j2; exact j2)⟩
theorem Cal.okS (C : Cal P K X w lk E s nid y X1 X0 Xb X' w') (id : Nat) (hs : Set_ E s nid id) : AOok P K (cxOf s lk nid E y Xb X') id := by
  have T := C.turn
  have hext := T.ext C.XbH
  unfold AOok
  rcases hs with ⟨t, ht, rfl⟩ | ⟨j, b, hb, hi, hj⟩
  · have hq : s.post.objs[s.nb + t]? = some s.post.objs[s.nb + t] := List.getElem?_eq_getElem (by omega)
    generalize s.post.objs[s.nb + t] = q at hq
    obtain ⟨a, b, c⟩ := C.newq (by omega) hq
    rw [show s.nb + t - s.nb = t by omega] at a b
    rw [a, b]
    have hk := C.pa.heap.ok (s.nb + t)
    unfold AOok at hk
    rw [C.ob'] at hk
    unfold obOf at hk
    rw [hq] at hk
    have htr := C.trq hq
    cases q with
    | rb ps => cases c
    | bx ps =>
      obtain ⟨cs, ty, h1, h2⟩ := hk
      exact ⟨cs, ty, h1, C.cells htr (C.frq hq) h2⟩
    | mp kt vt n => exact hk
    | dw e c n =>
      simp only [PO.inst] at hk ⊢
      rw [Cal.XXγnew ht]
      exact hk
    | rw e fr n =>
      simp only [PO.inst, Bool.or_false] at hk ⊢
      rcases hk with hk | ⟨h1, h2, h3, cs, ty, h4, h5, h6⟩
      · exact .inl hk
      · refine .inr ⟨h1, h2, fun hfr => ?_, cs, ty, h4, h5, h6.mono fun _ _ _ hx => Con.mono (fun n hn => C.aft.F fr n htr hn) (fun _ _ => rfl) hx⟩
        have hsz : K.h0.size ≤ X.h.size := C.R.H.sz
        cases fr with
        | true => have := h3 rfl; rw [show (kx X0).h0 = X0.h from rfl, C.h0] at this; exact Nat.le_trans hsz this
        | false =>
          have haf : E.af = true := by simpa using hfr
          have hown : Own X' (s.nb + t) := by unfold Own; rw [C.ob']; unfold obOf; rw [hq]; exact h1
          rcases C.pa.own _ _ hown.has with h | ⟨j0, h7⟩
          · rw [C.h0] at h; exact Nat.le_trans hsz h
          · refine C.rowfr haf h7 ?_
            rcases Nat.lt_or_ge j0 s.nb with hl | hl
            · have := C.pa.heap.inj j0 (s.nb + t) _ (C.perOwn hl h7) hown.has
              omega
            · obtain ⟨_, _, _, _, _, _, a6⟩ := C.own0 h7
              exact a6.resolve_left (by omega)
  · rw [C.XXob, C.XXβbd hb hi]
    rcases Nat.lt_or_ge j s.nb with hl | hl
    · rcases C.per hl with ⟨id', base, cells, as, bs, h1, hpre, h2, hlen, hlk, h3, hle, h4, h5⟩ | ⟨id', kt, vt, _, c, es, h1, _, h2, _, h4, h5⟩ | ⟨id', e, fr, a, fr2, c, fr', xs, ser, h1, hpre, h2, h3, h4, h5, h6, h7⟩ | ⟨id', e, c, a, b2, xs, ser, iv, h1, hpre, h2, h3, h4, h5, h6, h7⟩ | ⟨id', ix, e, fr, a, fr2, b2, e0, c, xs, ser, iv, h1, hpre, h2, h3, h4, h6, h5, h7, h8⟩
      · rw [hb] at h1; cases h1
        simp [Bd.ids] at hi; subst hi
        rw [h4]
        have hk := C.pa.heap.ok j
        unfold AOok at hk
        rw [C.ob'] at hk
        unfold obOf at hk
        rw [h2] at hk
        obtain ⟨cs', ty', a1, a2⟩ := hk
        have hk0 := C.XbH.ok id
        unfold AOok at hk0
        rw [C.Xbob (C.nobo hb (by simp [Bd.ids])), h3, C.Xbβ, C.Xbh] at hk0
        obtain ⟨cs, ty, b1, b2⟩ := hk0
        obtain ⟨e1, e2⟩ := C.perβ hl hb
        rw [e1] at a1
        rw [e2] at a2
        have hob0 : X0.ob j = .bx (as.map (·.inst E.lv.reverse selfIm false)) := by rw [C.R.ob', hpre]; rfl
        obtain ⟨_, _, hbx⟩ := C.pa.box j _ hl hob0
        have hb0 := (C.keeps hl).1
        rw [← hb0, e1, e2, C.h0] at hbx
        obtain ⟨cs2, c1, c2, c3⟩ := hbx cs ty b1
        rw [a1] at c1
        cases c1
        refine ⟨cs', ty', a1, fun i x hx => ?_⟩
        rw [ze8 (by rw [List.length_map, ← hlen]; exact hle)] at hx
        rw [List.length_map] at hx
        by_cases hin : base ≤ i ∧ i < base + bs.length
        · rw [if_pos hin] at hx
          obtain ⟨v, d1, d2⟩ := C.cells (C.trq h2) (C.frq h2) a2 (i - base) x hx
          exact ⟨v, by rw [← d1]; congr 1; omega, d2⟩
        · rw [if_neg hin] at hx
          obtain ⟨v, d1, d2⟩ := b2 i x hx
          refine ⟨v, ?_, d2.ext hext⟩
          rw [c3 _ (by rw [List.length_map, hlen]; omega)]; exact d1
      · rw [hb] at h1; cases h1
        simp [Bd.ids] at hi; subst hi
        rw [h4]
        have hk := C.pa.heap.ok j
        unfold AOok at hk
        rw [C.ob'] at hk
        unfold obOf at hk
        rw [h2] at hk
        rw [(C.perβ hl hb).1] at hk
        exact hk
      · rw [hb] at h1; cases h1
        simp [Bd.ids] at hi; subst hi
        rw [h4]
        have hk := C.pa.heap.ok j
        unfold AOok at hk
        rw [C.ob'] at hk
        unfold obOf at hk
        rw [h2] at hk
        have htr := C.trq h2
        simp only [PO.inst, Bool.or_false] at hk ⊢
        rw [(C.keeps hl).1, h5] at hk
        rcases hk with hk | ⟨k1, k2, k3, cs, ty, k4, k5, k6⟩
        · exact .inl hk
        · refine .inr ⟨k1, k2, fun hfr => ?_, cs, ty, k4, k5, k6.mono fun _ _ _ hx => Con.mono (fun n hn => C.aft.F fr2 n htr hn) (fun _ _ => rfl) hx⟩
          have hsz : K.h0.size ≤ X.h.size := C.R.H.sz
          cases fr2 with
          | true => have := k3 rfl; rw [show (kx X0).h0 = X0.h from rfl, C.h0] at this; exact Nat.le_trans hsz this
          | false =>
            have haf : E.af = true := by simpa using hfr
            have := C.rowfr haf (j := j) (Own.has (by unfold Own; rw [h6, h5]; exact k1)) ⟨_, hpre, rfl⟩
            rw [h5] at this; exact this
      · rw [hb] at h1; cases h1
        simp [Bd.ids] at hi; subst hi
        rw [h4]
        have hob1 : X'.ob j = .dw e c (g y b2).list 0 0 0 := by rw [C.ob']; unfold obOf; rw [h2]; rfl
        have hk := C.pa.heap.ok j
        unfold AOok at hk
        rw [hob1, (C.keeps hl).1, h5, ((C.keeps hl).2.2 _ _ _ _ _ _ h6 hob1).2, h7] at hk
        rw [C.XXγbd hb (by simp [Bd.ids])]
        exact hk
      · rw [hb] at h1; cases h1
        simp [Bd.ids] at hi; subst hi
        rw [h4, C.XXγbd hb (by simp [Bd.ids])]
        exact C.okEl hl hb h2 h3 h6 h5
    · obtain ⟨q, hq, hrow⟩ := hj.resolve_left (by omega)
      rw [C.gone hl hb hi hq hrow]; trivial
theorem Cal.boxS (C : Cal P K X w lk E s nid y X1 X0 Xb X' w') (id : Nat) (cells : List AS) (hs : Set_ E s nid id) (hc : Xb.ob id = .bx cells) : BoxK Xb (cxOf s lk nid E y Xb X') id cells.length := by
  rcases hs with ⟨t, ht, rfl⟩ | ⟨j, b, hb, hi, hj⟩
  · rw [C.Xbdead (C.dead t ht)] at hc; cases hc
  · rw [C.Xbob (C.nobo hb hi)] at hc
    rcases Nat.lt_or_ge j s.nb with hl | hl
    · rcases C.per hl with ⟨id', base, cells', as, bs, h1, hpre, h2, hlen, hlk, h3, hle, h4, h5⟩ | ⟨id', kt, vt, _, c, es, h1, _, h2, h3, h4, h5⟩ | ⟨id', e, fr, a, fr2, c, fr', xs, ser, h1, hpre, h2, h3, _⟩ | ⟨id', _, _, _, _, _, _, _, h1, hpre, h2, h3, _⟩ | ⟨id', _, _, _, _, _, _, _, _, _, _, _, h1, hpre, h2, h3, _⟩
      · rw [hb] at h1; cases h1
        simp [Bd.ids] at hi; subst hi
        rw [h3] at hc; cases hc
        refine ⟨⟨_, by rw [C.XXob, h4], zc4⟩, by rw [C.XXβbd hb (by simp [Bd.ids]), C.Xbβ], fun cs ty hcs => ?_⟩
        have hob0 : X0.ob j = .bx (as.map (·.inst E.lv.reverse selfIm false)) := by rw [C.R.ob', hpre]; rfl
        obtain ⟨_, _, hbx⟩ := C.pa.box j _ hl hob0
        obtain ⟨e1, e2⟩ := C.perβ hl hb
        have hb0 := (C.keeps hl).1
        rw [← hb0, e1, e2, C.h0] at hbx
        rw [C.Xbβ, C.Xbh] at hcs
        obtain ⟨cs', c1, c2, c3⟩ := hbx cs ty hcs
        rw [C.Xbβ]
        refine ⟨cs', c1, c2, fun c hc => c3 c ?_⟩
        rw [List.length_map]
        omega
      · rw [hb] at h1; cases h1
        simp [Bd.ids] at hi; subst hi
        rw [h3] at hc; cases hc
      all_goals
        rw [hb] at h1; cases h1
        simp [Bd.ids] at hi; subst hi
        rw [h3] at hc; cases hc
    · obtain ⟨q, hq, hrow⟩ := hj.resolve_left (by omega)
      obtain ⟨bb', hb', hm⟩ := C.R.m j _ hq
      rw [hb] at hb'; cases hb'
      have no : ∀ {o : AO}, lk id = o → o ≠ .dead → (∀ cs, o ≠ .bx cs) → False := fun hl h1 h2 => h2 cells (by rw [← lk_rw C.R.hlk hl h1, hc])
      cases q with
      | bx ps => cases hrow
      | rb ps => cases hrow
      | mp kt vt n => cases hrow
      | rw e fr n =>
        rcases hm with ⟨id', fr', xs, ser, rfl, b1, _⟩ | ⟨id', lo, hi', fr', xs, ser, rfl, b1, _⟩ | ⟨rfl, _⟩ | ⟨id', xs, ser, iv, rfl, b1, _⟩ | ⟨id', ix, e0, c', xs, ser, iv, rfl, b1, _⟩
        · simp [Bd.ids] at hi; subst hi; exact (no b1 (by simp) (by simp)).elim
        · simp [Bd.ids] at hi; subst hi; exact (no b1 (by simp) (by simp)).elim
        · simp [Bd.ids] at hi
        · simp [Bd.ids] at hi; subst hi; exact (no b1 (by simp) (by simp)).elim
        · simp [Bd.ids] at hi; subst hi; exact (no b1 (by simp) (by simp)).elim
      | dw e c n =>
        rcases hm with ⟨id', xs, ser, iv, rfl, b1, _⟩ | ⟨id', fr', xs, ser, rfl, b1, _⟩ | ⟨rfl, _⟩
        · simp [Bd.ids] at hi; subst hi; exact (no b1 (by simp) (by simp)).elim
        · simp [Bd.ids] at hi; subst hi; exact (no b1 (by simp) (by simp)).elim
        · simp [Bd.ids] at hi
end
def SigOk (P : Program) (s : Sig) : Prop := ∀ (w : World) (args : List Value) (x y : Lv) (X0 : Cx), X0.h = w.heap → X0.ob = obOf s.pre.objs x → (∀ b, ¬ X0.F true b) → Heap P (kx X0) X0 →
  F2 (RV P X0) (s.pre.vals.map (·.inst x selfIm false)) args → s.f x = some y →
  Calls P s.fn args.toArray w fun e w' => ∃ v X' p, e = .returned v ∧ s.post.vals = [p] ∧ X'.ob = obOf s.post.objs y ∧ RV P X' (p.inst y selfIm false) v ∧ Past P (kx X0) s.nb X0 w X' w'
theorem zjn (s : Sig) (lk : Lk) (nid : Nat) (E : Env) (y : Lv) (f : Nat → AO) : updl f (called s lk nid E y).ws = updl (updl f (cond s.sh (frz lk E.bo) [])) (wsOf s lk nid E y) := by
  simp only [called, wsOf, zmh]
theorem zmk {P : Program} {K : Kx} {X : Cx} {w : World} {lk : Lk} (H : Heap P K X) (hX : X.h = w.heap) (hlk : ∀ id, lk id = X.ob id ∨ lk id = .dead) {s : Sig} (hs : SigOk P s) (hok : s.ok = true) {vs : List AV} {us : List Value} (hv : F2 (RV P X) vs us)
    {E : Env} (hm : mtch P lk s.pre vs [] = some E) (hwh : bdOk lk E.ids s.nb 0 s.pre.objs = true) (helo : elOk E.ids s.post = true) {y : Lv} (hy : s.f E.lv.reverse = some y) {nid : Nat} (dead : ∀ t, t < s.post.objs.length - s.nb → X.ob (nid + t) = .dead) :
    Calls P s.fn us.toArray w fun e w' => ∃ v X'', e = .returned v ∧ X''.ob = updl X.ob (called s lk nid E y).ws ∧ RV P X'' (called s lk nid E y).v v ∧ Stp P K X w X'' w' := by
  obtain ⟨m1, m2, _, nod, nbo, mlt⟩ := zg9 hm
  obtain ⟨X1, Fz⟩ := frzs H hX hlk E.bo
  let X0 : Cx := ⟨fun j => match bd E.ids j, s.pre.objs[j]? with | some b, some q => bdLoc P X q.el b | _, _ => ⟨0, 0, 0, true⟩, fun fr b => fr = false ∧ X1.F E.af b, obOf s.pre.objs E.lv.reverse, X.h, fun j => match bd E.ids j with | some b => bdGam X b | none => fun _ => ⟨0, 0, 0, true⟩⟩
  have hnf : s.pre.nf = true := by
    have := hok
    simp only [Sig.ok, Bool.and_eq_true] at this
    exact this.1
  have R : Ren P K X w lk E X1 s.pre X0 true := by
    refine ⟨H, hX, hlk, Fz, m2, fun j b hb => ?_, rfl, fun j => rfl, fun j b q hb hq => ?_, fun j b q hb hq => ?_, fun _ => hnf, fun fr fr' h1 h2 h3 b hb => ?_⟩
    · have := mlt _ (zbg hb)
      exact ⟨_, List.getElem?_eq_getElem this⟩
    · show (match bd E.ids j, s.pre.objs[j]? with | some b, some q => bdLoc P X q.el b | _, _ => _) = _
      rw [hb, hq]
    · show (match bd E.ids j with | some b => bdGam X b | none => _) = _
      rw [hb]
    · refine ⟨h1 rfl, ?_⟩
      cases haf : E.af
      · cases fr'
        · exact hb
        · exact Fz.stp.heap.Fle b hb
      · rw [h3 haf] at hb; exact hb
  have hno : ∀ (j : Nat) (e : TypeId) (n : Nat), s.pre.objs[j]? ≠ some (.rw e true n) := fun j e n hq => by have := R.obnf hq rfl; simp [PO.nf] at this
  have H0 : Heap P (kx X0) X0 := by
    refine R.heap (K' := kx X0) (fun j ps id base hp hb => ?_) (.inl hno) nod nbo (fun b hb => ?_) (fun b hb => ?_) (fun b hb => ?_) (Nat.le_refl _) (fun b hb => hb.1) (fun j b hj hR => hR.2 j hj) (fun j b hj => .inl ⟨j, hj⟩)
    · have hlt : ∀ {o : Obj}, X.h[(X.β id).blk]? = some o → (X.β id).blk < X.h.size := fun h => (Array.getElem?_eq_some_iff.1 h).1
      obtain ⟨q, hq, hmo, hob, _⟩ := R.at_ hb
      rw [hp] at hq; cases hq
      obtain ⟨id', base', cells, e, h1, _⟩ := hmo
      cases e
      refine ⟨?_, fun j' hj' => ?_⟩
      · obtain ⟨_, _, _, h2, _⟩ := zdn H (id := id) (cells := cells) (h1.imp (fun h => lk_rw hlk h (by simp)) fun h => lk_rw hlk h (by simp))
        exact hlt h2
      · obtain ⟨b', id'', a1, a2, a3⟩ := R.own hj'
        rcases h1 with h1 | h1
        · have ho : Own X id := by unfold Own; rw [lk_rw hlk h1 (by simp)]; trivial
          have := H.inj id'' id _ a3 ho.has
          subst this
          have := zdc nod (zbg a1) (zbg hb) a2 (by simp [Bd.ids])
          cases this
          have hj' := hj'.1
          unfold Own at hj'
          rw [hob] at hj'
          exact hj'
        · have hk := H.ok id
          unfold AOok at hk
          rw [lk_rw hlk h1 (by simp)] at hk
          exact H.nR id'' _ a3 hk.1
    · obtain ⟨_, hb⟩ := hb
      cases haf : E.af
      · rw [haf] at hb; exact hb
      · rw [haf] at hb; exact Fz.stp.heap.Fle b hb
    · cases hb.1
    · cases hb.1
  have hargs : F2 (RV P X0) (s.pre.vals.map (·.inst E.lv.reverse selfIm false)) us := by
    have key : ∀ {ps : List PV} {xs : List AV}, F2 (MetV lk E) ps xs → ps.all PV.nf = true → ∀ {us : List Value}, F2 (RV P X) xs us → F2 (RV P X0) (ps.map (·.inst E.lv.reverse selfIm false)) us := by
      intro ps xs hf
      induction hf with
      | nil => intro _ us h; cases h; exact .nil
      | cons h1 _ ih =>
        intro hn us h
        simp only [List.all_cons, Bool.and_eq_true] at hn
        cases h with
        | cons a b => exact .cons (R.RV (fun _ => hn.1) h1 a) (ih hn.2 b)
    have hn := hnf
    simp only [Pat.nf, Bool.and_eq_true] at hn
    exact key m1 hn.1 hv
  refine Calls.mono (hs w us E.lv.reverse y X0 hX rfl (fun b hb => by cases hb.1) H0 hargs hy) ?_
  rintro e w' ⟨v, X', p, he, hp, hob, hrv, hpa⟩
  refine ⟨v, cxOf s lk nid E y (if s.sh = true then X1 else X) X', he, ?_, ?_, ?_⟩
  all_goals
    have C : Cal P K X w lk E s nid y X1 X0 (if s.sh = true then X1 else X) X' w' := by
      refine ⟨R, H0, fun fr b => Iff.rfl, nod, nbo, hok, dead, ?_, hpa, hob, hwh, helo⟩
      cases hsh : s.sh
      · exact .inr ⟨rfl, by simp⟩
      · exact .inl ⟨rfl, by simp⟩
  · rw [zjn]
    show updl _ _ = _
    congr 1
    cases hsh : s.sh
    · rfl
    · exact Fz.ob
  · have : (called s lk nid E y).v = p.inst y (bdIm E.ids s.nb nid) E.af := by simp [called, hp]
    rw [this]
    refine C.aft.RV ?_ (fun h => by have := (C.frv h).1; rw [hp] at this; simpa using this) hrv
    rcases C.parts.2.2.2.2.2 with h | h
    · exact .inr h
    · simp only [Pat.tr, Bool.and_eq_true, List.all_eq_true] at h
      exact .inl (h.1 p (by rw [hp]; simp))
  · have hst : Stp P K X w (if s.sh = true then X1 else X) w := by
      cases hsh : s.sh
      · simpa using Stp.refl H hX
      · simpa using Fz.stp
    exact hst.trans H (C.turn.stp C.XbH C.okS hpa.hX hpa.os hpa.tape hpa.output C.boxS)
end Go.Eng
end
section
namespace Go.Eng
open Go
abbrev Tm := Nat → AV
def tput (t : Tm) : Option Nat → AV → Tm
  | none, _ => t
  | some d, v => upd t d v
theorem St.put_t (σ : St) (dst : Option Nat) (v : AV) : (σ.put dst v).t = tput σ.t dst v := by
  cases dst with
  | none => rfl
  | some d =>
    funext n
    show look σ.dv ((d, v) :: σ.tm) n = upd σ.t d v n
    simp only [look, upd]
    by_cases h : n = d
    · subst h; simp
    · rw [zn (Ne.symm h), if_neg h]; rfl
theorem St.put_o (σ : St) (dst : Option Nat) (v : AV) : (σ.put dst v).o = σ.o := by cases dst <;> rfl
theorem St.put_nx (σ : St) (dst : Option Nat) (v : AV) : (σ.put dst v).nx = σ.nx := by cases dst <;> rfl
theorem St.apply_t (σ : St) (dst : Option Nat) (v : AV) (ws : List (Nat × AO)) (nn : Nat) : (σ.apply dst v ws nn).t = tput σ.t dst v := by
  rw [← St.put_t]; rfl
theorem St.apply_nx (σ : St) (dst : Option Nat) (v : AV) (ws : List (Nat × AO)) (nn : Nat) : (σ.apply dst v ws nn).nx = σ.nx + nn := by cases dst <;> rfl
def fnOk (P : Program) (f : FuncId) : Prop := ∃ fn c, P.funcs[f]? = some fn ∧ (fn.name == "runtime.NumGoroutine") = false ∧ fn.body = some c
def Known (P : Program) (Γ : List Sig) : Prop := ∀ s ∈ Γ, SigOk P s ∧ s.ok = true ∧ fnOk P s.fn
structure Pa where
  v : AV
  ws : List (Nat × AO)
  nn : Nat
  ids : List Nat
  nid : Nat
inductive Act1 (P : Program) (Γ : List Sig) (o : Oper) (t : Tm) (ob : Lk) (p : Pa) : Prop where
  | core (r : AR) (ids : p.ids = opIds o.op (o.op.operands.toList.map (opnd t))) (h : acore P o.op (rlk p.ids ob) p.nid (o.op.operands.toList.map (opnd t)) = some r) (hg : ∀ b ∈ r.gs, b = true)
      (v : p.v = r.v) (ws : p.ws = r.ws) (nn : p.nn = r.nn)
  | call (c : Call) (fv : Operand) (f : Nat) (caps : List (Nat × Nat)) (s : Sig) (E : Env) (y : Lv) (hop : o.op = .call c) (hc : c.callee = .value fv) (hv : opnd t fv = .sc (.fn f caps)) (hs : sigOf f Γ = some s)
      (ids : p.ids = more ob (more ob (more ob ((c.args.toList.map (opnd t) ++ capArgs caps).flatMap AV.ids)))) (hm : mtch P (rlk p.ids ob) s.pre (c.args.toList.map (opnd t) ++ capArgs caps) [] = some E) (hwh : (bdOk (rlk p.ids ob) E.ids s.nb 0 s.pre.objs && elOk E.ids s.post) = true) (hy : s.f E.lv.reverse = some y)
      (v : p.v = (called s (rlk p.ids ob) p.nid E y).v) (ws : p.ws = (called s (rlk p.ids ob) p.nid E y).ws) (nn : p.nn = (called s (rlk p.ids ob) p.nid E y).nn)
inductive Did (P : Program) (Γ : List Sig) (ops : Array Oper) (o : Oper) (t : Tm) (ob : Lk) (p : Pa) : Prop where
  | skip (j : Nat) (want : Bool) (d : Nat) (hg : o.guard = some (j, want)) (hd : gdst ops j = some d) (h : t d = .sc (.b (!want)) ∨ t d = .sc .ud) (v : p.v = .sc .ud) (ws : p.ws = []) (nn : p.nn = 0) (ids : p.ids = [])
  | act (hg : o.guard = none ∨ ∃ j want d, o.guard = some (j, want) ∧ gdst ops j = some d ∧ t d = .sc (.b want)) (h : Act1 P Γ o t ob p) (hw : wsOk p.nid p.nn p.ws = true)
structure Rep (P : Program) (K : Kx) (nt : Nat) (t : Tm) (X : Cx) (a : Act) (w : World) : Prop where
  heap : Heap P K X
  hX : X.h = w.heap
  tm : ∀ n, RV P X (t n) (a.tmps.getD n undef)
  sz : a.tmps.size = nt
  df : a.defers = []
theorem zc8 {P : Program} {X : Cx} {t : Tm} {a : Act} (h : ∀ n, RV P X (t n) (a.tmps.getD n undef)) (x : Operand) : RV P X (opnd t x) (a.eval x) := by
  cases x with
  | tmp n => exact h n
  | const v => exact zcy v
  | func f => exact ⟨fun c hc => (by simp at hc), rfl⟩
  | global g => trivial
theorem Rep.put {P : Program} {K : Kx} {nt : Nat} {t : Tm} {X X' : Cx} {a : Act} {w w' : World} (R : Rep P K nt t X a w) (S : Stp P K X w X' w') {dst : Option Nat} (hd : ∀ d, dst = some d → d < nt) {v : AV} {u : Value} (hv : RV P X' v u) :
    Rep P K nt (tput t dst v) X' (a.put dst u) w' := by
  refine ⟨S.heap, S.hX, fun n => ?_, ?_, ?_⟩
  · cases dst with
    | none => exact (R.tm n).ext S.ext
    | some d =>
      have hlt : d < a.tmps.size := by rw [R.sz]; exact hd d rfl
      show RV P X' (upd t d v n) ((a.tmps.setIfInBounds d u).getD n undef)
      by_cases h : n = d
      · subst h
        rw [upd_same, Array.getD_eq_getD_getElem?, Array.getElem?_setIfInBounds_self_of_lt hlt]
        exact hv
      · rw [zh _ _ h, Array.getD_eq_getD_getElem?, Array.getElem?_setIfInBounds_ne (Ne.symm h), ← Array.getD_eq_getD_getElem?]
        exact (R.tm n).ext S.ext
  · cases dst with
    | none => exact R.sz
    | some d => show (a.tmps.setIfInBounds d u).size = nt; rw [Array.size_setIfInBounds]; exact R.sz
  · cases dst <;> exact R.df
theorem zha {X : Cx} {ids : List Nat} (id : Nat) : rlk ids X.ob id = X.ob id ∨ rlk ids X.ob id = .dead := by
  unfold rlk
  cases has ids id
  · exact .inr rfl
  · exact .inl rfl
theorem ziq {P : Program} {f : FuncId} {fn : Func} {c : Code} (hf : P.funcs[f]? = some fn) (hname : (fn.name == "runtime.NumGoroutine") = false) (hb : fn.body = some c) (args : Array Value) (w : World) :
    (callFunc f args).run P w = .ok (.enter f args) w := by
  have h1 : fn.name ≠ "runtime.NumGoroutine" := by simpa using hname
  simp [callFunc, hf, h1, hb]
theorem zlt {P : Program} {ρ : Operand → Value} {o : Oper} {c : Call} {fv : Operand} {f : FuncId} {cap : Array Value} (hop : o.op = .call c) (hc : c.callee = .value fv) (hv : ρ fv = .func (.func f) #[] cap) (hf : fnOk P f) (w : World) :
    (execOp ρ o).run P w = .ok (.enter f (c.args.map ρ ++ cap)) w := by
  obtain ⟨fn, b, h1, h2, h3⟩ := hf
  unfold execOp
  rw [hop]
  simp only [resolve, hc, hv, Deferred.ofValue, Sem.run_bind, Sem.run_pure, Result.andThen_ok, invoke, Array.empty_append]
  exact ziq h1 h2 h3 _ w
theorem zf4 {f : Nat} {s : Sig} : ∀ {Γ : List Sig}, sigOf f Γ = some s → s ∈ Γ ∧ s.fn = f
  | [], h => by simp [sigOf] at h
  | x :: r, h => by
    simp only [sigOf] at h
    cases hb : Nat.beq x.fn f <;> simp [hb] at h
    · have := zf4 h; exact ⟨by simp [this.1], this.2⟩
    · subst h; exact ⟨by simp, zb hb⟩
theorem F2.map_l {α β γ : Type} {R : α → β → Prop} {f : γ → α} {g : γ → β} (h : ∀ c, R (f c) (g c)) : ∀ l : List γ, F2 R (l.map f) (l.map g)
  | [] => .nil
  | c :: l => .cons (h c) (F2.map_l h l)
theorem zka {P : Program} {X : Cx} {caps : List (Nat × Nat)} (h : ∀ c ∈ caps, RefBx X c.1 True) : F2 (RV P X) (capArgs caps) (caps.map fun c => Value.pointer (some ((X.β c.1).ptr c.2))) := by
  induction caps with
  | nil => exact .nil
  | cons c r ih =>
    refine .cons ?_ (ih fun d hd => h d (by simp [hd]))
    have := h c (by simp)
    exact this.imp fun _ => rfl
section
variable {P : Program} {Γ : List Sig} {ops : Array Oper} {K : Kx} {nt : Nat}
theorem zjy {o : Oper} (h : o.guard = none) (f : Nat → Option Bool) : Region.wanted o f = true := by simp [Region.wanted, h]
theorem zh1 {a : Act} {t : Tm} {X : Cx} (hd : ∀ n, RV P X (t n) (a.tmps.getD n undef)) {j d : Nat} (hj : gdst ops j = some d) {x : Bool} (hx : t d = .sc (.b x)) : yielded ops a.tmps j = some x := by
  have h := hd d
  rw [hx] at h
  have h : a.tmps.getD d undef = .bool x := h
  unfold yielded
  unfold gdst at hj
  rw [hj]
  rw [Array.getD_eq_getD_getElem?] at h
  cases ht : a.tmps[d]? with
  | none => rw [ht] at h; simp [undef] at h
  | some v => rw [ht] at h; simp at h; subst h; simp [ht]
theorem zmd {a : Act} {t : Tm} {X : Cx} (hd : ∀ n, RV P X (t n) (a.tmps.getD n undef)) {j d : Nat} (hj : gdst ops j = some d) (hx : t d = .sc .ud) : yielded ops a.tmps j = none := by
  have h := hd d
  rw [hx] at h
  have h : a.tmps.getD d undef = undef := h
  unfold yielded
  unfold gdst at hj
  rw [hj]
  rw [Array.getD_eq_getD_getElem?] at h
  cases ht : a.tmps[d]? with
  | none => simp [ht]
  | some v => rw [ht] at h; simp at h; subst h; simp [ht, undef]
theorem zfq (hΓ : Known P Γ) {o : Oper} {i : Nat} (hi : ops[i]? = some o) {t : Tm} {X : Cx} {a : Act} {w : World} (R : Rep P K nt t X a w) (hdst : ∀ d, o.dst = some d → d < nt) {p : Pa} (D : Did P Γ ops o t X.ob p) (dead : ∀ k, k < p.nn → X.ob (p.nid + k) = .dead)
    {Q : Exit → Act → World → Prop} {G : Act → World → Prop} (hG : ∀ a' w' X', Rep P K nt (tput t o.dst p.v) X' a' w' → X'.ob = updl X.ob p.ws → Stp P K X w X' w' → G a' w') : wpOp P ops Q i G a w := by
  unfold wpOp
  rw [hi]
  cases D with
  | skip j want d hg hd h v ws nn ids =>
    have hw : Region.wanted o (yielded ops a.tmps) = false := by
      simp only [Region.wanted, hg]
      rcases h with h | h
      · rw [zh1 R.tm hd h]; cases want <;> rfl
      · rw [zmd R.tm hd h]; rfl
    simp only [hw, Bool.false_eq_true, if_false]
    have S := Stp.refl R.heap R.hX
    exact hG _ _ X (by rw [v]; exact R.put S hdst rfl) (by rw [ws]; rfl) S
  | act hg h hwk =>
    have hw : Region.wanted o (yielded ops a.tmps) = true := by
      rcases hg with hg | ⟨j, want, d, hg, hd, h⟩
      · exact zjy hg _
      · simp only [Region.wanted, hg]
        rw [zh1 R.tm hd h]; simp
    simp only [hw, if_true]
    left
    cases h with
    | core r ids h hgs v ws nn =>
      obtain ⟨n, u, w', X', h1, h2, h3, h4, h5⟩ := zl4 R.heap R.hX (zha (ids := p.ids)) (ρ := a.eval) (fun x _ => zc8 R.tm x) (fun gl => ⟨_, rfl⟩) h hgs fun hn => by simpa using dead 0 (by rw [nn]; omega)
      have G' := hG (a.put o.dst u) w' X' (by rw [v]; exact R.put h5 hdst h4) (by rw [ws]; exact h3) h5
      unfold Oper.wp
      rw [h1]
      rcases h2 with rfl | ⟨rfl, rfl⟩
      · exact G'
      · exact G'
    | call c fv f caps s E y hop hc hv hs ids hm hwh hy v ws nn =>
      obtain ⟨hsm, hsf⟩ := zf4 hs
      obtain ⟨k1, k2, k3⟩ := hΓ s hsm
      have hfv := zc8 R.tm fv
      rw [hv] at hfv
      obtain ⟨b1, b2⟩ := hfv
      unfold Oper.wp
      rw [zlt hop hc b2 (hsf ▸ k3)]
      show Calls P f _ w _
      rw [← hsf]
      have hargs : F2 (RV P X) (c.args.toList.map (opnd t) ++ capArgs caps) (c.args.toList.map a.eval ++ caps.map fun c => Value.pointer (some ((X.β c.1).ptr c.2))) := (F2.map_l (fun x => zc8 R.tm x) _).append (zka b1)
      have hcall := zmk R.heap R.hX (zha (ids := p.ids)) k1 k2 hargs hm (Bool.and_eq_true_iff.1 hwh).1 (Bool.and_eq_true_iff.1 hwh).2 hy (nid := p.nid) (fun t ht => dead t (by rw [nn]; exact ht))
      have e : (c.args.map a.eval ++ (caps.map fun c => Value.pointer (some ((X.β c.1).ptr c.2))).toArray) = (c.args.toList.map a.eval ++ caps.map fun c => Value.pointer (some ((X.β c.1).ptr c.2))).toArray := by
        apply Array.toList_inj.1; simp
      rw [e]
      refine Calls.mono hcall ?_
      rintro e w' ⟨u, X', rfl, h1, h2, h3⟩
      exact hG (a.put o.dst u) w' X' (by rw [v]; exact R.put h3 hdst h2) (by rw [ws]; exact h1) h3
end
end Go.Eng
end
section
namespace Go.Eng
open Go
structure Sx where
  t : Tm
  ob : Nat → AO
  nx : Nat
def St.sx (σ : St) : Sx := ⟨σ.t, σ.o, σ.nx⟩
def Sx.step (s : Sx) (o : Oper) (p : Pa) : Sx := ⟨tput s.t o.dst p.v, updl s.ob p.ws, s.nx + p.nn⟩
inductive Runs (P : Program) (Γ : List Sig) (ops : Array Oper) : List Oper → Sx → List Pa → Sx → Prop where
  | nil (s : Sx) : Runs P Γ ops [] s [] s
  | cons {o : Oper} {r : List Oper} {s s' : Sx} {p : Pa} {ps : List Pa} (nid : p.nid = s.nx) (d : Did P Γ ops o s.t s.ob p) (h : Runs P Γ ops r (s.step o p) ps s') : Runs P Γ ops (o :: r) s (p :: ps) s'
def logOf (ops : Array Oper) (o : Oper) (p : Pa) : Log := ⟨match o.dst with | some d => bit d | none => 0, bits (o.looksAt ops), bits p.ids, bits (p.ws.map (·.1))⟩
section
variable {P : Program} {Γ : List Sig} {ops : Array Oper}
theorem zjb {gs : List Bool} {k : Option Lv} {y : Lv} (h : guards gs k = some y) : (∀ b ∈ gs, b = true) ∧ k = some y := by
  induction gs with
  | nil => exact ⟨fun b h => by simp at h, h⟩
  | cons b r ih =>
    simp only [guards] at h
    cases b
    · cases h
    · obtain ⟨a, c⟩ := ih h
      exact ⟨fun x hx => (List.mem_cons.1 hx).elim id (a x), c⟩
theorem zhb {o : Oper} {σ : St} {lg : List Log} {K : St → List Log → Option Lv} {y : Lv}
    (h : (let vs := o.op.operands.toList.map (opnd σ.t); let ids := opIds o.op vs
      match acore P o.op (rlk ids σ.o) σ.nx vs with
      | none => none
      | some r => guards r.gs (cond (wsOk σ.nx r.nn r.ws) (K (σ.apply o.dst r.v r.ws r.nn) ((⟨match o.dst with | some d => bit d | none => 0, bits (o.looksAt ops), bits ids, bits (r.ws.map (·.1))⟩ : Log) :: lg)) none)) = some y) :
    ∃ p σ', p.nid = σ.nx ∧ Act1 P Γ o σ.t σ.o p ∧ wsOk p.nid p.nn p.ws = true ∧ σ'.sx = σ.sx.step o p ∧ K σ' (logOf ops o p :: lg) = some y := by
  simp only at h
  split at h
  · cases h
  · rename_i r hr
    obtain ⟨h1, h2⟩ := zjb h
    cases hb : wsOk σ.nx r.nn r.ws <;> simp only [hb, cond_false, cond_true] at h2
    · cases h2
    exact ⟨⟨r.v, r.ws, r.nn, _, σ.nx⟩, _, rfl, .core r rfl hr h1 rfl rfl rfl, hb, by simp only [St.sx, Sx.step, St.apply_t, St.apply_o, St.apply_nx], h2⟩
theorem zkg {o : Oper} {σ : St} {lg : List Log} {K : St → List Log → Option Lv} {y : Lv} (h : doOp P Γ ops o σ lg K = some y) :
    ∃ p σ', p.nid = σ.nx ∧ Act1 P Γ o σ.t σ.o p ∧ wsOk p.nid p.nn p.ws = true ∧ σ'.sx = σ.sx.step o p ∧ K σ' (logOf ops o p :: lg) = some y := by
  unfold doOp at h
  simp only at h
  split at h
  · rename_i c hop
    split at h
    · rename_i fv hc
      have hops : o.op.operands.toList = fv :: c.args.toList := by rw [hop]; simp [Op.operands, Call.operands, hc]
      rw [hops] at h
      simp only [List.map_cons] at h
      split at h
      · rename_i f caps args hv
        obtain ⟨hfv', hargs⟩ := List.cons.inj hv
        subst hargs
        split at h
        · cases h
        · rename_i s hs
          split at h
          · cases h
          · rename_i E hm
            generalize hids : more σ.o (more σ.o (more σ.o _)) = ids at hm h
            cases hwh : (bdOk (rlk ids σ.o) E.ids s.nb 0 s.pre.objs && elOk E.ids s.post) <;> rw [hwh] at h
            · cases h
            rw [cond_true] at h
            obtain ⟨z, hz, h⟩ := Option.bind_eq_some_iff.1 h
            generalize hb : wsOk σ.nx (called s _ σ.nx E z).nn (called s _ σ.nx E z).ws = bb at h
            cases bb
            · cases h
            simp only [cond_true] at h
            refine ⟨⟨(called s (rlk ids σ.o) σ.nx E z).v, (called s (rlk ids σ.o) σ.nx E z).ws, (called s (rlk ids σ.o) σ.nx E z).nn, ids, σ.nx⟩, _, rfl, .call c fv f caps s E z hop hc hfv' hs hids.symm hm hwh hz rfl rfl rfl, hb, ?_, h⟩
            simp only [St.sx, Sx.step, St.apply_t, St.apply_o, St.apply_nx]
      · cases h
    · exact zhb h
  · exact zhb h
theorem zfd : ∀ {l : List Oper} {σ : St} {lg : List Log} {K : St → List Log → Option Lv} {y : Lv}, runOps P Γ ops l σ lg K = some y →
    ∃ ps σ', Runs P Γ ops l σ.sx ps σ'.sx ∧ K σ' ((List.zipWith (logOf ops) l ps).reverse ++ lg) = some y
  | [], σ, lg, K, y, h => ⟨[], σ, .nil _, h⟩
  | o :: r, σ, lg, K, y, h => by
    have put_sx : ∀ {d : Nat} {x : AV}, σ.t d = x → (σ.put (some d) x).sx = σ.sx := by
      intro d x hx
      simp only [St.sx, St.put_t, St.put_o, St.put_nx, tput, zee hx]
    have doIt : ∀ {σ0 : St}, σ0.sx = σ.sx → (o.guard = none ∨ ∃ j want d, o.guard = some (j, want) ∧ gdst ops j = some d ∧ σ.t d = .sc (.b want)) → doOp P Γ ops o σ0 lg (fun σ lg => runOps P Γ ops r σ lg K) = some y →
        ∃ ps σ', Runs P Γ ops (o :: r) σ.sx ps σ'.sx ∧ K σ' ((List.zipWith (logOf ops) (o :: r) ps).reverse ++ lg) = some y := by
      intro σ0 e hg h
      obtain ⟨p, σ1, h1, h2, h3, h4, h5⟩ := zkg h
      obtain ⟨ps, σ', h6, h7⟩ := zfd h5
      have e1 : σ0.t = σ.t := congrArg Sx.t e
      have e2 : σ0.o = σ.o := congrArg Sx.ob e
      have e3 : σ0.nx = σ.nx := congrArg Sx.nx e
      rw [e1, e2] at h2
      rw [e] at h4
      refine ⟨p :: ps, σ', .cons (h1.trans e3) (.act hg h2 h3) (h4 ▸ h6), ?_⟩
      simpa using h7
    have skipIt : ∀ {σ0 : St} {j : Nat} {want : Bool} {d : Nat}, σ0.sx = σ.sx → o.guard = some (j, want) → gdst ops j = some d → (σ.t d = .sc (.b (!want)) ∨ σ.t d = .sc .ud) → runOps P Γ ops r (σ0.put o.dst (.sc .ud)) (skipLog ops o :: lg) K = some y →
        ∃ ps σ', Runs P Γ ops (o :: r) σ.sx ps σ'.sx ∧ K σ' ((List.zipWith (logOf ops) (o :: r) ps).reverse ++ lg) = some y := by
      intro σ0 j want d e hg hd ht h
      obtain ⟨ps, σ', h6, h7⟩ := zfd h
      refine ⟨⟨.sc .ud, [], 0, [], σ.nx⟩ :: ps, σ', .cons rfl (.skip j want d hg hd ht rfl rfl rfl rfl) ?_, ?_⟩
      · have : (σ0.put o.dst (.sc .ud)).sx = σ.sx.step o ⟨.sc .ud, [], 0, [], σ.nx⟩ := by
          rw [← e]
          simp only [St.sx, Sx.step, St.put_t, St.put_o, St.put_nx, updl_nil, Nat.add_zero]
        rw [this] at h6; exact h6
      · rw [List.zipWith_cons_cons, List.reverse_cons, List.append_assoc, List.singleton_append]
        exact h7
    simp only [runOps] at h
    split at h
    · rename_i hg
      exact doIt rfl (.inl hg) h
    · rename_i j want hg
      split at h
      · cases h
      · rename_i d hd
        split at h
        · rename_i x hx
          cases x <;> cases want <;> simp only [cond_false, cond_true] at h
          · exact doIt (put_sx hx) (.inr ⟨j, false, d, hg, hd, hx⟩) h
          · exact skipIt (put_sx hx) hg hd (.inl hx) h
          · exact skipIt (put_sx hx) hg hd (.inl hx) h
          · exact doIt (put_sx hx) (.inr ⟨j, true, d, hg, hd, hx⟩) h
        · rename_i hx
          exact skipIt rfl hg hd (.inr hx) h
        · cases h
def Sx.free (s : Sx) : Prop := ∀ k, s.nx ≤ k → s.ob k = .dead
theorem zlv {nx nn : Nat} {ws : List (Nat × AO)} (h : wsOk nx nn ws = true) {x : Nat × AO} (hx : x ∈ ws) : x.1 < nx + nn := by
  simp only [wsOk, Bool.and_eq_true, List.all_eq_true] at h
  exact Nat.le_of_ble_eq_true (h.1 x hx)
theorem zin {nx nn : Nat} {ws : List (Nat × AO)} (h : wsOk nx nn ws = true) {t : Nat} (ht : t < nn) : nx + t ∈ ws.map (·.1) := by
  simp only [wsOk, Bool.and_eq_true, List.all_eq_true] at h
  exact zcw.1 (h.2 t (List.mem_range.2 ht))
theorem Did.ws_lt {o : Oper} {t : Tm} {ob : Lk} {p : Pa} (h : Did P Γ ops o t ob p) {x : Nat × AO} (hx : x ∈ p.ws) : x.1 < p.nid + p.nn := by
  cases h with
  | skip j want d hg hd h v ws nn ids => rw [ws] at hx; simp at hx
  | act hg h hw => exact zlv hw hx
theorem Did.ws_new {o : Oper} {t : Tm} {ob : Lk} {p : Pa} (h : Did P Γ ops o t ob p) {k : Nat} (hk : k < p.nn) : p.nid + k ∈ p.ws.map (·.1) := by
  cases h with
  | skip j want d hg hd h v ws nn ids => rw [nn] at hk; omega
  | act hg h hw => exact zin hw hk
theorem zcb {d : AO} {ws : List (Nat × AO)} {n : Nat} (h : n ∉ ws.map (·.1)) : look d ws n = d := zdt fun v hv => h (List.mem_map.2 ⟨_, hv, rfl⟩)
theorem Sx.free.step {s : Sx} (h : s.free) {o : Oper} {p : Pa} (hn : p.nid = s.nx) (d : Did P Γ ops o s.t s.ob p) : (s.step o p).free := by
  intro k hk
  have hk : s.nx + p.nn ≤ k := hk
  show look (s.ob k) p.ws k = .dead
  rw [zcb, h k (by omega)]
  intro hm
  obtain ⟨x, hx, rfl⟩ := List.mem_map.1 hm
  have := d.ws_lt hx
  omega
theorem Runs.free {l : List Oper} {s s' : Sx} {ps : List Pa} (h : Runs P Γ ops l s ps s') (hf : s.free) : s'.free := by
  induction h with
  | nil => exact hf
  | cons nid d h ih => exact ih (hf.step nid d)
theorem zht (hΓ : Known P Γ) {K : Kx} {nt : Nat} (hd : ∀ o ∈ ops.toList, ∀ d, o.dst = some d → d < nt) {Q : Exit → Act → World → Prop} : ∀ {l pre : List Oper} {s s' : Sx} {ps : List Pa} {X : Cx} {a : Act} {w : World}, ops.toList = pre ++ l → Runs P Γ ops l s ps s' → s.free →
    X.ob = s.ob → Rep P K nt s.t X a w → (∀ a' w' X', Rep P K nt s'.t X' a' w' → X'.ob = s'.ob → Stp P K X w X' w' → Q .normal a' w') → wpOps P ops Q (List.range' pre.length l.length) a w
  | [], pre, s, _, _, X, a, w, he, .nil _, hf, hob, R, hQ => by
    simp only [List.length_nil, List.range'_zero, wpOps]
    exact hQ a w X R hob (Stp.refl R.heap R.hX)
  | o :: r, pre, s, s', _, X, a, w, he, .cons (p := p) nid d h, hf, hob, R, hQ => by
    rw [List.length_cons, List.range'_succ, wpOps_cons]
    have hi : ops[pre.length]? = some o := by rw [← Array.getElem?_toList, he]; simp
    refine zfq hΓ hi R (hd o (by rw [he]; simp)) (p := p) (by rw [hob]; exact d) (fun k hk => by rw [hob]; exact hf _ (by omega)) fun a' w' X' R' hob' S => ?_
    have := zht hΓ hd (Q := Q) (l := r) (pre := pre ++ [o]) (X := X') (a := a') (w := w') (by rw [he]; simp) h (hf.step nid d) (by rw [hob', hob]; rfl) R' fun a'' w'' X'' R'' h1 h2 => hQ a'' w'' X'' R'' h1 (S.trans R.heap h2)
    rw [List.length_append, List.length_singleton] at this
    exact this
end
end Go.Eng
end
section
namespace Go.Eng
open Go
section
variable {P : Program} {Γ : List Sig} {ops : Array Oper}
theorem zch {ob : Lk} {ids : List Nat} {id : Nat} (h : id ∈ ids) : id ∈ more ob ids := by unfold more; exact List.mem_append_left _ h
theorem zff {ob ob' : Lk} {ids : List Nat} (h : ∀ id ∈ ids, ob id = ob' id) : more ob ids = more ob' ids := by
  unfold more
  congr 1
  induction ids with
  | nil => rfl
  | cons x r ih => rw [List.flatMap_cons, List.flatMap_cons, ih fun id hi => h id (by simp [hi]), h x (by simp)]
theorem zh0 {ob ob' : Lk} {ids : List Nat} (h : ∀ id ∈ ids, ob id = ob' id) : rlk ids ob = rlk ids ob' := by
  funext id
  unfold rlk
  cases hh : has ids id
  · rfl
  · exact h id (zcw.1 hh)
theorem zei {o : Oper} {t t' : Tm} (h : ∀ n ∈ o.looksAt ops, t n = t' n) {x : Operand} (hx : x ∈ o.op.operands.toList) : opnd t x = opnd t' x := by
  cases x with
  | tmp n => exact h n (List.mem_append_left _ (List.mem_filterMap.2 ⟨.tmp n, hx, rfl⟩))
  | _ => rfl
theorem Act1.congr {o : Oper} {t t' : Tm} {ob ob' : Lk} {p : Pa} (h : Act1 P Γ o t ob p) (ht : ∀ n ∈ o.looksAt ops, t n = t' n) (ho : ∀ id ∈ p.ids, ob id = ob' id) : Act1 P Γ o t' ob' p := by
  cases h with
  | core r ids h hg v ws nn =>
    have e : o.op.operands.toList.map (opnd t) = o.op.operands.toList.map (opnd t') := List.map_congr_left fun x hx => zei ht hx
    rw [e] at ids h
    rw [zh0 ho] at h
    exact .core r ids h hg v ws nn
  | call c fv f caps s E y hop hc hv hs ids hm hwh hy v ws nn =>
    have hops : o.op.operands.toList = fv :: c.args.toList := by rw [hop]; simp [Op.operands, Call.operands, hc]
    have e : c.args.toList.map (opnd t) = c.args.toList.map (opnd t') := List.map_congr_left fun x hx => zei ht (by rw [hops]; simp [hx])
    have e' : opnd t fv = opnd t' fv := zei ht (by rw [hops]; simp)
    rw [e] at ids hm
    rw [zh0 ho] at hm hwh v ws nn
    refine .call c fv f caps s E y hop hc (e' ▸ hv) hs ?_ hm hwh hy v ws nn
    rw [ids] at ho ⊢
    have h1 := zff (ids := (c.args.toList.map (opnd t') ++ capArgs caps).flatMap AV.ids) fun id hi => ho id (zch (zch (zch hi)))
    rw [← h1]
    have h2 := zff (ids := more ob ((c.args.toList.map (opnd t') ++ capArgs caps).flatMap AV.ids)) fun id hi => ho id (zch (zch hi))
    rw [← h2]
    exact zff fun id hi => ho id (zch hi)
theorem Did.congr {o : Oper} {t t' : Tm} {ob ob' : Lk} {p : Pa} (h : Did P Γ ops o t ob p) (ht : ∀ n ∈ o.looksAt ops, t n = t' n) (ho : ∀ id ∈ p.ids, ob id = ob' id) : Did P Γ ops o t' ob' p := by
  have hgd : ∀ {j want d}, o.guard = some (j, want) → gdst ops j = some d → d ∈ o.looksAt ops := by
    intro j want d hg hd
    refine List.mem_append_right _ ?_
    rw [hg]
    unfold gdst at hd
    simp [hd]
  cases h with
  | skip j want d hg hd h v ws nn ids => exact .skip j want d hg hd (by rw [← ht d (hgd hg hd)]; exact h) v ws nn ids
  | act hg h hw =>
    refine .act ?_ (h.congr ht ho) hw
    rcases hg with hg | ⟨j, want, d, hg, hd, h⟩
    · exact .inl hg
    · exact .inr ⟨j, want, d, hg, hd, by rw [← ht d (hgd hg hd)]; exact h⟩
abbrev OP := Oper × Pa
def foldD (D : Nat → Bool) : Nat → List OP → Sx → Sx
  | _, [], s => s
  | i, x :: r, s => foldD D (i + 1) r (cond (D i) (s.step x.1 x.2) s)
theorem zck {D D' : Nat → Bool} : ∀ {L : List OP} {j : Nat} {s : Sx}, (∀ k, k < L.length → D (j + k) = D' (j + k)) → foldD D j L s = foldD D' j L s
  | [], _, _, _ => rfl
  | x :: L, j, s, h => by
    simp only [foldD]
    rw [show D j = D' j from h 0 (by simp)]
    exact zck fun k hk => by rw [show j + 1 + k = j + (k + 1) by omega]; exact h (k + 1) (by simp; omega)
theorem zel {D : Nat → Bool} : ∀ {L L' : List OP} {j : Nat} {s : Sx}, foldD D j (L ++ L') s = foldD D (j + L.length) L' (foldD D j L s)
  | [], _, _, _ => rfl
  | x :: L, L', j, s => by
    simp only [List.cons_append, foldD, List.length_cons]
    rw [zel, show j + 1 + L.length = j + (L.length + 1) by omega]
theorem zgk {D D' : Nat → Bool} {n : Nat} : ∀ {L : List OP} {j : Nat} {s s' : Sx}, s.t n = s'.t n → (∀ k x, L[k]? = some x → D (j + k) ≠ D' (j + k) → x.1.dst ≠ some n) → (foldD D j L s).t n = (foldD D' j L s').t n
  | [], _, _, _, h, _ => h
  | x :: L, j, s, s', h, hd => by
    simp only [foldD]
    refine zgk ?_ fun k y hy hk => hd (k + 1) y (by simpa using hy) (by rw [show j + (k + 1) = j + 1 + k by omega]; exact hk)
    have h0 := hd 0 x (by simp)
    simp only [Nat.add_zero] at h0
    have key : ∀ s : Sx, x.1.dst ≠ some n → (s.step x.1 x.2).t n = s.t n := by
      intro s hn
      show tput s.t x.1.dst x.2.v n = s.t n
      cases hx : x.1.dst with
      | none => rfl
      | some d => exact zh _ _ fun e => hn (by rw [hx, e])
    have both : (s.step x.1 x.2).t n = (s'.step x.1 x.2).t n := by
      show tput s.t x.1.dst x.2.v n = tput s'.t x.1.dst x.2.v n
      cases hx : x.1.dst with
      | none => exact h
      | some d => simp only [tput, upd]; rw [h]
    cases h1 : D j <;> cases h2 : D' j <;> simp only [cond_true, cond_false]
    · exact h
    · rw [key _ (h0 (by rw [h1, h2]; simp))]; exact h
    · rw [key _ (h0 (by rw [h1, h2]; simp))]; exact h
    · exact both
theorem zd5 {D D' : Nat → Bool} {id : Nat} : ∀ {L : List OP} {j : Nat} {s s' : Sx}, s.ob id = s'.ob id → (∀ k x, L[k]? = some x → D (j + k) ≠ D' (j + k) → id ∉ x.2.ws.map (·.1)) → (foldD D j L s).ob id = (foldD D' j L s').ob id
  | [], _, _, _, h, _ => h
  | x :: L, j, s, s', h, hd => by
    simp only [foldD]
    refine zd5 ?_ fun k y hy hk => hd (k + 1) y (by simpa using hy) (by rw [show j + (k + 1) = j + 1 + k by omega]; exact hk)
    have h0 := hd 0 x (by simp)
    simp only [Nat.add_zero] at h0
    have key : ∀ s : Sx, id ∉ x.2.ws.map (·.1) → (s.step x.1 x.2).ob id = s.ob id := fun s hn => zcb hn
    have both : (s.step x.1 x.2).ob id = (s'.step x.1 x.2).ob id := by
      show look (s.ob id) x.2.ws id = look (s'.ob id) x.2.ws id
      rw [h]
    cases h1 : D j <;> cases h2 : D' j <;> simp only [cond_true, cond_false]
    · exact h
    · rw [key _ (h0 (by rw [h1, h2]; simp))]; exact h
    · rw [key _ (h0 (by rw [h1, h2]; simp))]; exact h
    · exact both
def Same (s s' : Sx) : Prop := s.t = s'.t ∧ s.ob = s'.ob
theorem Same.step {s s' : Sx} (h : Same s s') (o : Oper) (p : Pa) : Same (s.step o p) (s'.step o p) := by
  obtain ⟨h1, h2⟩ := h
  exact ⟨by show tput _ _ _ = tput _ _ _; rw [h1], by show updl _ _ = updl _ _; rw [h2]⟩
theorem zic {D : Nat → Bool} : ∀ {L : List OP} {j : Nat} {s s' : Sx}, Same s s' → Same (foldD D j L s) (foldD D j L s')
  | [], _, _, _, h => h
  | x :: L, j, s, s', h => by
    simp only [foldD]
    apply zic
    cases D j
    · exact h
    · exact h.step _ _
def Aptd (a b : OP) : Prop := (∀ d, a.1.dst = some d → b.1.dst ≠ some d) ∧ ∀ n ∈ a.2.ws.map (·.1), n ∉ b.2.ws.map (·.1)
theorem Aptd.comm {a b : OP} (h : Aptd a b) (s : Sx) : Same ((s.step a.1 a.2).step b.1 b.2) ((s.step b.1 b.2).step a.1 a.2) := by
  obtain ⟨h1, h2⟩ := h
  constructor
  · show tput (tput s.t a.1.dst a.2.v) b.1.dst b.2.v = tput (tput s.t b.1.dst b.2.v) a.1.dst a.2.v
    cases ha : a.1.dst with
    | none => rfl
    | some d =>
      cases hb : b.1.dst with
      | none => rfl
      | some e =>
        have hne : d ≠ e := fun hx => h1 d ha (hx ▸ hb)
        funext n
        simp only [tput, upd]
        by_cases h3 : n = e
        · subst h3; simp [Ne.symm hne]
        · by_cases h4 : n = d
          · subst h4; simp [h3]
          · simp [h3, h4]
  · funext n
    show look (look (s.ob n) a.2.ws n) b.2.ws n = look (look (s.ob n) b.2.ws n) a.2.ws n
    by_cases hn : n ∈ a.2.ws.map (·.1)
    · rw [zcb (ws := b.2.ws) (h2 n hn), zcb (ws := b.2.ws) (h2 n hn)]
    · rw [zcb (ws := a.2.ws) hn, zcb (ws := a.2.ws) hn]
theorem Same.trans {a b c : Sx} (h : Same a b) (k : Same b c) : Same a c := ⟨h.1.trans k.1, h.2.trans k.2⟩
theorem Same.symm {a b : Sx} (h : Same a b) : Same b a := ⟨h.1.symm, h.2.symm⟩
theorem zgr {D : Nat → Bool} {a : OP} : ∀ {L : List OP} {j : Nat} {s : Sx}, (∀ k x, L[k]? = some x → D (j + k) = true → Aptd a x) → Same (foldD D j L (s.step a.1 a.2)) ((foldD D j L s).step a.1 a.2)
  | [], _, _, _ => ⟨rfl, rfl⟩
  | x :: L, j, s, h => by
    simp only [foldD]
    have ih := fun s => zgr (D := D) (a := a) (L := L) (j := j + 1) (s := s) fun k y hy hk => h (k + 1) y (by simpa using hy) (by rw [show j + (k + 1) = j + 1 + k by omega]; exact hk)
    cases hD : D j
    · exact ih s
    · exact (zic ((h 0 x (by simp) (by simpa using hD)).comm s)).trans (ih _)
theorem zjw {D : Nat → Bool} {a : OP} {L1 L2 : List OP} {s : Sx} (hD : D L1.length = false) (h : ∀ k x, L2[k]? = some x → D (L1.length + 1 + k) = true → Aptd a x) :
    Same (foldD (fun k => Nat.beq k L1.length || D k) 0 (L1 ++ a :: L2) s) ((foldD D 0 (L1 ++ a :: L2) s).step a.1 a.2) := by
  rw [zel, zel]
  simp only [foldD, Nat.zero_add]
  have h1 : foldD (fun k => Nat.beq k L1.length || D k) 0 L1 s = foldD D 0 L1 s := zck fun k hk => by
    rw [Nat.zero_add, zn (by omega)]; rfl
  rw [h1, show (Nat.beq L1.length L1.length || D L1.length) = true by simp, hD]
  simp only [cond_true, cond_false]
  rw [zck (D' := D) fun k hk => by rw [zn (by omega)]; rfl]
  exact zgr h
theorem Runs.at_ : ∀ {l : List Oper} {s s' : Sx} {ps : List Pa}, Runs P Γ ops l s ps s' → s.free → ∀ j, s' = foldD (fun _ => true) j (l.zip ps) s ∧ (l.zip ps).map (·.1) = l ∧
    ∀ i x, (l.zip ps)[i]? = some x → Did P Γ ops x.1 (foldD (fun k => Nat.blt k (j + i)) j (l.zip ps) s).t (foldD (fun k => Nat.blt k (j + i)) j (l.zip ps) s).ob x.2 ∧
      x.2.nid = (foldD (fun k => Nat.blt k (j + i)) j (l.zip ps) s).nx ∧ (foldD (fun k => Nat.blt k (j + i)) j (l.zip ps) s).free
  | [], s, _, _, .nil _, hf, j => ⟨rfl, rfl, fun i x h => by simp at h⟩
  | o :: r, s, s', _, .cons (p := p) (ps := ps) nid d h, hf, j => by
    obtain ⟨a, b, c⟩ := Runs.at_ h (hf.step nid d) (j + 1)
    refine ⟨a, by simp only [List.zip_cons_cons, List.map_cons, b], fun i x hx => ?_⟩
    cases i with
    | zero =>
      simp only [List.zip_cons_cons, List.getElem?_cons_zero, Option.some.injEq] at hx
      subst hx
      have e : foldD (fun k => Nat.blt k (j + 0)) j ((o :: r).zip (p :: ps)) s = s := by
        rw [zck (D' := fun _ => false) fun k hk => ?_]
        · have : ∀ {L : List OP} {j : Nat} {s : Sx}, foldD (fun _ => false) j L s = s := by
            intro L
            induction L with
            | nil => intros; rfl
            | cons x L ih => intros; exact ih
          exact this
        · have : ¬ (j + k) < j + 0 := by omega
          cases hb : Nat.blt (j + k) (j + 0) with
          | false => rfl
          | true => exact absurd (Nat.blt_eq.mp hb) this
      rw [e]
      exact ⟨d, nid, hf⟩
    | succ i =>
      simp only [List.zip_cons_cons, List.getElem?_cons_succ] at hx
      have := c i x hx
      have e : foldD (fun k => Nat.blt k (j + (i + 1))) j ((o :: r).zip (p :: ps)) s = foldD (fun k => Nat.blt k (j + 1 + i)) (j + 1) (r.zip ps) (s.step o p) := by
        simp only [List.zip_cons_cons, foldD]
        rw [show j + (i + 1) = j + 1 + i by omega, show Nat.blt j (j + 1 + i) = true from Nat.blt_eq.mpr (by omega)]
        rfl
      rw [e]; exact this
end
end Go.Eng
end
