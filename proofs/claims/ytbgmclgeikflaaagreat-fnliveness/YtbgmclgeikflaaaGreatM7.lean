/- Plain laws over the walks' closed forms. -/
import Derived.Test.YtbgmclgeikflaaaGreatM1
import Derived.Test.YtbgmclgeikflaaaGreatM2
import Derived.Test.YtbgmclgeikflaaaGreatM3
import Derived.Test.YtbgmclgeikflaaaGreatM4
import Derived.Test.YtbgmclgeikflaaaGreatM5
import Derived.Test.YtbgmclgeikflaaaGreatM6
set_option linter.unusedSimpArgs false
set_option linter.unusedVariables false
set_option linter.unusedSectionVars false
section
namespace KV
open Go Go.Eng
open Classical
abbrev Put := Bs × Thing
def encQ (l : List Put) : Rw := l.map fun q => [.s q.1, .s q.2.text, .l (encS q.2.refs)]
def encSs (l : List State) : Rw := l.map fun s => [.i s.width, .i s.now, .i s.given, .i s.births, .l (encK s.things), .l (encP s.pins), .l (encL s.leases)]
@[push_cast] theorem zot (l : List Put) : (encQ l).length = l.length := by simp [encQ]
@[push_cast] theorem zo2 (l : List State) : (encSs l).length = l.length := by simp [encSs]
def q0 : Put := (E0, ⟨E0, []⟩)
def PI (put : List Put) (w : Int) (l : List Bs) : Prop := ∀ n s, runL w (empty w) (l.take n) 0 = .inl s → ∀ k ∈ s.things, (k.sum, k.thing) ∈ put
def QI (past : List State) (w : Int) (a b : List Bs) : Prop := ∀ n s, runL w (empty w) (a ++ b.take n) 0 = .inl s → s ∈ past
theorem PI.mono {p q : List Put} {w : Int} {l : List Bs} (h : PI p w l) (hs : ∀ x ∈ p, x ∈ q) : PI q w l := fun n s hr k hk => hs _ (h n s hr k hk)
theorem QI.mono {p q : List State} {w : Int} {a b : List Bs} (h : QI p w a b) (hs : ∀ x ∈ p, x ∈ q) : QI q w a b := fun n s hr => hs _ (h n s hr)
theorem PI.snoc {p : List Put} {w : Int} {l : List Bs} {x : Bs} {s' : State} (h : PI p w l) (hr : runL w (empty w) (l ++ [x]) 0 = .inl s') (hs : ∀ k ∈ s'.things, (k.sum, k.thing) ∈ p) : PI p w (l ++ [x]) := by
  intro n s hn k hk
  rcases Nat.lt_or_ge l.length n with h1 | h1
  · rw [List.take_of_length_le (by rw [List.length_append]; simp; omega), hr] at hn
    cases hn; exact hs k hk
  · rw [List.take_append_of_le_length h1] at hn
    exact h n s hn k hk
theorem QI.snoc {p : List State} {w : Int} {a b : List Bs} {x : Bs} {s' : State} (h : QI p w a b) (hr : runL w (empty w) (a ++ (b ++ [x])) 0 = .inl s') (hs : s' ∈ p) : QI p w a (b ++ [x]) := by
  intro n s hn
  rcases Nat.lt_or_ge b.length n with h1 | h1
  · rw [List.take_of_length_le (by rw [List.length_append]; simp; omega), hr] at hn
    cases hn; exact hs
  · rw [List.take_append_of_le_length h1] at hn
    exact h n s hn
theorem znl {s : State} {e : Entry} (hk : 1 ≤ e.kind ∧ e.kind ≤ 6) (h : (chg s e).code = 0) {k : Kept} (hk2 : k ∈ (chg s e).st.things) : k ∈ s.things ∨ (e.kind = 1 ∧ k.thing = e.thing ∧ k.sum = sumM (formM e.thing) s.width) := by
  by_cases c1 : e.kind = 1
  · have hc : chg s e = putS s e := by unfold chg; rw [if_pos c1]
    rw [hc] at h hk2
    unfold putS at h hk2
    split at h
    · cases h
    · rename_i a1
      rw [if_neg a1] at hk2
      split at h
      · rename_i a2
        rw [if_pos a2] at hk2
        split at h
        · rename_i a3
          rw [if_pos a3] at hk2
          split at h
          · rename_i a4
            rw [if_pos a4] at hk2
            exact .inl hk2
          · cases h
        · cases h
      · rename_i a2
        rw [if_neg a2] at hk2
        split at h
        · rename_i a3
          rw [if_pos a3] at hk2
          rcases zcb.1 hk2 with h1 | h1
          · subst h1; exact .inr ⟨c1, rfl, rfl⟩
          · exact .inl h1
        · cases h
  · rcases (zog hk h).2.1 k hk2 with h1 | h1
    · exact .inl h1
    · exact absurd h1.1 c1
end KV
end
section
namespace KV
open Go Go.Eng
open Classical
def TX (w : Int) (l : List Bs) : Prop := ∀ n s, runL w (empty w) (l.take n) 0 = .inl s → ∀ k ∈ s.things, k.thing.text.size ≤ 20
theorem TX.snoc {w : Int} {l : List Bs} {x : Bs} {s' : State} (h : TX w l) (hr : runL w (empty w) (l ++ [x]) 0 = .inl s') (hs : ∀ k ∈ s'.things, k.thing.text.size ≤ 20) : TX w (l ++ [x]) := by
  intro n s hn
  rcases Nat.lt_or_ge l.length n with h1 | h1
  · rw [List.take_of_length_le (by rw [List.length_append]; simp; omega), hr] at hn
    cases hn; exact hs
  · rw [List.take_append_of_le_length h1] at hn
    exact h n s hn
theorem TX.nil (w : Int) : TX w [] := fun n s hn k hk => by
  rw [List.take_nil] at hn
  simp only [runL] at hn
  cases hn; cases hk
theorem TX.stx {v : Vault} (V : VV v) (h : TX v.width (v.safe ++ v.loose)) : ∀ k ∈ v.st.things, k.thing.text.size ≤ 20 := h (v.safe ++ v.loose).length v.st (by rw [List.take_length]; exact V.run)
theorem TX.stepx {v : Vault} (V : VV v) (h : TX v.width (v.safe ++ v.loose)) (hr : v.rd.rounds < 1000000000) (hl : (unitM v.st v.rd).2 = E0 ∨ v.safe.length + v.loose.length < 4000) : TX v.width ((stepV v).safe ++ (stepV v).loose) := by
  have hs := (zcd V hr hl).run
  have hsub : ∀ k ∈ (stepV v).st.things, k ∈ v.st.things := fun k hk => (UK.step V.vs.1 v.rd).sub.subset hk
  by_cases hd : (unitM v.st v.rd).2 = E0
  · have : (stepV v).loose = v.loose := if_pos hd
    rw [this]; exact h
  · have : (stepV v).loose = v.loose ++ [formE (eDrop (unitM v.st v.rd).2)] := if_neg hd
    rw [this] at hs ⊢
    have e : (stepV v).safe = v.safe := rfl
    have e2 : (stepV v).width = v.width := rfl
    rw [e, e2] at hs
    rw [e]
    rw [← List.append_assoc] at hs ⊢
    exact h.snoc hs fun k hk => TX.stx V h k (hsub k hk)
theorem zhp : ∀ (n : Nat) (v : Vault) (d : List Bs) (u : Nat) (r : Vault × List Bs × Nat), VV v → TX v.width (v.safe ++ v.loose) → clrS n v d u = some r → TX r.1.width (r.1.safe ++ r.1.loose)
  | 0, v, d, u, r, V, h, e => by simp only [clrS] at e; cases e; exact h
  | n + 1, v, d, u, r, V, h, e => by
    simp only [clrS] at e
    split at e
    · cases e
    · rename_i hc
      have hlog := V.log.n
      split at e
      · cases e; exact h
      · rename_i hd
        have hl : (unitM v.st v.rd).2 = E0 ∨ v.safe.length + v.loose.length < 4000 := by
          by_cases h0 : (unitM v.st v.rd).2 = E0
          · exact .inl h0
          · exact .inr (by have : ¬ 4000 ≤ v.safe.length + v.loose.length := fun h => hd ⟨h0, h⟩; omega)
        have hs := zcd V (by omega) hl
        exact zhp n _ _ _ _ (hs.vv (hs.rd (by show (unitM v.st v.rd).1.queue.length ≤ 23200; omega) (by show (unitM v.st v.rd).1.marked.length ≤ 600; omega))) (TX.stepx V h (by omega) hl) e
theorem Led.tx {v : Vault} (h : Led v) : TX v.width (v.safe ++ v.loose) := by
  induction h with
  | new v ha hb => rw [ha, hb]; exact TX.nil _
  | act v v' h g a ih =>
    cases a with
    | did e hk ht =>
      by_cases hc : (doS v e).code = 0
      · rw [if_pos hc]
        obtain ⟨V, he, hcc, VV'⟩ := zhh hc
        have hv := doE_v hc
        have hr := VV'.run
        unfold doS at hr ⊢
        rw [hv] at hr ⊢
        simp only at hr ⊢
        rw [← List.append_assoc] at hr ⊢
        refine ih.snoc hr fun k hk2 => ?_
        rcases znl hk hcc hk2 with h1 | ⟨_, h1, _⟩
        · exact TX.stx V ih k h1
        · rw [h1]; omega
      · rw [if_neg hc]; exact ih
    | flush =>
      unfold zb5
      split
      · show TX v.width ((v.safe ++ v.loose) ++ []); rw [List.append_nil]; exact ih
      · exact TX.nil _
    | lose k =>
      by_cases V : VV v
      · obtain ⟨s, _, e⟩ := zkm V k
        rw [e]
        show TX v.width ((v.safe ++ v.loose.take k.toNat) ++ [])
        rw [List.append_nil]
        intro n s hn
        have : (v.safe ++ v.loose.take k.toNat).take n = (v.safe ++ v.loose).take (min n (v.safe.length + k.toNat)) := by
          rw [← List.take_take]
          congr 1
          rw [List.take_append]
          congr 1
          · rw [List.take_of_length_le (by omega)]
          · congr 1; omega
        rw [this] at hn
        exact ih _ s hn
      · unfold loseM; rw [if_neg V]; exact TX.nil _
    | clear n v' d u V h2 => exact zhp n v [] 0 _ V ih h2
    | none => exact TX.nil _
structure AV (v : Vault) : Prop where
  bs : BS v.st
  br : BR v.rd
  ns : v.safe.length + v.loose.length ≤ 4010
  sz : ∀ x ∈ v.safe ++ v.loose, x.size ≤ 5000
  ints : (-1 ≤ v.width ∧ v.width ≤ 10) ∧ (-1 ≤ v.limit ∧ v.limit ≤ 1000001)
  cut : CutV v
  tx : VV v → v.safe.length + v.loose.length ≤ 1000 → ∀ k ∈ v.st.things, k.thing.text.size ≤ 20
theorem AV.small {v : Vault} (h : AV v) : SmallV v := by
  have h1 := h.ns; have h2 := h.br.q; have h3 := h.br.m; have h4 := h.bs.nT
  exact ⟨⟨by omega, fun x hx => by have := h.sz x (List.mem_append.2 (.inl hx)); omega⟩, ⟨by omega, fun x hx => by have := h.sz x (List.mem_append.2 (.inr hx)); omega⟩, by omega, h.bs.small, by omega, by omega, by omega⟩
theorem zn9 {w : Int} {l : List Bs} {s : State} (h : runL w (empty w) l 0 = .inl s) : ∃ a : Nat, ∀ k ∈ s.things, ∀ r ∈ k.thing.refs, r.size = a := by
  by_cases hw : ze w = true
  · have W := zcc _ _ _ _ (zb6 (zp.1 hw)) rfl h
    exact ⟨_, W.1.uni⟩
  · cases l with
    | nil => simp only [runL] at h; cases h; exact ⟨0, fun k hk => nomatch hk⟩
    | cons x l =>
      simp only [runL] at h
      rw [zez (by simpa using hw)] at h
      cases h
theorem GS.uni {s : State} (h : GS s) : ∃ a : Nat, ∀ k ∈ s.things, ∀ r ∈ k.thing.refs, r.size = a := by
  rcases h with h | rfl
  · exact ⟨_, h.uni⟩
  · exact ⟨0, fun k hk => nomatch hk⟩
theorem GS.cutV {v : Vault} (h : GS v.st) : CutV v := fun s hs => by
  obtain ⟨a, ha⟩ := zn9 hs
  obtain ⟨b, hb⟩ := h.uni
  exact Cut.uni ha hb
theorem FU.av {v : Vault} (h : FU v) : AV v := by
  refine ⟨h.gs.bs, h.br, h.ns, h.sz, h.ints, h.gs.cutV, fun V hn => ?_⟩
  rcases h.big with e | e
  · have := V.wd
    rw [e, zp] at this
    exact absurd this.1 (by show ¬ (1 : Int) ≤ 0; omega)
  · omega
theorem GL.av {v v' : Vault} (h : GL v) (hg : BS v'.st) (hc : CutV v') (hb : BR v'.rd) (ha : v'.safe.length + v'.loose.length ≤ 4010) (hz : ∀ x ∈ v'.safe ++ v'.loose, x.size ≤ 5000) (hi : (-1 ≤ v'.width ∧ v'.width ≤ 10) ∧ (-1 ≤ v'.limit ∧ v'.limit ≤ 1000001))
    (ht : VV v' → VV v → v'.st.things = v.st.things) (h0 : v = V0 → VV v' → False) : AV v' := by
  refine ⟨hg, hb, ha, hz, hi, hc, fun V hn k hk => ?_⟩
  rcases h.1 with h1 | h1
  · rw [ht V h1] at hk
    exact TX.stx h1 h.2.tx k hk
  · exact (h0 h1 V).elim
theorem not_w {v : Vault} (h : v.width = 0) : ¬ VV v := fun V => by have := V.wd; rw [h, zp] at this; omega
theorem zka {v : Vault} (h : v.st.width = 0) : ¬ VV v := fun V => by have := V.vs.1.wd; rw [h] at this; omega
def anV (v : Vault) (b : Rw) (p : Int) : Lv := encV v ++ [.l b, .i p]
def li2 : Rw := [[.i (-1)], [.i 1000001]]
theorem zlx (n : Nat) (h : n < 2) : -1 ≤ (rd li2 n 0).int ∧ (rd li2 n 0).int ≤ 1000001 := by
  match n, h with
  | 0, _ => exact ⟨by show (-1 : Int) ≤ -1; omega, by show (-1 : Int) ≤ 1000001; omega⟩
  | 1, _ => exact ⟨by show (-1 : Int) ≤ 1000001; omega, by show (1000001 : Int) ≤ 1000001; omega⟩
set_option maxHeartbeats 4000000 in
theorem zng {b : Rw} (hb : RB b) (p : Int) (hp : 0 ≤ p ∧ p ≤ 800000000) : ∃ (v : Vault) (p' : Int), Lqdu none [.l b, .i p] = some (anV v b p') ∧ p ≤ p' ∧ p' ≤ p + 1000 ∧ AV v := by
  obtain ⟨x, ex, rx, sx⟩ := zf hb 24 (by omega) p (by omega)
  rw [eqdu_i, ex, mostE]
  unfold anV encV
  by_cases c : x = 0
  · obtain ⟨v, p', e, h1, h2, h3⟩ := zoe hb (p + 1) (by omega)
    refine ⟨v, p', ?_, by omega, by omega, h3.av⟩
    unfold fuO at e
    simp (disch := omega) only [push_cast, e]; rfl
  obtain ⟨v, p1, e1, h1, h2, hg⟩ := zk5 hb (p + 1) (by omega)
  have hgs := hg.1.gs
  have hlog := hg.1.logx
  have hir := hg.1.ir
  have hints : (0 ≤ v.width ∧ v.width ≤ 8) ∧ (0 ≤ v.limit ∧ v.limit ≤ 1000000) := by
    rcases hg.1 with h | rfl
    · have := zp.1 h.wd; have := h.lim; omega
    · unfold V0; simp
  unfold vA vB at e1
  simp only [List.cons_append, List.nil_append] at e1
  obtain ⟨y, ey, ry, sy⟩ := zf hb 8 (by omega) p1 (by omega)
  by_cases c1 : 0 < y
  · refine ⟨v, p1 + 1, ?_, by omega, by omega, hg.av hgs.bs hgs.cutV hir.br (by omega) hlog.2 (by omega) (fun _ _ => rfl) (fun h V => not_w (by rw [h]; rfl) V)⟩
    simp (disch := omega) only [push_cast, e1, ey]; rfl
  obtain ⟨z, ez, rz, sz⟩ := zf hb 6 (by omega) (p1 + 1) (by omega)
  by_cases d0 : z = 0
  · obtain ⟨s', p', e, h3, h4, h5, h6⟩ := zlz hb hgs (p1 + 1 + 1) (by omega)
    have e' : Lqc8 none [.i v.st.width, .i v.st.now, .i v.st.given, .i v.st.births, .l (encK v.st.things), .l (encP v.st.pins), .l (encL v.st.leases), .l b, .i (p1 + 1 + 1)] = _ := e
    unfold spO at e'
    refine ⟨{ v with st := s' }, p', ?_, by omega, by omega, hg.av (v' := { v with st := s' }) h5 ?_ hir.br (by simp only; omega) hlog.2 (by simp only; omega) (fun V' V => ?_) (fun h V => not_w (by rw [h]; rfl) V)⟩
    · simp (disch := omega) only [push_cast, e1, ey, ez, e']; rfl
    · intro s hs
      rcases hg.1 with V | rfl
      · have : v.st = s := by have := V.run; rw [hs] at this; cases this; rfl
        rw [← this]; exact h6 V.vs.1
      · have hs : runL 0 (empty 0) [] 0 = .inl s := hs
        simp only [runL] at hs
        cases hs
        exact fun i hi => absurd hi (Nat.not_lt_zero _)
    · have h7 := V'.run
      have h8 := V.run
      have h7' : runL v.width (empty v.width) (v.safe ++ v.loose) 0 = .inl s' := h7
      rw [h8] at h7'
      cases h7'; rfl
  by_cases d5 : z = 5
  · obtain ⟨u, eu, ru, su⟩ := zf hb 3 (by omega) (p1 + 1 + 1) (by omega)
    refine ⟨{ v with rd := { v.rd with rounds := 1000000000 - u } }, p1 + 1 + 1 + 1, ?_, by omega, by omega, hg.av (v' := { v with rd := { v.rd with rounds := 1000000000 - u } }) hgs.bs (GS.cutV (v := { v with rd := { v.rd with rounds := 1000000000 - u } }) hgs) ⟨hir.br.q, hir.br.m, hir.br.ints.1, hir.br.ints.2.1, hir.br.ints.2.2.1, by simp only; omega⟩ (by simp only; omega) hlog.2 (by simp only; omega) (fun _ _ => rfl) (fun h V => not_w (by rw [h]; rfl) V)⟩
    simp (disch := omega) only [push_cast, e1, ey, ez, eu]; rfl
  by_cases d1 : z = 1
  · obtain ⟨r', p', e, h3, h4, h5⟩ := zkk hb v.st hgs.now.2.2.1 hir (p1 + 1 + 1) (by omega)
    have e' : Lq6 none [.i v.st.width, .i v.st.now, .i v.st.given, .i v.st.births, .l (encK v.st.things), .l (encP v.st.pins), .l (encL v.st.leases), .i v.rd.phase, .l (encS v.rd.queue), .l (encS v.rd.marked), .i v.rd.top, .i v.rd.at_, .i v.rd.rounds, .l b, .i (p1 + 1 + 1)] = _ := e
    unfold spR at e'
    refine ⟨{ v with rd := r' }, p', ?_, by omega, by omega, hg.av (v' := { v with rd := r' }) hgs.bs (GS.cutV (v := { v with rd := r' }) hgs) h5 (by simp only; omega) hlog.2 (by simp only; omega) (fun _ _ => rfl) (fun h V => not_w (by rw [h]; rfl) V)⟩
    simp (disch := omega) only [push_cast, e1, ey, ez, e']; rfl
  by_cases d2 : z = 2
  · obtain ⟨u, eu, ru, su⟩ := zf hb 2 (by omega) (p1 + 1 + 1) (by omega)
    have hr := zlx u.toNat (by omega)
    unfold li2 at hr
    refine ⟨{ v with limit := (rd ([[.i (-1)], [.i 1000001]] : Rw) u.toNat 0).int }, p1 + 1 + 1 + 1, ?_, by omega, by omega, hg.av (v' := { v with limit := (rd ([[.i (-1)], [.i 1000001]] : Rw) u.toNat 0).int }) hgs.bs (GS.cutV (v := { v with limit := (rd ([[.i (-1)], [.i 1000001]] : Rw) u.toNat 0).int }) hgs) hir.br (by simp only; omega) hlog.2 (by simp only; omega) (fun _ _ => rfl) (fun h V => not_w (by rw [h]; rfl) V)⟩
    simp (disch := omega) only [push_cast, e1, ey, ez, eu]; rfl
  by_cases d3 : z = 3
  · obtain ⟨u, eu, ru, su⟩ := zf hb 10 (by omega) (p1 + 1 + 1) (by omega)
    refine ⟨{ v with width := u }, p1 + 1 + 1 + 1, ?_, by omega, by omega, hg.av (v' := { v with width := u }) hgs.bs (GS.cutV (v := { v with width := u }) hgs) hir.br (by simp only; omega) hlog.2 (by simp only; omega) (fun _ _ => rfl) (fun h V => zka (by rw [h]; rfl) V)⟩
    simp (disch := omega) only [push_cast, e1, ey, ez, eu]; rfl
  · have hfe := zc1 ⟨6, E0, E0, 1, ⟨E0, []⟩⟩ 8 (Nat.zero_le _)
    have hfe' : Lqx none [.i 6, .s E0, .s E0, .i 1, .s E0, .l [], .i 8] = _ := hfe
    have hfz := zeu ⟨6, E0, E0, 1, ⟨E0, []⟩⟩ 8
    obtain ⟨f, hf⟩ : ∃ f, (if zd ⟨6, E0, E0, 1, ⟨E0, []⟩⟩ 8 = true then formE ⟨6, E0, E0, 1, ⟨E0, []⟩⟩ else E0) = f := ⟨_, rfl⟩
    rw [hf] at hfe' hfz
    refine ⟨{ v with loose := v.loose ++ [f] }, p1 + 1 + 1, ?_, by omega, by omega, hg.av (v' := { v with loose := v.loose ++ [f] }) hgs.bs (GS.cutV (v := { v with loose := v.loose ++ [f] }) hgs) hir.br (by simp only [List.length_append, List.length_cons, List.length_nil]; omega) (fun x hx => ?_) (by simp only; omega) (fun _ _ => rfl) (fun h V => not_w (by rw [h]; rfl) V)⟩
    · simp (disch := omega) only [push_cast, e1, ey, ez, hfe']
      rw [z6, zi]; rfl
    · simp only [← List.append_assoc] at hx
      rcases List.mem_append.1 hx with h | h
      · exact hlog.2 x h
      · rw [List.mem_singleton] at h; rw [h]; exact hfz
end KV
end
section
namespace KV
open Go Go.Eng
open Classical
section
variable {c : Rw} (hc : ∀ i, 0 ≤ (rd c i 0).int ∧ (rd c i 0).int ≤ 255)
include hc
theorem zja : ∃ (v : Vault) (k : Int), Lqdv none [.l c] = some (encV v ++ [.i k]) ∧ AV v := by
  obtain ⟨b, hop, hb⟩ := zj2 hc
  obtain ⟨v, p, e, h1, h2, hA⟩ := zng hb 0 (by omega)
  obtain ⟨x, ex, rx, sx⟩ := zf hb 16 (by omega) p (by omega)
  unfold anV encV at e
  simp only [List.cons_append, List.nil_append] at e
  rw [eqdv_i, hop]
  by_cases h0 : x = 0
  · obtain ⟨y, ey, ry, sy⟩ := zf hb 3 (by omega) (p + 1) (by omega)
    refine ⟨v, (rd ([[.i (-1)], [.i 10001], [.i 300]] : Rw) y.toNat 0).int, ?_, hA⟩
    simp (disch := omega) only [push_cast, e, ex, ey]; rfl
  · obtain ⟨y, ey, ry, sy⟩ := zf hb 60 (by omega) (p + 1) (by omega)
    refine ⟨v, y, ?_, hA⟩
    simp (disch := omega) only [push_cast, e, ex, ey]; rfl
end
end KV
end
section
namespace KV
open Go Go.Eng
open Classical
structure SI (s : State) (F ks todo : List Bs) : Prop where
  nd : ks.Nodup
  has : ∀ x ∈ ks, hasT s.things x
  hasQ : ∀ x ∈ todo, hasT s.things x
  base : ∀ x ∈ F, x ∈ ks ∨ x ∈ todo
  rch : ∀ x ∈ ks, Rch s.things F x
  rchQ : ∀ x ∈ todo, Rch s.things F x
  cl : ∀ k ∈ s.things, k.sum ∈ ks → ∀ r ∈ k.thing.refs, r ∈ ks ∨ r ∈ todo
theorem zn6 {s : State} (V : VS s) (F : List Bs) : ∀ (m : Nat) (ks todo : List Bs), m ≤ 1000000 → todo.length + sumU ks s.things ≤ m → SI s F ks todo →
    ∃ ks' : List Bs, Lqcb (some 3) [.i s.width, .i s.now, .i s.given, .i s.births, .l (encK s.things), .l (encP s.pins), .l (encL s.leases), .m (setM ks), .l (encS todo)] = some [.m (setM ks')] ∧ ks'.Nodup ∧ ∀ x, x ∈ ks' ↔ Rch s.things F x := by
  intro m
  have n1 := V.nT
  have fin : ∀ ks : List Bs, SI s F ks [] → ∃ ks' : List Bs, Lqcb (some 3) [.i s.width, .i s.now, .i s.given, .i s.births, .l (encK s.things), .l (encP s.pins), .l (encL s.leases), .m (setM ks), .l (encS [])] = some [.m (setM ks')] ∧ ks'.Nodup ∧ ∀ x, x ∈ ks' ↔ Rch s.things F x := by
    intro ks h
    refine ⟨ks, ?_, h.nd, fun x => ⟨h.rch x, fun hx => ?_⟩⟩
    · rw [eqcb_3]; simp (disch := omega) only [push_cast]
    · induction hx with
      | base x hx => exact (h.base x hx).resolve_right (fun h => nomatch h)
      | ref k x hk hks hx ih => exact (h.cl k hk ih x hx).resolve_right (fun h => nomatch h)
  induction m with
  | zero =>
    intro ks todo hm hl h
    have : todo = [] := List.eq_nil_of_length_eq_zero (by omega)
    subst this
    exact fin ks h
  | succ m ih =>
    intro ks todo hm hl h
    rcases List.eq_nil_or_concat todo with rfl | ⟨t, x, rfl⟩
    · exact fin ks h
    rw [List.concat_eq_append] at hl h ⊢
    rw [List.length_append] at hl
    simp only [List.length_cons, List.length_nil] at hl
    have hxT := h.hasQ x (by simp)
    have hxi := (z9 V.srtT x).1 hxT
    obtain ⟨k, hk⟩ : ∃ k, nth K0 s.things (lb (qK x) s.things) = k := ⟨_, rfl⟩
    have hkm : k ∈ s.things := by rw [← hk]; exact zb hxi.1
    have hks : k.sum = x := by rw [← hk]; exact hxi.2
    have hrl := V.rl k hkm
    have hlen : (encS (t ++ [x])).length = t.length + 1 := by rw [zr]; simp
    have hlast : nth .empty (t ++ [x]) t.length = x := by
      rw [zh _ _ _ (by simp)]; simp
    have hsub : Eng.sub (encS (t ++ [x])) 0 t.length = encS t := by
      rw [zb3]; simp
    have hth := zba s.width s.now s.given s.births s.things (encP s.pins) (encL s.leases) x V.srtT (by omega)
    have e2 : ((t.length : Int) + 1 - 1).toNat = t.length := by omega
    rw [eqcb_3, mostE, hlen]
    by_cases hin : x ∈ ks
    · obtain ⟨ks', e, r⟩ := ih ks t (by omega) (by omega) ⟨h.nd, h.has, fun y hy => h.hasQ y (by simp [hy]), fun y hy => by
        rcases h.base y hy with h1 | h1
        · exact .inl h1
        · rcases List.mem_append.1 h1 with h2 | h2
          · exact .inr h2
          · rw [List.mem_singleton] at h2; rw [h2]; exact .inl hin, h.rch, fun y hy => h.rchQ y (by simp [hy]), fun j hj hjk r hr => by
        rcases h.cl j hj hjk r hr with h1 | h1
        · exact .inl h1
        · rcases List.mem_append.1 h1 with h2 | h2
          · exact .inr h2
          · rw [List.mem_singleton] at h2; rw [h2]; exact .inl hin⟩
      refine ⟨ks', ?_, r⟩
      simp (disch := omega) only [push_cast, e2, hlast, hth, decide_eq_true hxT, inM, decide_eq_true hin, hsub]
      exact e
    · have hmk := zel hin s.things k hkm hks
      obtain ⟨ks', e, r⟩ := ih (ks ++ [x]) (t ++ k.thing.refs) (by omega) (by rw [List.length_append]; omega) ⟨by
          rw [List.nodup_append]
          refine ⟨h.nd, by simp, fun a ha b hb => ?_⟩
          rw [List.mem_singleton] at hb
          rintro rfl
          rw [hb] at ha; exact hin ha, fun y hy => by
          rcases List.mem_append.1 hy with h1 | h1
          · exact h.has y h1
          · rw [List.mem_singleton] at h1; rw [h1]; exact hxT, fun y hy => by
          rcases List.mem_append.1 hy with h1 | h1
          · exact h.hasQ y (by simp [h1])
          · obtain ⟨j, hj, e, _⟩ := V.refs k hkm y h1; exact ⟨j, hj, e⟩, fun y hy => by
          rcases h.base y hy with h1 | h1
          · exact .inl (List.mem_append.2 (.inl h1))
          · rcases List.mem_append.1 h1 with h2 | h2
            · exact .inr (List.mem_append.2 (.inl h2))
            · exact .inl (List.mem_append.2 (.inr h2)), fun y hy => by
          rcases List.mem_append.1 hy with h1 | h1
          · exact h.rch y h1
          · rw [List.mem_singleton] at h1; rw [h1]; exact h.rchQ x (by simp), fun y hy => by
          rcases List.mem_append.1 hy with h1 | h1
          · exact h.rchQ y (by simp [h1])
          · exact .ref k y hkm (by rw [hks]; exact h.rchQ x (by simp)) h1, fun j hj hjk r hr => by
          rcases List.mem_append.1 hjk with h1 | h1
          · rcases h.cl j hj h1 r hr with h2 | h2
            · exact .inl (List.mem_append.2 (.inl h2))
            · rcases List.mem_append.1 h2 with h3 | h3
              · exact .inr (List.mem_append.2 (.inl h3))
              · exact .inl (List.mem_append.2 (.inr h3))
          · rw [List.mem_singleton] at h1
            obtain rfl := zd0 V hj hkm (h1.trans hks.symm)
            exact .inr (List.mem_append.2 (.inr hr))⟩
      refine ⟨ks', ?_, r⟩
      rw [← zi] at e
      simp (disch := omega) only [push_cast, e2, hlast, hth, decide_eq_true hxT, inM, decide_eq_false hin, hsub, hk, zek x ks hin]
      exact e
theorem zmo {s : State} (V : VS s) (F : List Bs) (hF : ∀ x ∈ F, hasT s.things x) (hl : F.length ≤ 100000) : ∃ ks : List Bs, Lqcb none [.l (encS F), .i s.width, .i s.now, .i s.given, .i s.births, .l (encK s.things), .l (encP s.pins), .l (encL s.leases)] = some [.m (setM ks)] ∧ ks.Nodup ∧ ∀ x, x ∈ ks ↔ Rch s.things F x := by
  have n1 := V.nT
  have h1 := zco [] s.things V.rl
  obtain ⟨ks, e, r⟩ := zn6 V F (F.length + sumU [] s.things) [] F (by omega) (Nat.le_refl _) ⟨List.nodup_nil, fun x hx => (nomatch hx), hF, fun x hx => .inr hx, fun x hx => (nomatch hx), fun x hx => .base x hx, fun k hk h => nomatch h⟩
  refine ⟨ks, ?_, r⟩
  rw [eqcb_i]
  simp (disch := omega) only [push_cast, zb9 (encS F) (by rw [zr]; omega)]
  exact e
theorem zkq {T : List Kept} {F G : List Bs} (h : ∀ x, x ∈ F ↔ x ∈ G) (x : Bs) : Rch T F x ↔ Rch T G x := by
  have : ∀ {F G : List Bs}, (∀ x, x ∈ F → x ∈ G) → ∀ x, Rch T F x → Rch T G x := by
    intro F G h x hx
    induction hx with
    | base x hx => exact .base x (h x hx)
    | ref k x hk hks hx ih => exact .ref k x hk ih hx
  exact ⟨this (fun x => (h x).1) x, this (fun x => (h x).2) x⟩
theorem zm1 {s : State} (V : VS s) : ∃ ks : List Bs, Lqbe none [.i s.width, .i s.now, .i s.given, .i s.births, .l (encK s.things), .l (encP s.pins), .l (encL s.leases)] = some [.m (setM ks)] ∧ ks.Nodup ∧ ∀ x, x ∈ ks ↔ Liv s x := by
  have n1 := V.nT; have n2 := V.nP; have n3 := V.nL
  have hmem : ∀ x, x ∈ s.pins.map (·.sum) ++ s.leases.map (·.sum) ↔ x ∈ z0 s := fun x => by
    rw [zev, List.mem_append, List.mem_map, List.mem_map]; rfl
  obtain ⟨ks, e, h1, h2⟩ := zmo V (s.pins.map (·.sum) ++ s.leases.map (·.sum)) (fun x hx => zem V ((hmem x).1 hx)) (by simp; omega)
  refine ⟨ks, ?_, h1, fun x => (h2 x).trans (zkq hmem x)⟩
  have l2 : Lqbe (some 8) [.l (encL s.leases), .i (s.leases.length : Int), .i 0, .i s.width, .i s.now, .i s.given, .i s.births, .l (encK s.things), .l (encP s.pins), .l (encL s.leases), .l (encS (s.pins.map (·.sum)))] = some [.m (setM ks)] :=
    zt (f := fun (i : Nat) (a : List Bs) => Lqbe (some 8) [.l (encL s.leases), .i (s.leases.length : Int), .i (i : Int), .i s.width, .i s.now, .i s.given, .i s.births, .l (encK s.things), .l (encP s.pins), .l (encL s.leases), .l (encS a)]) (n := s.leases.length)
      (I := fun i a => a = s.pins.map (·.sum) ++ (s.leases.take i).map (·.sum)) (fun i a hi hI => ⟨a ++ [(nth L0 s.leases i).sum], by
        show Lqbe _ _ = Lqbe _ _
        have hl : a.length ≤ 100 + i := by rw [hI]; simp; omega
        rw [eqbe_8, mostE, ← zi]
        simp (disch := omega) only [push_cast] <;> rfl, by
        show a ++ _ = _
        rw [zz L0 hi, List.map_append, ← List.append_assoc, ← hI]; rfl⟩) (fun a hI => by
        show Lqbe _ _ = _
        rw [eqbe_8]
        rw [List.take_length] at hI
        rw [← hI] at e
        simp (disch := omega) only [push_cast, e]) 0 _ (Nat.zero_le _) (by simp)
  have l1 : Lqbe (some 3) [.l (encP s.pins), .i (s.pins.length : Int), .i 0, .i s.width, .i s.now, .i s.given, .i s.births, .l (encK s.things), .l (encP s.pins), .l (encL s.leases), .l (encS [])] = some [.m (setM ks)] :=
    zt (f := fun (i : Nat) (a : List Bs) => Lqbe (some 3) [.l (encP s.pins), .i (s.pins.length : Int), .i (i : Int), .i s.width, .i s.now, .i s.given, .i s.births, .l (encK s.things), .l (encP s.pins), .l (encL s.leases), .l (encS a)]) (n := s.pins.length)
      (I := fun i a => a = (s.pins.take i).map (·.sum)) (fun i a hi hI => ⟨a ++ [(nth P0 s.pins i).sum], by
        show Lqbe _ _ = Lqbe _ _
        have hl : a.length ≤ i := by rw [hI]; simp; omega
        rw [eqbe_3, mostE, ← zi]
        simp (disch := omega) only [push_cast] <;> rfl, by
        show a ++ _ = _
        rw [zz P0 hi, List.map_append, ← hI]; rfl⟩) (fun a hI => by
        show Lqbe _ _ = _
        rw [eqbe_3]
        rw [List.take_length] at hI
        simp (disch := omega) only [push_cast]
        rw [hI]
        exact l2) 0 _ (Nat.zero_le _) (by simp)
  rw [eqbe_i]
  simp (disch := omega) only [push_cast]
  exact l1
noncomputable def sumsM (s : State) (ks : List Bs) (want : Bool) : List Bs := (s.things.filter fun k => decide (k.sum ∈ ks) == want).map (·.sum)
theorem zi6 {s : State} (hn : s.things.length ≤ 1000000) (ks : List Bs) (want : Bool) : Lqbw none [.b want, .m (setM ks), .i s.width, .i s.now, .i s.given, .i s.births, .l (encK s.things), .l (encP s.pins), .l (encL s.leases)] = some [.m (setM ks), .l (encS (sumsM s ks want))] := by
  rw [eqbw_i]
  have lp : Lqbw (some 3) [.b want, .l (encK s.things), .i (s.things.length : Int), .i 0, .m (setM ks), .l (encS [])] = _ :=
    zt (f := fun (i : Nat) (a : List Bs) => Lqbw (some 3) [.b want, .l (encK s.things), .i (s.things.length : Int), .i (i : Int), .m (setM ks), .l (encS a)]) (n := s.things.length) (T := some [.m (setM ks), .l (encS (sumsM s ks want))])
      (I := fun i a => a = ((s.things.take i).filter fun k => decide (k.sum ∈ ks) == want).map (·.sum)) (fun i a hi hI => ⟨a ++ (if (decide ((nth K0 s.things i).sum ∈ ks) == want) = true then [(nth K0 s.things i).sum] else []), by
        show Lqbw _ _ = Lqbw _ _
        have hl : a.length ≤ i := by
          rw [hI, List.length_map]
          have := List.length_filter_le (fun k : Kept => decide (k.sum ∈ ks) == want) (s.things.take i)
          rw [List.length_take] at this; omega
        rw [eqbw_3, mostE]
        cases hm : decide ((nth K0 s.things i).sum ∈ ks) == want
        · rw [if_neg (by simp), List.append_nil]; simp (disch := omega) only [push_cast, inM, hm]
        · rw [if_pos rfl, ← zi]; simp (disch := omega) only [push_cast, inM, hm] <;> rfl, by
        show a ++ _ = _
        rw [zz K0 hi, List.filter_append, List.map_append, ← hI]
        congr 1
        rw [List.filter_cons, List.filter_nil]
        split <;> rfl⟩) (fun a hI => by
        show Lqbw _ _ = _
        rw [eqbw_3]
        simp (disch := omega) only [push_cast]
        rw [hI, List.take_length]; rfl) 0 [] (Nat.zero_le _) rfl
  simp (disch := omega) only [push_cast]
  exact lp
theorem zob {s : State} (V : VS s) : Lqdo none [.i s.width, .i s.now, .i s.given, .i s.births, .l (encK s.things), .l (encP s.pins), .l (encL s.leases)] = some [.l (encS ((s.things.filter fun k => !decide (Liv s k.sum)).map (·.sum)))] := by
  have n1 := V.nT
  have hv := zla s V.names
  unfold encSt at hv
  rw [decide_eq_true V] at hv
  obtain ⟨ks, e, _, h2⟩ := zm1 V
  have hs := zi6 (s := s) (by omega) ks false
  rw [eqdo_i]
  simp (disch := omega) only [push_cast, hv, e, hs]
  congr 4
  unfold sumsM
  congr 1
  apply List.filter_congr
  intro k hk
  by_cases h : k.sum ∈ ks
  · rw [decide_eq_true h, decide_eq_true ((h2 _).1 h)]; rfl
  · rw [decide_eq_false h, decide_eq_false (fun h3 => h ((h2 _).2 h3))]; rfl
end KV
end
section
namespace KV
open Go Go.Eng
open Classical
noncomputable def zhv (s : State) (live : List Bs) : List Bs := (s.things.filter fun k => !decide (k.sum ∈ live)).map (·.sum)
theorem zh2 (m : List Bs) : ∀ l l' : List Kept, sumU m (l ++ l') = sumU m l + sumU m l'
  | [], l' => by simp [sumU]
  | k :: l, l' => by
    have := zh2 m l l'
    simp only [List.cons_append, sumU]; omega
theorem zlc {s : State} (V : VS s) : Lqca none (encSt s) = some [.i (3 * (whole s : Int) - 3)] := by
  have n1 := V.nT; have n2 := V.nP; have n3 := V.nL
  have hU := zco [] s.things V.rl
  unfold encSt
  rw [eqca_i]
  have lp := zt (f := fun (i : Nat) (a : Nat) => Lqca (some 3) [.i (a : Int), .i (i : Int), .i s.width, .i s.now, .i s.given, .i s.births, .l (encK s.things), .l (encP s.pins), .l (encL s.leases)]) (n := s.things.length) (T := some [.i (3 * (whole s : Int) - 3)])
    (I := fun i a => a = s.things.length + s.pins.length + s.leases.length + sumU [] (s.things.take i)) (fun i a hi hI => ⟨a + (nth K0 s.things i).thing.refs.length, by
      show Lqca _ _ = Lqca _ _
      have h1 := V.rl _ (zb (d := K0) hi)
      have h2 := zco [] (s.things.take i) fun k hk => V.rl k (List.mem_of_mem_take hk)
      rw [List.length_take] at h2
      rw [eqca_3]
      simp (disch := omega) only [push_cast], by
      show a + _ = _
      rw [zz K0 hi, zh2, hI]
      simp only [sumU]
      rw [if_neg (by simp)]; omega⟩) (fun a hI => by
      show Lqca _ _ = _
      rw [List.take_length] at hI
      rw [eqca_3]
      simp (disch := omega) only [push_cast]
      unfold whole
      congr 3
      omega) 0 (s.things.length + s.pins.length + s.leases.length) (Nat.zero_le _) (by simp [sumU])
  simp (disch := omega) only [push_cast]
  have e : ((s.things.length : Int) + (s.pins.length : Int) + (s.leases.length : Int)) = ((s.things.length + s.pins.length + s.leases.length : Nat) : Int) := by omega
  rw [e]
  exact lp
theorem zno {s now : State} (V : VS s) (V' : VS now) (U : UK s now) {live : List Bs} (hl : live.Nodup) (hm : ∀ x, x ∈ live ↔ Liv s x) (hall : ∀ k ∈ now.things, Liv now k.sum) : now.things.length = live.length ∧ (zhv s live).length + live.length = s.things.length := by
  have sumsNd : ∀ T : List Kept, SrtK T → (T.map (·.sum)).Nodup := fun T h => by
    rw [List.Nodup, List.pairwise_map]
    exact h.imp fun {a b} hab e => by rw [e, zcf] at hab; cases hab
  have a1 := zdd (now.things.map (·.sum)) live (sumsNd _ V'.srtT) fun x hx => by
    obtain ⟨k, hk, rfl⟩ := List.mem_map.1 hx
    exact (hm _).2 ((U.liv _).1 (hall k hk))
  have a2 := zdd live (now.things.map (·.sum)) hl fun x hx => by
    obtain ⟨k, hk, rfl⟩ := zed V' ((U.liv x).2 ((hm x).1 hx))
    exact List.mem_map.2 ⟨k, hk, rfl⟩
  rw [List.length_map] at a1 a2
  have p := zfr (fun k : Kept => decide (k.sum ∈ live)) s.things
  have b1 := zdd ((s.things.filter fun k => decide (k.sum ∈ live)).map (·.sum)) live (sumsNd _ (V.srtT.sublist List.filter_sublist)) fun x hx => by
    obtain ⟨k, hk, rfl⟩ := List.mem_map.1 hx
    exact of_decide_eq_true (List.mem_filter.1 hk).2
  have b2 := zdd live ((s.things.filter fun k => decide (k.sum ∈ live)).map (·.sum)) hl fun x hx => by
    obtain ⟨k, hk, rfl⟩ := zed V ((hm x).1 hx)
    exact List.mem_map.2 ⟨k, List.mem_filter.2 ⟨hk, decide_eq_true hx⟩, rfl⟩
  rw [List.length_map] at b1 b2
  unfold zhv
  rw [List.length_map]
  exact ⟨by omega, by omega⟩
end KV
end
section
namespace KV
open Go Go.Eng
open Classical
theorem zi2 {v : Vault} (V : VV v) {k : Kept} (hk : k ∈ v.st.things) : zdt v k.sum = some k.thing := by
  have hT : hasT v.st.things k.sum := ⟨k, hk, rfl⟩
  have hi := (z9 V.vs.1.srtT _).1 hT
  unfold zdt
  rw [if_pos ⟨V, hT⟩, zd0 V.vs.1 (zb (d := K0) hi.1) hk hi.2]
end KV
end
section
namespace KV
open Go Go.Eng
open Classical
theorem zkp {v : Vault} (h : CLV v) (n : Nat) (hn : n ≤ 10000) (hr : ∀ j, j < n → (itV j v).rd.rounds < 1000000000) : ∃ d, Lqbs none [.i v.width, .i v.limit, .l (encS v.safe), .l (encS v.loose), .i v.st.width, .i v.st.now, .i v.st.given, .i v.st.births, .l (encK v.st.things), .l (encP v.st.pins), .l (encL v.st.leases), .i v.rd.phase, .l (encS v.rd.queue), .l (encS v.rd.marked), .i v.rd.top, .i v.rd.at_, .i v.rd.rounds, .i (n : Int)] = some (zc7 (some (itV n v, d, n))) := by
  obtain ⟨d, e⟩ := zgy n v [] 0 h hr
  have := ziy h.vv.small h.vv.cut (n : Int)
  rw [if_pos ⟨h.vv, by omega, by omega⟩, zce, e, Nat.zero_add] at this
  exact ⟨d, this⟩
theorem zmf {l : List Bs} (h : Asc l) : l.Nodup := h.imp fun {a b} hab e => by rw [e, zcf] at hab; cases hab
theorem zi8 {v : Vault} (V : VV v) {live : List Bs} (hll : live.length ≤ 600) (hl : ∀ x ∈ live, hasT v.st.things x) (hall : ∀ k ∈ v.st.things, Liv v.st k.sum) :
    Lqbm (some 23) [.i 0, .l (encS live), .i v.width, .i v.limit, .l (encS v.safe), .l (encS v.loose), .i v.st.width, .i v.st.now, .i v.st.given, .i v.st.births, .l (encK v.st.things), .l (encP v.st.pins), .l (encL v.st.leases), .i v.rd.phase, .l (encS v.rd.queue), .l (encS v.rd.marked), .i v.rd.top, .i v.rd.at_, .i v.rd.rounds] = some [.b true] := by
  refine zt (f := fun (i : Nat) (u : Unit) => Lqbm (some 23) [.i (i : Int), .l (encS live), .i v.width, .i v.limit, .l (encS v.safe), .l (encS v.loose), .i v.st.width, .i v.st.now, .i v.st.given, .i v.st.births, .l (encK v.st.things), .l (encP v.st.pins), .l (encL v.st.leases), .i v.rd.phase, .l (encS v.rd.queue), .l (encS v.rd.marked), .i v.rd.top, .i v.rd.at_, .i v.rd.rounds]) (I := fun _ _ => True) (n := live.length) (fun i u hi _ => ⟨u, ?_, trivial⟩) (fun u _ => ?_) 0 () (Nat.zero_le _) trivial
  · show Lqbm _ _ = Lqbm _ _
    obtain ⟨k, hk, hks⟩ := hl _ (zb (d := .empty) hi)
    have hf : Lqcu none [.i v.width, .i v.limit, .l (encS v.safe), .l (encS v.loose), .i v.st.width, .i v.st.now, .i v.st.given, .i v.st.births, .l (encK v.st.things), .l (encP v.st.pins), .l (encL v.st.leases), .i v.rd.phase, .l (encS v.rd.queue), .l (encS v.rd.marked), .i v.rd.top, .i v.rd.at_, .i v.rd.rounds, .s (nth .empty live i)] = some (encOT (zdt v (nth .empty live i))) := zjn V.small V.cut _
    rw [← hks, zi2 V hk] at hf
    rw [hks] at hf
    have hf' : Lqcu none [.i v.width, .i v.limit, .l (encS v.safe), .l (encS v.loose), .i v.st.width, .i v.st.now, .i v.st.given, .i v.st.births, .l (encK v.st.things), .l (encP v.st.pins), .l (encL v.st.leases), .i v.rd.phase, .l (encS v.rd.queue), .l (encS v.rd.marked), .i v.rd.top, .i v.rd.at_, .i v.rd.rounds, .s (nth .empty live i)] = some [.s k.thing.text, .b true, .l (encS k.thing.refs)] := hf
    rw [eqbm_23]
    simp (disch := omega) only [push_cast, hf']
  · show Lqbm _ _ = _
    have hw := zob V.vs.1
    have h0 : v.st.things.filter (fun k => !decide (Liv v.st k.sum)) = [] := by
      rw [List.filter_eq_nil_iff]
      intro k hk
      simp [hall k hk]
    rw [h0] at hw
    rw [eqbm_23]
    simp (disch := omega) only [push_cast, hw, List.map_nil]
theorem zn1 {v : Vault} (h : CLV v) (B : Nat) (hB : B ≤ 1000000) {live : List Bs} (hln : live.Nodup) (hll : live.length ≤ 600) (hlm : ∀ x, x ∈ live ↔ Liv v.st x) (N : Nat) (hN : N ≤ B) (hr : v.rd.rounds ≤ 999999995) (h1 : ∀ j, j < N → (itV j v).rd.rounds < v.rd.rounds + 2) (h2 : (itV N v).rd.rounds = v.rd.rounds + 2) (h3 : ∀ k ∈ (itV N v).st.things, Liv (itV N v).st k.sum) :
    ∀ m k, N - k = m → k ≤ N → Lqbm (some 14) [.i (B : Int), .i (k : Int), .i v.width, .i v.limit, .l (encS v.safe), .l (encS v.loose), .i v.st.width, .i v.st.now, .i v.st.given, .i v.st.births, .l (encK v.st.things), .l (encP v.st.pins), .l (encL v.st.leases), .i v.rd.phase, .l (encS v.rd.queue), .l (encS v.rd.marked), .i v.rd.top, .i v.rd.at_, .i v.rd.rounds, .l (encS live), .i (itV k v).width, .i (itV k v).limit, .l (encS (itV k v).safe), .l (encS (itV k v).loose), .i (itV k v).st.width, .i (itV k v).st.now, .i (itV k v).st.given, .i (itV k v).st.births, .l (encK (itV k v).st.things), .l (encP (itV k v).st.pins), .l (encL (itV k v).st.leases), .i (itV k v).rd.phase, .l (encS (itV k v).rd.queue), .l (encS (itV k v).rd.marked), .i (itV k v).rd.top, .i (itV k v).rd.at_, .i (itV k v).rd.rounds] = some [.b true] := by
  have hrd := h.vv.rd.rds
  have hrl : ∀ j, j < N → (itV j v).rd.rounds < 1000000000 := fun j hj => by have := h1 j hj; omega
  intro m
  induction m with
  | zero =>
    intro k hm hk
    obtain rfl : k = N := by omega
    obtain ⟨c1, _, _, _⟩ := zeq k v h hrl
    have uk := it_UK k h hrl
    have V' := c1.vv.vs.1
    have hlen := zno h.vv.vs.1 V' uk hln hlm h3
    have := zi8 c1.vv hll (fun x hx => zed V' ((uk.liv x).2 ((hlm x).1 hx))) h3
    rw [h2] at this
    rw [eqbm_14]
    by_cases hkB : k < B
    · simp (disch := omega) only [push_cast, h2, hlen.1]
      exact this
    · simp (disch := omega) only [push_cast, h2, hlen.1]
      exact this
  | succ m ih =>
    intro k hm hk
    obtain ⟨c1, _, _, _⟩ := zeq k v h fun j hj => hrl j (by omega)
    have hlt := h1 k (by omega)
    have hlt2 := hrl k (by omega)
    obtain ⟨d, e⟩ := zkp c1 1 (by omega) (fun j hj => by
      obtain rfl : j = 0 := by omega
      exact hlt2)
    have e1 : itV 1 (itV k v) = itV (k + 1) v := by rw [itV_S k v]; rfl
    rw [e1] at e
    have := ih (k + 1) (by omega) (by omega)
    rw [show ((k + 1 : Nat) : Int) = (k : Int) + 1 by omega] at this
    have e' : Lqbs none [.i (itV k v).width, .i (itV k v).limit, .l (encS (itV k v).safe), .l (encS (itV k v).loose), .i (itV k v).st.width, .i (itV k v).st.now, .i (itV k v).st.given, .i (itV k v).st.births, .l (encK (itV k v).st.things), .l (encP (itV k v).st.pins), .l (encL (itV k v).st.leases), .i (itV k v).rd.phase, .l (encS (itV k v).rd.queue), .l (encS (itV k v).rd.marked), .i (itV k v).rd.top, .i (itV k v).rd.at_, .i (itV k v).rd.rounds, .i 1] = _ := e
    unfold zc7 at e'
    simp only at e'
    rw [eqbm_14]
    simp (disch := omega) only [push_cast, e']
    exact this
theorem zld {c : Rw} (hc : ∀ i, 0 ≤ (rd c i 0).int ∧ (rd c i 0).int ≤ 255) : Lqbm none [.l c] = some [.b true] := by
  rw [eqbm_i]
  by_cases hl : (1048576 : Int) < (c.length : Int)
  · simp (disch := omega) only [push_cast]
  obtain ⟨v, k, e, hA⟩ := zja hc
  have hs := hA.small
  unfold encV at e
  simp only [List.cons_append, List.nil_append] at e
  have SV : Lqbl none [.i v.width, .i v.limit, .l (encS v.safe), .l (encS v.loose), .i v.st.width, .i v.st.now, .i v.st.given, .i v.st.births, .l (encK v.st.things), .l (encP v.st.pins), .l (encL v.st.leases), .i v.rd.phase, .l (encS v.rd.queue), .l (encS v.rd.marked), .i v.rd.top, .i v.rd.at_, .i v.rd.rounds] = some [.b (decide (VV v))] := zdj hs
  by_cases V : VV v
  rotate_left
  · have C : Lqbs none [.i v.width, .i v.limit, .l (encS v.safe), .l (encS v.loose), .i v.st.width, .i v.st.now, .i v.st.given, .i v.st.births, .l (encK v.st.things), .l (encP v.st.pins), .l (encL v.st.leases), .i v.rd.phase, .l (encS v.rd.queue), .l (encS v.rd.marked), .i v.rd.top, .i v.rd.at_, .i v.rd.rounds, .i 5] = some (zc7 (if VV v ∧ 0 ≤ (5 : Int) ∧ (5 : Int) ≤ 10000 then clrI (5 : Int).toNat v [] 0 else none)) := ziy hs hA.cut 5
    rw [if_neg fun h => V h.1] at C
    unfold zc7 at C
    rw [decide_eq_false V] at SV
    simp (disch := omega) only [push_cast, e, SV, C]
  rw [decide_eq_true V] at SV
  have Vs := V.vs.1
  have n1 := Vs.nT; have n2 := Vs.nP; have n3 := Vs.nL
  have hq := V.rd.nQ; have hm := V.rd.nM; have hln := V.log.n; have hrd := V.rd.rds
  obtain ⟨live, le, la, lm, lll, lh⟩ := zli Vs
  have hU := zlc Vs
  unfold encSt at le hU
  have hsu := zco [] v.st.things Vs.rl
  by_cases c1 : v.rd.marked.length + v.st.things.length ≤ 600
  rotate_left
  · simp (disch := omega) only [push_cast, e, SV]
  by_cases c2 : v.rd.queue.length + 30 * v.st.things.length ≤ 19200
  rotate_left
  · simp (disch := omega) only [push_cast, e, SV]
  by_cases c3 : v.rd.rounds ≤ 999999995
  rotate_left
  · simp (disch := omega) only [push_cast, e, SV]
  by_cases c4 : v.safe.length + v.loose.length + v.st.things.length ≤ 4000
  rotate_left
  · simp (disch := omega) only [push_cast, e, SV]
  have hcl : CLV v := by
    refine ⟨V, ?_, fun _ => ?_, c4⟩
    · have : junk v.st v.rd ≤ v.rd.marked.length := List.length_filter_le _ _
      omega
    · have := zco v.rd.marked v.st.things Vs.rl
      omega
  obtain ⟨N, t1, t2, t3, t4⟩ := zl9 hcl (by omega)
  have hw1 : 2 ≤ whole v.st := by unfold whole; omega
  have hw2 : whole v.st ≤ 20000 := by unfold whole; omega
  obtain ⟨B, hB⟩ : ∃ B : Nat, 3 * (3 * (whole v.st : Int) - 3) + (v.rd.queue.length : Int) = (B : Int) := ⟨9 * whole v.st - 9 + v.rd.queue.length, by omega⟩
  have := zn1 hcl B (by omega) (zmf la) lll lm N (by omega) c3 t2 t3 t4 N 0 (by omega) (Nat.zero_le _)
  have this' : Lqbm (some 14) [.i (B : Int), .i 0, .i v.width, .i v.limit, .l (encS v.safe), .l (encS v.loose), .i v.st.width, .i v.st.now, .i v.st.given, .i v.st.births, .l (encK v.st.things), .l (encP v.st.pins), .l (encL v.st.leases), .i v.rd.phase, .l (encS v.rd.queue), .l (encS v.rd.marked), .i v.rd.top, .i v.rd.at_, .i v.rd.rounds, .l (encS live), .i v.width, .i v.limit, .l (encS v.safe), .l (encS v.loose), .i v.st.width, .i v.st.now, .i v.st.given, .i v.st.births, .l (encK v.st.things), .l (encP v.st.pins), .l (encL v.st.leases), .i v.rd.phase, .l (encS v.rd.queue), .l (encS v.rd.marked), .i v.rd.top, .i v.rd.at_, .i v.rd.rounds] = some [.b true] := this
  rw [← hB] at this'
  simp (disch := omega) only [push_cast, e, SV, le, hU]
  exact this'
end KV
end
