/- Plain laws over the walks' closed forms. -/
import Derived.Test.YtbgmclgeikflaaaGreatM1
import Derived.Test.YtbgmclgeikflaaaGreatM2
import Derived.Test.YtbgmclgeikflaaaGreatM3
import Derived.Test.YtbgmclgeikflaaaGreatM4
import Derived.Test.YtbgmclgeikflaaaGreatM5
import Derived.Test.YtbgmclgeikflaaaGreatM6
set_option linter.unusedSimpArgs false
set_option linter.unusedVariables false
set_option linter.unusedSectionVars false
section
namespace KV
open Go Go.Eng
open Classical
def TX (w : Int) (l : List Bs) : Prop := ∀ n s, runL w (empty w) (l.take n) 0 = .inl s → ∀ k ∈ s.things, k.thing.text.size ≤ 20
theorem TX.snoc {w : Int} {l : List Bs} {x : Bs} {s' : State} (h : TX w l) (hr : runL w (empty w) (l ++ [x]) 0 = .inl s') (hs : ∀ k ∈ s'.things, k.thing.text.size ≤ 20) : TX w (l ++ [x]) := by
  intro n s hn
  rcases Nat.lt_or_ge l.length n with h1 | h1
  · rw [List.take_of_length_le (by rw [List.length_append]; simp; omega), hr] at hn
    cases hn; exact hs
  · rw [List.take_append_of_le_length h1] at hn
    exact h n s hn
theorem TX.nil (w : Int) : TX w [] := fun n s hn k hk => by
  rw [List.take_nil] at hn
  simp only [runL] at hn
  cases hn; cases hk
theorem TX.stx {v : Vault} (V : VV v) (h : TX v.width (v.safe ++ v.loose)) : ∀ k ∈ v.st.things, k.thing.text.size ≤ 20 := h (v.safe ++ v.loose).length v.st (by rw [List.take_length]; exact V.run)
theorem TX.stepx {v : Vault} (V : VV v) (h : TX v.width (v.safe ++ v.loose)) (hr : v.rd.rounds < 1000000000) (hl : (unitM v.st v.rd).2 = E0 ∨ v.safe.length + v.loose.length < 4000) : TX v.width ((stepV v).safe ++ (stepV v).loose) := by
  have hs := (zcw V hr hl).run
  have hsub : ∀ k ∈ (stepV v).st.things, k ∈ v.st.things := fun k hk => (UK.step V.vs.1 v.rd).sub.subset hk
  by_cases hd : (unitM v.st v.rd).2 = E0
  · have : (stepV v).loose = v.loose := if_pos hd
    rw [this]; exact h
  · have : (stepV v).loose = v.loose ++ [formE (eDrop (unitM v.st v.rd).2)] := if_neg hd
    rw [this] at hs ⊢
    have e : (stepV v).safe = v.safe := rfl
    have e2 : (stepV v).width = v.width := rfl
    rw [e, e2] at hs
    rw [e]
    rw [← List.append_assoc] at hs ⊢
    exact h.snoc hs fun k hk => TX.stx V h k (hsub k hk)
theorem zjj : ∀ (n : Nat) (v : Vault) (d : List Bs) (u : Nat) (r : Vault × List Bs × Nat), VV v → TX v.width (v.safe ++ v.loose) → clrS n v d u = some r → TX r.1.width (r.1.safe ++ r.1.loose)
  | 0, v, d, u, r, V, h, e => by simp only [clrS] at e; cases e; exact h
  | n + 1, v, d, u, r, V, h, e => by
    simp only [clrS] at e
    split at e
    · cases e
    · rename_i hc
      have hlog := V.log.n
      split at e
      · cases e; exact h
      · rename_i hd
        have hl : (unitM v.st v.rd).2 = E0 ∨ v.safe.length + v.loose.length < 4000 := by
          by_cases h0 : (unitM v.st v.rd).2 = E0
          · exact .inl h0
          · exact .inr (by have : ¬ 4000 ≤ v.safe.length + v.loose.length := fun h => hd ⟨h0, h⟩; omega)
        have hs := zcw V (by omega) hl
        exact zjj n _ _ _ _ (hs.vv (hs.rd (by show (unitM v.st v.rd).1.queue.length ≤ 23200; omega) (by show (unitM v.st v.rd).1.marked.length ≤ 600; omega))) (TX.stepx V h (by omega) hl) e
theorem Led.tx {v : Vault} (h : Led v) : TX v.width (v.safe ++ v.loose) := by
  induction h with
  | new v ha hb => rw [ha, hb]; exact TX.nil _
  | act v v' h g a ih =>
    cases a with
    | did e hk ht =>
      by_cases hc : (doS v e).code = 0
      · rw [if_pos hc]
        obtain ⟨V, he, hcc, VV'⟩ := zem hc
        have hv := doE_v hc
        have hr := VV'.run
        unfold doS at hr ⊢
        rw [hv] at hr ⊢
        simp only at hr ⊢
        rw [← List.append_assoc] at hr ⊢
        refine ih.snoc hr fun k hk2 => ?_
        rcases zoq hk hcc hk2 with h1 | ⟨_, h1, _⟩
        · exact TX.stx V ih k h1
        · rw [h1]; omega
      · rw [if_neg hc]; exact ih
    | flush =>
      unfold zca
      split
      · show TX v.width ((v.safe ++ v.loose) ++ []); rw [List.append_nil]; exact ih
      · exact TX.nil _
    | lose k =>
      by_cases V : VV v
      · obtain ⟨s, _, e⟩ := zp8 V k
        rw [e]
        show TX v.width ((v.safe ++ v.loose.take k.toNat) ++ [])
        rw [List.append_nil]
        intro n s hn
        have : (v.safe ++ v.loose.take k.toNat).take n = (v.safe ++ v.loose).take (min n (v.safe.length + k.toNat)) := by
          rw [← List.take_take]
          congr 1
          rw [List.take_append]
          congr 1
          · rw [List.take_of_length_le (by omega)]
          · congr 1; omega
        rw [this] at hn
        exact ih _ s hn
      · unfold loseM; rw [if_neg V]; exact TX.nil _
    | clear n v' d u V h2 => exact zjj n v [] 0 _ V ih h2
    | none => exact TX.nil _
structure AV (v : Vault) : Prop where
  bs : BS v.st
  br : BR v.rd
  ns : v.safe.length + v.loose.length ≤ 4010
  sz : ∀ x ∈ v.safe ++ v.loose, x.size ≤ 5000
  ints : (-1 ≤ v.width ∧ v.width ≤ 10) ∧ (-1 ≤ v.limit ∧ v.limit ≤ 1000001)
  cut : CutV v
  tx : VV v → v.safe.length + v.loose.length ≤ 1000 → ∀ k ∈ v.st.things, k.thing.text.size ≤ 20
theorem AV.small {v : Vault} (h : AV v) : SmallV v := by
  have h1 := h.ns; have h2 := h.br.q; have h3 := h.br.m; have h4 := h.bs.nT
  exact ⟨⟨by omega, fun x hx => by have := h.sz x (List.mem_append.2 (.inl hx)); omega⟩, ⟨by omega, fun x hx => by have := h.sz x (List.mem_append.2 (.inr hx)); omega⟩, by omega, h.bs.small, by omega, by omega, by omega⟩
theorem zrb {w : Int} {l : List Bs} {s : State} (h : runL w (empty w) l 0 = .inl s) : ∃ a : Nat, ∀ k ∈ s.things, ∀ r ∈ k.thing.refs, r.size = a := by
  by_cases hw : zj w = true
  · have W := zcq _ _ _ _ (zcj (zz.1 hw)) rfl h
    exact ⟨_, W.1.uni⟩
  · cases l with
    | nil => simp only [runL] at h; cases h; exact ⟨0, fun k hk => nomatch hk⟩
    | cons x l =>
      simp only [runL] at h
      rw [zhp (by simpa using hw)] at h
      cases h
theorem GS.uni {s : State} (h : GS s) : ∃ a : Nat, ∀ k ∈ s.things, ∀ r ∈ k.thing.refs, r.size = a := by
  rcases h with h | rfl
  · exact ⟨_, h.uni⟩
  · exact ⟨0, fun k hk => nomatch hk⟩
theorem GS.cutV {v : Vault} (h : GS v.st) : CutV v := fun s hs => by
  obtain ⟨a, ha⟩ := zrb hs
  obtain ⟨b, hb⟩ := h.uni
  exact Cut.uni ha hb
theorem FU.av {v : Vault} (h : FU v) : AV v := by
  refine ⟨h.gs.bs, h.br, h.ns, h.sz, h.ints, h.gs.cutV, fun V hn => ?_⟩
  rcases h.big with e | e
  · have := V.wd
    rw [e, zz] at this
    exact absurd this.1 (by show ¬ (1 : Int) ≤ 0; omega)
  · omega
theorem GL.av {v v' : Vault} (h : GL v) (hg : BS v'.st) (hc : CutV v') (hb : BR v'.rd) (ha : v'.safe.length + v'.loose.length ≤ 4010) (hz : ∀ x ∈ v'.safe ++ v'.loose, x.size ≤ 5000) (hi : (-1 ≤ v'.width ∧ v'.width ≤ 10) ∧ (-1 ≤ v'.limit ∧ v'.limit ≤ 1000001))
    (ht : VV v' → VV v → v'.st.things = v.st.things) (h0 : v = V0 → VV v' → False) : AV v' := by
  refine ⟨hg, hb, ha, hz, hi, hc, fun V hn k hk => ?_⟩
  rcases h.1 with h1 | h1
  · rw [ht V h1] at hk
    exact TX.stx h1 h.2.tx k hk
  · exact (h0 h1 V).elim
theorem not_w {v : Vault} (h : v.width = 0) : ¬ VV v := fun V => by have := V.wd; rw [h, zz] at this; omega
theorem zuf {v : Vault} (h : v.st.width = 0) : ¬ VV v := fun V => by have := V.vs.1.wd; rw [h] at this; omega
def anV (v : Vault) (b : Rw) (p : Int) : Lv := encV v ++ [.l b, .i p]
def li2 : Rw := [[.i (-1)], [.i 1000001]]
theorem zpf (n : Nat) (h : n < 2) : -1 ≤ (rd li2 n 0).int ∧ (rd li2 n 0).int ≤ 1000001 := by
  match n, h with
  | 0, _ => exact ⟨by show (-1 : Int) ≤ -1; omega, by show (-1 : Int) ≤ 1000001; omega⟩
  | 1, _ => exact ⟨by show (-1 : Int) ≤ 1000001; omega, by show (1000001 : Int) ≤ 1000001; omega⟩
set_option maxHeartbeats 4000000 in
theorem zu8 {b : Rw} (hb : RB b) (p : Int) (hp : 0 ≤ p ∧ p ≤ 800000000) : ∃ (v : Vault) (p' : Int), Lqdk none [.l b, .i p] = some (anV v b p') ∧ p ≤ p' ∧ p' ≤ p + 1000 ∧ AV v := by
  obtain ⟨x, ex, rx, sx⟩ := zk hb 24 (by omega) p (by omega)
  rw [eqdk_i, ex, mostE]
  unfold anV encV
  by_cases c : x = 0
  · obtain ⟨v, p', e, h1, h2, h3⟩ := zq9 hb (p + 1) (by omega)
    refine ⟨v, p', ?_, by omega, by omega, h3.av⟩
    unfold fuO at e
    simp (disch := omega) only [push_cast, e]; rfl
  obtain ⟨v, p1, e1, h1, h2, hg⟩ := zse hb (p + 1) (by omega)
  have hgs := hg.1.gs
  have hlog := hg.1.logx
  have hir := hg.1.ir
  have hints : (0 ≤ v.width ∧ v.width ≤ 8) ∧ (0 ≤ v.limit ∧ v.limit ≤ 1000000) := by
    rcases hg.1 with h | rfl
    · have := zz.1 h.wd; have := h.lim; omega
    · unfold V0; simp
  unfold vA vB at e1
  simp only [List.cons_append, List.nil_append] at e1
  obtain ⟨y, ey, ry, sy⟩ := zk hb 8 (by omega) p1 (by omega)
  by_cases c1 : 0 < y
  · refine ⟨v, p1 + 1, ?_, by omega, by omega, hg.av hgs.bs hgs.cutV hir.br (by omega) hlog.2 (by omega) (fun _ _ => rfl) (fun h V => not_w (by rw [h]; rfl) V)⟩
    simp (disch := omega) only [push_cast, e1, ey]; rfl
  obtain ⟨z, ez, rz, sz⟩ := zk hb 6 (by omega) (p1 + 1) (by omega)
  by_cases d0 : z = 0
  · obtain ⟨s', p', e, h3, h4, h5, h6⟩ := zss hb hgs (p1 + 1 + 1) (by omega)
    have e' : Lqdh none [.i v.st.width, .i v.st.now, .i v.st.given, .i v.st.births, .l (encK v.st.things), .l (encP v.st.pins), .l (encL v.st.leases), .l b, .i (p1 + 1 + 1)] = _ := e
    unfold spO at e'
    refine ⟨{ v with st := s' }, p', ?_, by omega, by omega, hg.av (v' := { v with st := s' }) h5 ?_ hir.br (by simp only; omega) hlog.2 (by simp only; omega) (fun V' V => ?_) (fun h V => not_w (by rw [h]; rfl) V)⟩
    · simp (disch := omega) only [push_cast, e1, ey, ez, e']; rfl
    · intro s hs
      rcases hg.1 with V | rfl
      · have : v.st = s := by have := V.run; rw [hs] at this; cases this; rfl
        rw [← this]; exact h6 V.vs.1
      · have hs : runL 0 (empty 0) [] 0 = .inl s := hs
        simp only [runL] at hs
        cases hs
        exact fun i hi => absurd hi (Nat.not_lt_zero _)
    · have h7 := V'.run
      have h8 := V.run
      have h7' : runL v.width (empty v.width) (v.safe ++ v.loose) 0 = .inl s' := h7
      rw [h8] at h7'
      cases h7'; rfl
  by_cases d5 : z = 5
  · obtain ⟨u, eu, ru, su⟩ := zk hb 3 (by omega) (p1 + 1 + 1) (by omega)
    refine ⟨{ v with rd := { v.rd with rounds := 1000000000 - u } }, p1 + 1 + 1 + 1, ?_, by omega, by omega, hg.av (v' := { v with rd := { v.rd with rounds := 1000000000 - u } }) hgs.bs (GS.cutV (v := { v with rd := { v.rd with rounds := 1000000000 - u } }) hgs) ⟨hir.br.q, hir.br.m, hir.br.ints.1, hir.br.ints.2.1, hir.br.ints.2.2.1, by simp only; omega⟩ (by simp only; omega) hlog.2 (by simp only; omega) (fun _ _ => rfl) (fun h V => not_w (by rw [h]; rfl) V)⟩
    simp (disch := omega) only [push_cast, e1, ey, ez, eu]; rfl
  by_cases d1 : z = 1
  · obtain ⟨r', p', e, h3, h4, h5⟩ := zqp hb v.st hgs.now.2.2.1 hir (p1 + 1 + 1) (by omega)
    have e' : Lq4 none [.i v.st.width, .i v.st.now, .i v.st.given, .i v.st.births, .l (encK v.st.things), .l (encP v.st.pins), .l (encL v.st.leases), .i v.rd.phase, .l (encS v.rd.queue), .l (encS v.rd.marked), .i v.rd.top, .i v.rd.at_, .i v.rd.rounds, .l b, .i (p1 + 1 + 1)] = _ := e
    unfold spR at e'
    refine ⟨{ v with rd := r' }, p', ?_, by omega, by omega, hg.av (v' := { v with rd := r' }) hgs.bs (GS.cutV (v := { v with rd := r' }) hgs) h5 (by simp only; omega) hlog.2 (by simp only; omega) (fun _ _ => rfl) (fun h V => not_w (by rw [h]; rfl) V)⟩
    simp (disch := omega) only [push_cast, e1, ey, ez, e']; rfl
  by_cases d2 : z = 2
  · obtain ⟨u, eu, ru, su⟩ := zk hb 2 (by omega) (p1 + 1 + 1) (by omega)
    have hr := zpf u.toNat (by omega)
    unfold li2 at hr
    refine ⟨{ v with limit := (rd ([[.i (-1)], [.i 1000001]] : Rw) u.toNat 0).int }, p1 + 1 + 1 + 1, ?_, by omega, by omega, hg.av (v' := { v with limit := (rd ([[.i (-1)], [.i 1000001]] : Rw) u.toNat 0).int }) hgs.bs (GS.cutV (v := { v with limit := (rd ([[.i (-1)], [.i 1000001]] : Rw) u.toNat 0).int }) hgs) hir.br (by simp only; omega) hlog.2 (by simp only; omega) (fun _ _ => rfl) (fun h V => not_w (by rw [h]; rfl) V)⟩
    simp (disch := omega) only [push_cast, e1, ey, ez, eu]; rfl
  by_cases d3 : z = 3
  · obtain ⟨u, eu, ru, su⟩ := zk hb 10 (by omega) (p1 + 1 + 1) (by omega)
    refine ⟨{ v with width := u }, p1 + 1 + 1 + 1, ?_, by omega, by omega, hg.av (v' := { v with width := u }) hgs.bs (GS.cutV (v := { v with width := u }) hgs) hir.br (by simp only; omega) hlog.2 (by simp only; omega) (fun _ _ => rfl) (fun h V => zuf (by rw [h]; rfl) V)⟩
    simp (disch := omega) only [push_cast, e1, ey, ez, eu]; rfl
  · have hfe := zdu ⟨6, E0, E0, 1, ⟨E0, []⟩⟩ 8 (Nat.zero_le _)
    have hfe' : Lqv none [.i 6, .s E0, .s E0, .i 1, .s E0, .l [], .i 8] = _ := hfe
    have hfz := zh4 ⟨6, E0, E0, 1, ⟨E0, []⟩⟩ 8
    obtain ⟨f, hf⟩ : ∃ f, (if zg ⟨6, E0, E0, 1, ⟨E0, []⟩⟩ 8 = true then formE ⟨6, E0, E0, 1, ⟨E0, []⟩⟩ else E0) = f := ⟨_, rfl⟩
    rw [hf] at hfe' hfz
    refine ⟨{ v with loose := v.loose ++ [f] }, p1 + 1 + 1, ?_, by omega, by omega, hg.av (v' := { v with loose := v.loose ++ [f] }) hgs.bs (GS.cutV (v := { v with loose := v.loose ++ [f] }) hgs) hir.br (by simp only [List.length_append, List.length_cons, List.length_nil]; omega) (fun x hx => ?_) (by simp only; omega) (fun _ _ => rfl) (fun h V => not_w (by rw [h]; rfl) V)⟩
    · simp (disch := omega) only [push_cast, e1, ey, ez, hfe']
      rw [z7, zn]; rfl
    · simp only [← List.append_assoc] at hx
      rcases List.mem_append.1 hx with h | h
      · exact hlog.2 x h
      · rw [List.mem_singleton] at h; rw [h]; exact hfz
end KV
end
section
namespace KV
open Go Go.Eng
open Classical
def ST (t : Thing) : Prop := t.refs.length ≤ 100 ∧ t.text.size ≤ 3000
def ho4 : Rw := [[.i 0], [.i (-1)], [.i 100000], [.i 100001]]
theorem zqy (n : Nat) (h : n < 4) : -1 ≤ (rd ho4 n 0).int ∧ (rd ho4 n 0).int ≤ 100001 := by
  match n, h with
  | 0, _ => exact ⟨by show (-1 : Int) ≤ 0; omega, by show (0 : Int) ≤ 100001; omega⟩
  | 1, _ => exact ⟨by show (-1 : Int) ≤ -1; omega, by show (-1 : Int) ≤ 100001; omega⟩
  | 2, _ => exact ⟨by show (-1 : Int) ≤ 100000; omega, by show (100000 : Int) ≤ 100001; omega⟩
  | 3, _ => exact ⟨by show (-1 : Int) ≤ 100001; omega, by show (100001 : Int) ≤ 100001; omega⟩
theorem zlt {b : Rw} (hb : RB b) (v : Vault) (a : Act) (ha : ActOk a) (t : Thing) (q : Int) (hq : 0 ≤ q ∧ q ≤ 900000000) : ∃ k : Int,
    Lqbx (some 9) [.i 0, .i 0, .i 0, .i 0, .i 0, .i 0, .i 0, .i 0, .i 0, .i 0, .s E0, .l b, .i q, .i v.width, .i v.limit, .l (encS v.safe), .l (encS v.loose), .i v.st.width, .i v.st.now, .i v.st.given, .i v.st.births, .l (encK v.st.things), .l (encP v.st.pins), .l (encL v.st.leases), .i v.rd.phase, .l (encS v.rd.queue), .l (encS v.rd.marked), .i v.rd.top, .i v.rd.at_, .i v.rd.rounds, .i a.kind, .s a.text, .i a.refs, .s a.name, .i a.pick, .i a.ticks, .s t.text, .l (encS t.refs), .l [], .l [], .l [], .l [], .l [], .l [], .l [], .l []] = some [.i v.width, .i v.limit, .l (encS v.safe), .l (encS v.loose), .i v.st.width, .i v.st.now, .i v.st.given, .i v.st.births, .l (encK v.st.things), .l (encP v.st.pins), .l (encL v.st.leases), .i v.rd.phase, .l (encS v.rd.queue), .l (encS v.rd.marked), .i v.rd.top, .i v.rd.at_, .i v.rd.rounds, .s t.text, .i k, .l (encS t.refs)] ∧ -1 ≤ k ∧ k ≤ 100001 := by
  obtain ⟨x, ex, rx, sx⟩ := zk hb 10 (by omega) q (by omega)
  have ht := ha.ticks
  rw [eqbx_9, ex]
  by_cases h0 : x = 0
  · obtain ⟨y, ey, ry, sy⟩ := zk hb 4 (by omega) (q + 1) (by omega)
    have hr := zqy y.toNat (by omega)
    refine ⟨(rd ho4 y.toNat 0).int, ?_, hr⟩
    unfold ho4
    simp (disch := omega) only [push_cast, ey]
  · refine ⟨a.ticks, ?_, by omega, by omega⟩
    simp (disch := omega) only [push_cast]
theorem zux {c : Rw} {b : Rw} (hop : Lqc8 none [.l c] = some [.l b, .i 0]) (hb : RB b) {v : Vault} {p : Int} (e : Lqdk none [.l b, .i 0] = some (anV v b p)) (hp : 0 ≤ p ∧ p ≤ 1000) (hA : AV v) :
    ∃ (t : Thing) (k : Int), Lqbx none [.l c] = some [.i v.width, .i v.limit, .l (encS v.safe), .l (encS v.loose), .i v.st.width, .i v.st.now, .i v.st.given, .i v.st.births, .l (encK v.st.things), .l (encP v.st.pins), .l (encL v.st.leases), .i v.rd.phase, .l (encS v.rd.queue), .l (encS v.rd.marked), .i v.rd.top, .i v.rd.at_, .i v.rd.rounds, .s t.text, .i k, .l (encS t.refs)] ∧ ST t ∧ -1 ≤ k ∧ k ≤ 100001 := by
  unfold anV encV at e
  simp only [List.cons_append, List.nil_append] at e
  have hn := hA.bs.nT
  obtain ⟨a, p1, ea, h1, h2, ha⟩ := znh hb p (by omega)
  obtain ⟨l, el, hl, _⟩ := zlp a v.st ha (by omega)
  have el' : Lqbn none [.i a.kind, .s a.text, .i a.refs, .s a.name, .i a.pick, .i a.ticks, .i v.st.width, .i v.st.now, .i v.st.given, .i v.st.births, .l (encK v.st.things), .l (encP v.st.pins), .l (encL v.st.leases)] = _ := el
  obtain ⟨x, ex, rx, sx⟩ := zk hb 8 (by omega) p1 (by omega)
  unfold encA at ea
  simp only [List.cons_append, List.nil_append] at ea
  have hat := ha.text
  have h4 : (⟨#[110, 111, 110, 101]⟩ : ByteArray).size = 4 := rfl
  have hsum := zbr ((⟨#[110, 111, 110, 101]⟩ : ByteArray) ++ a.text) v.width (by rw [z5, h4]; omega)
  rw [eqbx_i, hop, mostE]
  have go : ∀ (t : Thing) (q : Int), ST t → 0 ≤ q ∧ q ≤ 2000 → ∃ (t' : Thing) (k : Int), ST t' ∧ (-1 ≤ k ∧ k ≤ 100001) ∧ ∃ y : Int, Lqb none [.i 6, .l b, .i q] = some [.i y, .l b, .i (q + 1)] ∧ ((y = 0 ∧ zj v.width = true ∧
      Lqbx (some 9) [.i 0, .i 0, .i 0, .i 0, .i 0, .i 0, .i 0, .i 0, .i 0, .i 0, .s E0, .l b, .i (q + 1), .i v.width, .i v.limit, .l (encS v.safe), .l (encS v.loose), .i v.st.width, .i v.st.now, .i v.st.given, .i v.st.births, .l (encK v.st.things), .l (encP v.st.pins), .l (encL v.st.leases), .i v.rd.phase, .l (encS v.rd.queue), .l (encS v.rd.marked), .i v.rd.top, .i v.rd.at_, .i v.rd.rounds, .i a.kind, .s a.text, .i a.refs, .s a.name, .i a.pick, .i a.ticks, .s t.text, .l [[.s (sumM ((⟨#[110, 111, 110, 101]⟩ : ByteArray) ++ a.text) v.width)]], .l [], .l [], .l [], .l [], .l [], .l [], .l [], .l []] = some [.i v.width, .i v.limit, .l (encS v.safe), .l (encS v.loose), .i v.st.width, .i v.st.now, .i v.st.given, .i v.st.births, .l (encK v.st.things), .l (encP v.st.pins), .l (encL v.st.leases), .i v.rd.phase, .l (encS v.rd.queue), .l (encS v.rd.marked), .i v.rd.top, .i v.rd.at_, .i v.rd.rounds, .s t'.text, .i k, .l (encS t'.refs)]) ∨
      (¬ (y = 0 ∧ zj v.width = true) ∧ Lqbx (some 9) [.i 0, .i 0, .i 0, .i 0, .i 0, .i 0, .i 0, .i 0, .i 0, .i 0, .s E0, .l b, .i (q + 1), .i v.width, .i v.limit, .l (encS v.safe), .l (encS v.loose), .i v.st.width, .i v.st.now, .i v.st.given, .i v.st.births, .l (encK v.st.things), .l (encP v.st.pins), .l (encL v.st.leases), .i v.rd.phase, .l (encS v.rd.queue), .l (encS v.rd.marked), .i v.rd.top, .i v.rd.at_, .i v.rd.rounds, .i a.kind, .s a.text, .i a.refs, .s a.name, .i a.pick, .i a.ticks, .s t.text, .l (encS t.refs), .l [], .l [], .l [], .l [], .l [], .l [], .l [], .l []] = some [.i v.width, .i v.limit, .l (encS v.safe), .l (encS v.loose), .i v.st.width, .i v.st.now, .i v.st.given, .i v.st.births, .l (encK v.st.things), .l (encP v.st.pins), .l (encL v.st.leases), .i v.rd.phase, .l (encS v.rd.queue), .l (encS v.rd.marked), .i v.rd.top, .i v.rd.at_, .i v.rd.rounds, .s t'.text, .i k, .l (encS t'.refs)])) := by
    intro t q ht hq
    obtain ⟨y, ey, ry, sy⟩ := zk hb 6 (by omega) q (by omega)
    by_cases c0 : y = 0 ∧ zj v.width = true
    · obtain ⟨k, e1, h3, h4⟩ := zlt hb v a ha ⟨t.text, [sumM ((⟨#[110, 111, 110, 101]⟩ : ByteArray) ++ a.text) v.width]⟩ (q + 1) (by omega)
      exact ⟨⟨t.text, [sumM ((⟨#[110, 111, 110, 101]⟩ : ByteArray) ++ a.text) v.width]⟩, k, ⟨by simp, ht.2⟩, ⟨h3, h4⟩, y, ey, .inl ⟨c0.1, c0.2, e1⟩⟩
    · obtain ⟨k, e1, h3, h4⟩ := zlt hb v a ha t (q + 1) (by omega)
      exact ⟨t, k, ht, ⟨h3, h4⟩, y, ey, .inr ⟨c0, e1⟩⟩
  by_cases h0 : x = 0
  · obtain ⟨t, p', es, h5, h6, hs⟩ := zlw hb ⟨a.text, l⟩ ⟨by simp only; omega, by simp only; omega⟩ (p1 + 1) (by omega)
    have hst : ST t := by
      cases hs with
      | text h hs => exact ⟨by rw [h]; simp only; omega, by simp only at hs; omega⟩
      | more r h hr hs => exact ⟨by rw [hr, List.length_append]; simp only [List.length_cons, List.length_nil]; omega, by rw [h]; simp only; omega⟩
      | ones h hr hn => exact ⟨by omega, by rw [h]; simp only; omega⟩
    simp only at es
    obtain ⟨t', k, ht', hk, y, ey, hh⟩ := go t p' hst (by omega)
    refine ⟨t', k, ?_, ht', hk⟩
    rcases hh with ⟨y0, hw, e9⟩ | ⟨hn, e9⟩
    · simp (disch := omega) only [push_cast, e, ea, el', ex, es, ey, zq, hw, h4, hsum]
      exact e9
    · by_cases y0 : y = 0
      · have hw : zj v.width = false := by
          cases h : zj v.width
          · rfl
          · exact absurd ⟨y0, h⟩ hn
        simp (disch := omega) only [push_cast, e, ea, el', ex, es, ey, zq, hw]
        exact e9
      · simp (disch := omega) only [push_cast, e, ea, el', ex, es, ey]
        exact e9
  · obtain ⟨t', k, ht', hk, y, ey, hh⟩ := go ⟨a.text, l⟩ (p1 + 1) ⟨by simp only; omega, by simp only; omega⟩ (by omega)
    refine ⟨t', k, ?_, ht', hk⟩
    rcases hh with ⟨y0, hw, e9⟩ | ⟨hn, e9⟩
    · simp (disch := omega) only [push_cast, e, ea, el', ex, ey, zq, hw, h4, hsum]
      exact e9
    · by_cases y0 : y = 0
      · have hw : zj v.width = false := by
          cases h : zj v.width
          · rfl
          · exact absurd ⟨y0, h⟩ hn
        simp (disch := omega) only [push_cast, e, ea, el', ex, ey, zq, hw]
        exact e9
      · simp (disch := omega) only [push_cast, e, ea, el', ex, ey]
        exact e9
theorem zq3 {c : Rw} (hc : ∀ i, 0 ≤ (rd c i 0).int ∧ (rd c i 0).int ≤ 255) : ∃ (b : Rw) (v : Vault) (p : Int), Lqc8 none [.l c] = some [.l b, .i 0] ∧ RB b ∧ Lqdk none [.l b, .i 0] = some (anV v b p) ∧ (0 ≤ p ∧ p ≤ 1000) ∧ AV v := by
  obtain ⟨b, hop, hb⟩ := zq6 hc
  obtain ⟨v, p, e, h1, h2, hA⟩ := zu8 hb 0 (by omega)
  exact ⟨b, v, p, hop, hb, e, ⟨h1, by omega⟩, hA⟩
end KV
end
section
namespace KV
open Go Go.Eng
open Classical
theorem zjg (m : List Bs) : ∀ l l' : List Kept, sumU m (l ++ l') = sumU m l + sumU m l'
  | [], l' => by simp [sumU]
  | k :: l, l' => by
    have := zjg m l l'
    simp only [List.cons_append, sumU]; omega
theorem zva {s : State} (V : VS s) : Lqch none (encSt s) = some [.i (3 * (whole s : Int) - 3)] := by
  have n1 := V.nT; have n2 := V.nP; have n3 := V.nL
  have hU := zcb [] s.things V.rl
  unfold encSt
  rw [eqch_i]
  have lp := z6 (f := fun (i : Nat) (a : Nat) => Lqch (some 3) [.i (a : Int), .i (i : Int), .i s.width, .i s.now, .i s.given, .i s.births, .l (encK s.things), .l (encP s.pins), .l (encL s.leases)]) (n := s.things.length) (T := some [.i (3 * (whole s : Int) - 3)])
    (I := fun i a => a = s.things.length + s.pins.length + s.leases.length + sumU [] (s.things.take i)) (fun i a hi hI => ⟨a + (nth K0 s.things i).thing.refs.length, by
      show Lqch _ _ = Lqch _ _
      have h1 := V.rl _ (zi (d := K0) hi)
      have h2 := zcb [] (s.things.take i) fun k hk => V.rl k (List.mem_of_mem_take hk)
      rw [List.length_take] at h2
      rw [eqch_3]
      simp (disch := omega) only [push_cast], by
      show a + _ = _
      rw [zbb K0 hi, zjg, hI]
      simp only [sumU]
      rw [if_neg (by simp)]; omega⟩) (fun a hI => by
      show Lqch _ _ = _
      rw [List.take_length] at hI
      rw [eqch_3]
      simp (disch := omega) only [push_cast]
      unfold whole
      congr 3
      omega) 0 (s.things.length + s.pins.length + s.leases.length) (Nat.zero_le _) (by simp [sumU])
  simp (disch := omega) only [push_cast]
  have e : ((s.things.length : Int) + (s.pins.length : Int) + (s.leases.length : Int)) = ((s.things.length + s.pins.length + s.leases.length : Nat) : Int) := by omega
  rw [e]
  exact lp
end KV
end
section
namespace KV
open Go Go.Eng
open Classical
theorem zq2 {t u : Thing} {w : Int} (ht : ThingOk t w) (hu : ThingOk u w) (h : formM t = formM u) : t = u := by
  have h1 := zhm ht
  rw [h, zhm hu] at h1
  cases h1; rfl
theorem zsh {v : Vault} (V : VV v) {k : Kept} (hk : k ∈ v.st.things) : zdf v k.sum = some k.thing := by
  have hT : hasT v.st.things k.sum := ⟨k, hk, rfl⟩
  have hi := (zbk V.vs.1.srtT _).1 hT
  unfold zdf
  rw [if_pos ⟨V, hT⟩, ze7 V.vs.1 (zi (d := K0) hi.1) hk hi.2]
theorem zqn {v : Vault} {e : Entry} {sh : Bool} (h : (doE v e sh).code = 0) : (doE v e sh).sum = (chg v.st e).sum ∧ (doE v e sh).lease = (chg v.st e).lease := by
  unfold doE at h ⊢
  split at h
  · cases h
  · rename_i a1; rw [if_neg a1]
    split at h
    · cases h
    · rename_i a2; rw [if_neg a2]
      split at h
      · rename_i a3; exact absurd h a3
      · rename_i a3; rw [if_neg a3]
        split at h
        · cases h
        · rename_i a4; rw [if_neg a4]
          split at h
          · cases h
          · rename_i a5; rw [if_neg a5]; exact ⟨rfl, rfl⟩
end KV
end
section
namespace KV
open Go Go.Eng
open Classical
theorem znm {v : Vault} (h : CLV v) (n : Nat) (hn : n ≤ 10000) (hr : ∀ j, j < n → (itV j v).rd.rounds < 1000000000) : ∃ d, Lqb3 none [.i v.width, .i v.limit, .l (encS v.safe), .l (encS v.loose), .i v.st.width, .i v.st.now, .i v.st.given, .i v.st.births, .l (encK v.st.things), .l (encP v.st.pins), .l (encL v.st.leases), .i v.rd.phase, .l (encS v.rd.queue), .l (encS v.rd.marked), .i v.rd.top, .i v.rd.at_, .i v.rd.rounds, .i (n : Int)] = some (zer (some (itV n v, d, n))) := by
  obtain ⟨d, e⟩ := zkx n v [] 0 h hr
  have := zp1 h.vv.small h.vv.cut (n : Int)
  rw [if_pos ⟨h.vv, by omega, by omega⟩, zb3, e, Nat.zero_add] at this
  exact ⟨d, this⟩
end KV
end
section
namespace KV
open Go Go.Eng
open Classical
theorem zo8 {w n : Int} (hw : zj w = true) (hn : 1 ≤ n ∧ n ≤ 100000) : zg (eWait n) w = true := by
  have a1 : sumB 6 E0 w = true := by
    unfold sumB; rw [if_neg (by decide)]; exact decide_eq_true rfl
  have a2 : namB 6 E0 = true := by
    unfold namB; rw [if_neg (by decide)]; exact decide_eq_true rfl
  have a3 : thgB 6 ⟨E0, []⟩ w = true := by
    unfold thgB; rw [if_neg (by decide)]; rw [decide_eq_true (p := (E0 : Bs) = E0) rfl]; rfl
  have a4 : numB 6 n = true := by
    unfold numB; rw [if_pos (by decide)]; exact decide_eq_true hn
  show zg ⟨6, E0, E0, n, ⟨E0, []⟩⟩ w = true
  unfold zg
  simp only
  rw [hw, a1, a2, a3, a4]; rfl
theorem zm7 {v : Vault} (V : VV v) {n : Int} (hn : 1 ≤ n ∧ n ≤ 100000) (hw : v.st.now + n ≤ 1000000000) (hl : v.safe.length + v.loose.length < 4000) :
    (doE v (eWait n) false).code = 0 ∧ (doE v (eWait n) false).v = { v with loose := v.loose ++ [formE (eWait n)], st := { v.st with now := v.st.now + n, leases := v.st.leases.filter fun l => decide (v.st.now + n < l.till) } } := by
  have hk : (eWait n).kind = 6 := rfl
  have hc : chg v.st (eWait n) = done { v.st with now := v.st.now + n, leases := v.st.leases.filter fun l => decide (v.st.now + n < l.till) } := by
    unfold chg
    rw [hk, if_neg (by omega), if_neg (by omega), if_neg (by omega), if_neg (by omega), if_neg (by omega), if_pos rfl]
    exact if_pos hw
  have h0 : (doE v (eWait n) false).code = 0 := by
    have hcode : (chg v.st (eWait n)).code = 0 := by rw [hc]; rfl
    unfold doE
    rw [if_neg (not_not_intro V), if_neg (not_not_intro (zo8 V.wd hn)), if_neg (not_not_intro hcode), if_neg (fun h => by have := h.1; rw [hk] at this; omega), if_neg (by omega)]
  refine ⟨h0, ?_⟩
  rw [doE_v h0, hc]; rfl
theorem zsu : ∀ (m n : Nat) (w : Vault), n ≤ 10000 * m → CLV w → w.rd.rounds + n ≤ 900000000 →
    Lqb4 (some 2) [.i (n : Int), .i w.width, .i w.limit, .l (encS w.safe), .l (encS w.loose), .i w.st.width, .i w.st.now, .i w.st.given, .i w.st.births, .l (encK w.st.things), .l (encP w.st.pins), .l (encL w.st.leases), .i w.rd.phase, .l (encS w.rd.queue), .l (encS w.rd.marked), .i w.rd.top, .i w.rd.at_, .i w.rd.rounds, .i 0, .i 0, .i 0, .i 0, .i 0, .i 0, .i 0, .i 0, .i 0, .i 0, .l [], .l [], .l [], .l [], .l [], .l [], .l []] = some [.i (itV n w).width, .i (itV n w).limit, .l (encS (itV n w).safe), .l (encS (itV n w).loose), .i (itV n w).st.width, .i (itV n w).st.now, .i (itV n w).st.given, .i (itV n w).st.births, .l (encK (itV n w).st.things), .l (encP (itV n w).st.pins), .l (encL (itV n w).st.leases), .i (itV n w).rd.phase, .l (encS (itV n w).rd.queue), .l (encS (itV n w).rd.marked), .i (itV n w).rd.top, .i (itV n w).rd.at_, .i (itV n w).rd.rounds, .b true] := by
  have zero : ∀ w : Vault, Lqb4 (some 2) [.i 0, .i w.width, .i w.limit, .l (encS w.safe), .l (encS w.loose), .i w.st.width, .i w.st.now, .i w.st.given, .i w.st.births, .l (encK w.st.things), .l (encP w.st.pins), .l (encL w.st.leases), .i w.rd.phase, .l (encS w.rd.queue), .l (encS w.rd.marked), .i w.rd.top, .i w.rd.at_, .i w.rd.rounds, .i 0, .i 0, .i 0, .i 0, .i 0, .i 0, .i 0, .i 0, .i 0, .i 0, .l [], .l [], .l [], .l [], .l [], .l [], .l []] = some [.i w.width, .i w.limit, .l (encS w.safe), .l (encS w.loose), .i w.st.width, .i w.st.now, .i w.st.given, .i w.st.births, .l (encK w.st.things), .l (encP w.st.pins), .l (encL w.st.leases), .i w.rd.phase, .l (encS w.rd.queue), .l (encS w.rd.marked), .i w.rd.top, .i w.rd.at_, .i w.rd.rounds, .b true] := fun w => by
    rw [eqb4_2]; simp (disch := omega) only [push_cast]
  intro m
  induction m with
  | zero =>
    intro n w hn h hr
    obtain rfl : n = 0 := by omega
    exact zero w
  | succ m ih =>
    intro n w hn h hr
    have hrd := h.vv.rd.rds
    have hb : ∀ j, j < n → (itV j w).rd.rounds < 1000000000 := fun j hj => by have := zc6 j w h.vv.vs.1; omega
    by_cases h0 : n = 0
    · subst h0; exact zero w
    by_cases h1 : n ≤ 10000
    · obtain ⟨d, e⟩ := znm h n h1 hb
      unfold zer at e
      simp only at e
      have := zero (itV n w)
      rw [eqb4_2]
      have e0 : (n : Int) - (n : Int) = 0 := by omega
      simp (disch := omega) only [push_cast, e, e0]
      exact this
    · obtain ⟨K, hK⟩ : ∃ K : Nat, K = 10000 := ⟨_, rfl⟩
      have hKi : (K : Int) = 10000 := by omega
      obtain ⟨d, e⟩ := znm h K (by omega) fun j hj => hb j (by omega)
      unfold zer at e
      simp only at e
      obtain ⟨c1, _⟩ := zea K w h fun j hj => hb j (by omega)
      have hr1 := zc6 K w h.vv.vs.1
      obtain ⟨k, rfl⟩ : ∃ k, n = K + k := ⟨n - K, by omega⟩
      have := ih k (itV K w) (by omega) c1 (by omega)
      rw [zdh]
      have e0 : ((K + k : Nat) : Int) - 10000 = (k : Int) := by omega
      have e1 : ((K : Int) + (k : Int)) - 10000 = (k : Int) := by omega
      rw [hKi] at e
      rw [eqb4_2]
      simp (disch := omega) only [push_cast, e, e0, e1]
      exact this
noncomputable def manyU (w : Vault) : Nat := 9 * whole w.st - 9 + w.rd.queue.length
theorem zmr {w : Vault} (h : CLV w) (hr : w.rd.rounds ≤ 1000000) : Lqb4 none [.i w.width, .i w.limit, .l (encS w.safe), .l (encS w.loose), .i w.st.width, .i w.st.now, .i w.st.given, .i w.st.births, .l (encK w.st.things), .l (encP w.st.pins), .l (encL w.st.leases), .i w.rd.phase, .l (encS w.rd.queue), .l (encS w.rd.marked), .i w.rd.top, .i w.rd.at_, .i w.rd.rounds] = some [.i (itV (manyU w) w).width, .i (itV (manyU w) w).limit, .l (encS (itV (manyU w) w).safe), .l (encS (itV (manyU w) w).loose), .i (itV (manyU w) w).st.width, .i (itV (manyU w) w).st.now, .i (itV (manyU w) w).st.given, .i (itV (manyU w) w).st.births, .l (encK (itV (manyU w) w).st.things), .l (encP (itV (manyU w) w).st.pins), .l (encL (itV (manyU w) w).st.leases), .i (itV (manyU w) w).rd.phase, .l (encS (itV (manyU w) w).rd.queue), .l (encS (itV (manyU w) w).rd.marked), .i (itV (manyU w) w).rd.top, .i (itV (manyU w) w).rd.at_, .i (itV (manyU w) w).rd.rounds, .b true] := by
  have Vs := h.vv.vs.1
  have n1 := Vs.nT; have n2 := Vs.nP; have n3 := Vs.nL; have hq := h.vv.rd.nQ
  have hU := zva Vs
  unfold encSt at hU
  have hsu := zcb [] w.st.things Vs.rl
  have hw1 : 2 ≤ whole w.st := by unfold whole; omega
  have hw2 : whole w.st ≤ 20000 := by unfold whole; omega
  have hm : manyU w ≤ 10000 * 21 := by unfold manyU; omega
  have := zsu 21 (manyU w) w hm h (by omega)
  have e : 3 * (3 * (whole w.st : Int) - 3) + (w.rd.queue.length : Int) = (manyU w : Int) := by unfold manyU; omega
  rw [eqb4_i]
  simp (disch := omega) only [push_cast, hU, e]
  exact this
theorem zoa {w : Vault} (h : CLV w) (hr : w.rd.rounds ≤ 1000000) {x : Bs} (hx : ¬ Liv w.st x) : ¬ hasT (itV (manyU w) w).st.things x := by
  have Vs := h.vv.vs.1
  have n1 := Vs.nT; have n2 := Vs.nP; have n3 := Vs.nL; have hq := h.vv.rd.nQ
  have hsu := zcb [] w.st.things Vs.rl
  have hw1 : 2 ≤ whole w.st := by unfold whole; omega
  have hw2 : whole w.st ≤ 20000 := by unfold whole; omega
  have hm : manyU w ≤ 210000 := by unfold manyU; omega
  have hb : ∀ j, j < manyU w → (itV j w).rd.rounds < 1000000000 := fun j hj => by have := zc6 j w Vs; omega
  obtain ⟨N, t1, t2, t3, t4⟩ := zpk h (by omega)
  have hN : N ≤ manyU w := by unfold manyU; omega
  obtain ⟨k, hk⟩ : ∃ k, manyU w = N + k := ⟨manyU w - N, by omega⟩
  obtain ⟨c1, _⟩ := zea N w h fun j hj => hb j (by omega)
  have u1 := it_UK N h fun j hj => hb j (by omega)
  have u2 := it_UK k c1 fun j hj => by rw [← zdh]; exact hb (N + j) (by omega)
  rw [← zdh, ← hk] at u2
  rintro ⟨j, hj, rfl⟩
  exact hx ((u1.liv _).1 (t4 j (u2.sub.subset hj)))
def BT : Bs := ⟨#[97, 32, 116, 104, 105, 110, 103, 32, 116, 104, 97, 116, 32, 110, 111, 98, 111, 100, 121, 32, 101, 108, 115, 101, 32, 112, 117, 116, 115]⟩
theorem zu2 {s : State} (V : VS s) {k : Int} (he : zg (ePut ⟨BT, []⟩ k) s.width = true) (h : (chg s (ePut ⟨BT, []⟩ k)).code = 0) (hx : ∀ j ∈ s.things, j.thing.text.size ≤ 20) :
    ¬ hasT s.things (chg s (ePut ⟨BT, []⟩ k)).sum ∧ (chg s (ePut ⟨BT, []⟩ k)).st = lent { s with births := s.births + 1, things := insK ⟨(chg s (ePut ⟨BT, []⟩ k)).sum, s.births + 1, ⟨BT, []⟩⟩ s.things } (chg s (ePut ⟨BT, []⟩ k)).sum k := by
  have hc : chg s (ePut ⟨BT, []⟩ k) = putS s (ePut ⟨BT, []⟩ k) := if_pos rfl
  have ht := EntryOk.thing he rfl
  rw [hc] at h ⊢
  rw [zhi h]
  unfold putS at h ⊢
  split at h
  · cases h
  · rename_i a1
    rw [if_neg a1]
    split at h
    · rename_i a2
      split at h
      · rename_i a3
        have hi := (zbk V.srtT _).1 a2
        have hm := zi (d := K0) hi.1
        have e := zq2 (V.okT _ hm).1 ht a3
        have h1 := hx _ hm
        rw [e] at h1
        exact absurd h1 (by show ¬ (29 : Nat) ≤ 20; omega)
      · cases h
    · rename_i a2
      rw [if_neg a2]
      split at h
      · rename_i a3
        rw [if_pos a3]
        exact ⟨a2, rfl⟩
      · cases h
theorem zt7 (k : Kept) (l : List Kept) : (insK k l).length = l.length + 1 := by
  unfold insK
  rw [List.length_append, List.length_cons, List.length_take, List.length_drop]
  have := lb_le (qK k.sum) l
  omega
theorem zr1 {v : Vault} (hA : AV v) : Lqcm (some 5) [.i v.width, .i v.limit, .l (encS v.safe), .l (encS v.loose), .i v.st.width, .i v.st.now, .i v.st.given, .i v.st.births, .l (encK v.st.things), .l (encP v.st.pins), .l (encL v.st.leases), .i v.rd.phase, .l (encS v.rd.queue), .l (encS v.rd.marked), .i v.rd.top, .i v.rd.at_, .i v.rd.rounds] = some [.b true] := by
  have SV : Lqbf none [.i v.width, .i v.limit, .l (encS v.safe), .l (encS v.loose), .i v.st.width, .i v.st.now, .i v.st.given, .i v.st.births, .l (encK v.st.things), .l (encP v.st.pins), .l (encL v.st.leases), .i v.rd.phase, .l (encS v.rd.queue), .l (encS v.rd.marked), .i v.rd.top, .i v.rd.at_, .i v.rd.rounds] = some [.b (decide (VV v))] := zdy hA.small
  have IV : Lqbs none [.i v.width, .i v.limit, .l (encS v.safe), .l (encS v.loose), .i v.st.width, .i v.st.now, .i v.st.given, .i v.st.births, .l (encK v.st.things), .l (encP v.st.pins), .l (encL v.st.leases), .i v.rd.phase, .l (encS v.rd.queue), .l (encS v.rd.marked), .i v.rd.top, .i v.rd.at_, .i v.rd.rounds] = some [.b (decide (VV v))] := zf0 hA.small hA.cut
  rw [eqcm_5]
  by_cases V : VV v
  · rw [decide_eq_true V] at SV IV; simp (disch := omega) only [push_cast, SV, IV]; rfl
  · rw [decide_eq_false V] at SV IV; simp (disch := omega) only [push_cast, SV, IV]; rfl
set_option maxHeartbeats 4000000 in
theorem zoj {c : Rw} (hc : ∀ i, 0 ≤ (rd c i 0).int ∧ (rd c i 0).int ≤ 255) : Lqcm none [.l c] = some [.b true] := by
  rw [eqcm_i]
  by_cases hl : (1048576 : Int) < (c.length : Int)
  · simp (disch := omega) only [push_cast]
  obtain ⟨b, v, p, hop, hb, ea, hp, hA⟩ := zq3 hc
  obtain ⟨t, k, e1, ht, hk⟩ := zux hop hb ea hp hA
  have hs := hA.small
  have h5 := zr1 hA
  have SV : Lqbf none [.i v.width, .i v.limit, .l (encS v.safe), .l (encS v.loose), .i v.st.width, .i v.st.now, .i v.st.given, .i v.st.births, .l (encK v.st.things), .l (encP v.st.pins), .l (encL v.st.leases), .i v.rd.phase, .l (encS v.rd.queue), .l (encS v.rd.marked), .i v.rd.top, .i v.rd.at_, .i v.rd.rounds] = some [.b (decide (VV v))] := zdy hs
  by_cases V : VV v
  rotate_left
  · rw [decide_eq_false V] at SV; simp (disch := omega) only [push_cast, e1, SV]; exact h5
  rw [decide_eq_true V] at SV
  have Vs := V.vs
  have hrd := V.rd.rds; have hnow := Vs.1.now; have hlog := V.log.n
  by_cases k1 : 2 ≤ k
  rotate_left; · simp (disch := omega) only [push_cast, e1, SV]; exact h5
  by_cases k2 : k ≤ 1000
  rotate_left; · simp (disch := omega) only [push_cast, e1, SV]; exact h5
  by_cases k3 : v.st.things.length ≤ 60
  rotate_left; · simp (disch := omega) only [push_cast, e1, SV]; exact h5
  by_cases k4 : v.st.now ≤ 999995000
  rotate_left; · simp (disch := omega) only [push_cast, e1, SV]; exact h5
  by_cases k5 : v.safe.length + v.loose.length ≤ 1000
  rotate_left; · simp (disch := omega) only [push_cast, e1, SV]; exact h5
  by_cases k6 : v.rd.rounds ≤ 1000
  rotate_left; · simp (disch := omega) only [push_cast, e1, SV]; exact h5
  have htx := hA.tx V k5
  have P1 : Lqc4 none [.i v.width, .i v.limit, .l (encS v.safe), .l (encS v.loose), .i v.st.width, .i v.st.now, .i v.st.given, .i v.st.births, .l (encK v.st.things), .l (encP v.st.pins), .l (encL v.st.leases), .i v.rd.phase, .l (encS v.rd.queue), .l (encS v.rd.marked), .i v.rd.top, .i v.rd.at_, .i v.rd.rounds, .s BT, .l [], .i k] = some (zo (doE v (ePut ⟨BT, []⟩ k) true)) := zt4 hs hA.cut ⟨BT, []⟩ k (Nat.zero_le _)
  have P2 : Lqco none [.i v.width, .i v.limit, .l (encS v.safe), .l (encS v.loose), .i v.st.width, .i v.st.now, .i v.st.given, .i v.st.births, .l (encK v.st.things), .l (encP v.st.pins), .l (encL v.st.leases), .i v.rd.phase, .l (encS v.rd.queue), .l (encS v.rd.marked), .i v.rd.top, .i v.rd.at_, .i v.rd.rounds, .s BT, .l [], .i k] = some (zo (doS v (ePut ⟨BT, []⟩ k))) := zi9 hs ⟨BT, []⟩ k (Nat.zero_le _)
  rw [doS_t (.inl rfl)] at P2
  by_cases hc0 : (doE v (ePut ⟨BT, []⟩ k) true).code = 0
  rotate_left
  · have hxv := zql V hc0
    obtain ⟨x, hx⟩ : ∃ x, doE v (ePut ⟨BT, []⟩ k) true = x := ⟨_, rfl⟩
    rw [hx] at P1 P2 hxv hc0
    unfold zo vI vL BT at P1 P2
    simp only [List.cons_append, List.nil_append] at P1 P2
    rw [hxv] at P1 P2
    have W : Lqc7 none [.i v.width, .i v.limit, .l (encS v.safe), .l (encS v.loose), .i v.st.width, .i v.st.now, .i v.st.given, .i v.st.births, .l (encK v.st.things), .l (encP v.st.pins), .l (encL v.st.leases), .i v.rd.phase, .l (encS v.rd.queue), .l (encS v.rd.marked), .i v.rd.top, .i v.rd.at_, .i v.rd.rounds, .i v.width, .i v.limit, .l (encS v.safe), .l (encS v.loose), .i v.st.width, .i v.st.now, .i v.st.given, .i v.st.births, .l (encK v.st.things), .l (encP v.st.pins), .l (encL v.st.leases), .i v.rd.phase, .l (encS v.rd.queue), .l (encS v.rd.marked), .i v.rd.top, .i v.rd.at_, .i v.rd.rounds] = some [.b (decide (v = v))] := zrr hs hs
    rw [decide_eq_true (rfl : v = v)] at W
    simp (disch := omega) only [push_cast, e1, SV, P1, P2, W]
  obtain ⟨_, he, hcc, VX⟩ := zem hc0
  have he' : zg (ePut ⟨BT, []⟩ k) v.st.width = true := by rw [Vs.2]; exact he
  obtain ⟨hnT, hst⟩ := zu2 Vs.1 he' hcc htx
  have hsum := (zqn hc0).1
  have hv := doE_v hc0
  obtain ⟨x, hx⟩ : ∃ x, doE v (ePut ⟨BT, []⟩ k) true = x := ⟨_, rfl⟩
  rw [hx] at P1 hsum hv VX hc0
  rw [← hsum] at hnT hst
  obtain ⟨X, hX⟩ : ∃ X, x.sum = X := ⟨_, rfl⟩
  rw [hX] at hnT hst
  have xst : x.v.st = lent { v.st with births := v.st.births + 1, things := insK ⟨X, v.st.births + 1, ⟨BT, []⟩⟩ v.st.things } X k := by rw [hv]; exact hst
  have xlog : x.v.safe.length + x.v.loose.length = v.safe.length + v.loose.length + 1 := by rw [hv]; simp; omega
  have xrd : x.v.rd.marked = v.rd.marked ∧ x.v.rd.rounds = v.rd.rounds ∧ x.v.rd.queue.length ≤ v.rd.queue.length + 1 := by
    rw [hv]
    have := zrh (chg v.st (ePut ⟨BT, []⟩ k)).st v.rd (zbh (ePut ⟨BT, []⟩ k) (chg v.st (ePut ⟨BT, []⟩ k)))
    exact ⟨this.1, this.2.2.2.1, this.2.2.2.2.2⟩
  have xnow : x.v.st.now = v.st.now := by rw [xst]; rfl
  have xlen : x.v.st.things.length = v.st.things.length + 1 := by rw [xst]; exact zt7 _ _
  obtain ⟨y0, yv⟩ := zm7 VX (n := k - 1) (by omega) (by rw [xnow]; omega) (by omega)
  have VY := (zem y0).2.2.2
  have Y1 : Lqcv none [.i x.v.width, .i x.v.limit, .l (encS x.v.safe), .l (encS x.v.loose), .i x.v.st.width, .i x.v.st.now, .i x.v.st.given, .i x.v.st.births, .l (encK x.v.st.things), .l (encP x.v.st.pins), .l (encL x.v.st.leases), .i x.v.rd.phase, .l (encS x.v.rd.queue), .l (encS x.v.rd.marked), .i x.v.rd.top, .i x.v.rd.at_, .i x.v.rd.rounds, .i (k - 1)] = some (zo (doE x.v (eWait (k - 1)) false)) := zjy VX.small VX.cut (k - 1)
  obtain ⟨y, hy⟩ : ∃ y, doE x.v (eWait (k - 1)) false = y := ⟨_, rfl⟩
  rw [hy] at Y1 y0 yv VY
  have ylen : y.v.st.things.length = v.st.things.length + 1 := by rw [yv]; exact xlen
  have ylog : y.v.safe.length + y.v.loose.length = v.safe.length + v.loose.length + 2 := by rw [yv]; simp; omega
  have yrd : y.v.rd = x.v.rd := by rw [yv]
  unfold zo vI vL at P1 Y1
  unfold BT at P1
  simp only [List.cons_append, List.nil_append] at P1 Y1
  rw [hc0, hX] at P1
  rw [y0] at Y1
  have hml := V.rd.nM
  by_cases k7 : v.rd.marked.length + (v.st.things.length + 1) ≤ 600
  rotate_left
  · simp (disch := omega) only [push_cast, e1, SV, P1, Y1, ylen]
  by_cases k8 : v.rd.queue.length ≤ 1000
  rotate_left
  · simp (disch := omega) only [push_cast, e1, SV, P1, Y1, ylen]
  have CY : CLV y.v := by
    refine ⟨VY, ?_, fun _ => ?_, by omega⟩
    · have : junk y.v.st y.v.rd ≤ y.v.rd.marked.length := List.length_filter_le _ _
      have h2 : y.v.rd.marked.length = v.rd.marked.length := by rw [yrd, xrd.1]
      omega
    · have := zcb y.v.rd.marked y.v.st.things VY.vs.1.rl
      rw [yrd] at this ⊢
      omega
  have yr : y.v.rd.rounds ≤ 1000 := by rw [yrd, xrd.2.1]; exact k6
  have Z1 := zmr CY (by omega)
  have ym : manyU y.v ≤ 100000 := by
    have h1 := zcb [] y.v.st.things VY.vs.1.rl
    have h2 := VY.vs.1.nP; have h3 := VY.vs.1.nL
    have h4 : y.v.rd.queue.length ≤ 1001 := by rw [yrd]; omega
    unfold manyU whole; omega
  have yb : ∀ j, j < manyU y.v → (itV j y.v).rd.rounds < 1000000000 := fun j hj => by have := zc6 j y.v VY.vs.1; omega
  obtain ⟨CZ, zlog, _, _⟩ := zea (manyU y.v) y.v CY yb
  have UZ := it_UK (manyU y.v) CY yb
  have zr := zc6 (manyU y.v) y.v VY.vs.1
  obtain ⟨z, hz⟩ : ∃ z, itV (manyU y.v) y.v = z := ⟨_, rfl⟩
  rw [hz] at Z1 CZ UZ zlog zr
  have VZ := CZ.vv
  have ymem : (⟨X, v.st.births + 1, ⟨BT, []⟩⟩ : Kept) ∈ y.v.st.things := by
    rw [yv]; show _ ∈ x.v.st.things; rw [xst]; exact zbv.2 (.inl rfl)
  have yheld : held y.v.st X := by
    right
    refine ⟨⟨v.st.given + 1, X, v.st.now + k⟩, ?_, rfl⟩
    rw [yv]
    show _ ∈ x.v.st.leases.filter fun l => decide (x.v.st.now + (k - 1) < l.till)
    refine List.mem_filter.2 ⟨?_, decide_eq_true (by rw [xnow]; show v.st.now + (k - 1) < v.st.now + k; omega)⟩
    rw [xst]
    exact List.mem_append.2 (.inr (List.mem_singleton.2 rfl))
  have zlive : Liv z.st X := (UZ.liv X).2 (.base X (zf5.2 yheld))
  obtain ⟨j, hj, hjs⟩ := zkq VZ.vs.1 zlive
  have hjt : j = ⟨X, v.st.births + 1, ⟨BT, []⟩⟩ := ze7 VY.vs.1 (UZ.sub.subset hj) ymem hjs
  have F1 : Lqcr none [.i z.width, .i z.limit, .l (encS z.safe), .l (encS z.loose), .i z.st.width, .i z.st.now, .i z.st.given, .i z.st.births, .l (encK z.st.things), .l (encP z.st.pins), .l (encL z.st.leases), .i z.rd.phase, .l (encS z.rd.queue), .l (encS z.rd.marked), .i z.rd.top, .i z.rd.at_, .i z.rd.rounds, .s X] = some (encOT (zdf z X)) := zna VZ.small VZ.cut X
  rw [← hjs, zsh VZ hj, hjt] at F1
  have F1' : Lqcr none [.i z.width, .i z.limit, .l (encS z.safe), .l (encS z.loose), .i z.st.width, .i z.st.now, .i z.st.given, .i z.st.births, .l (encK z.st.things), .l (encP z.st.pins), .l (encL z.st.leases), .i z.rd.phase, .l (encS z.rd.queue), .l (encS z.rd.marked), .i z.rd.top, .i z.rd.at_, .i z.rd.rounds, .s X] = some [.s BT, .b true, .l []] := F1
  have W1 : Lqct none [.s BT, .l [], .s BT, .l []] = some [.b (decide ((⟨BT, []⟩ : Thing) = ⟨BT, []⟩))] := ziq ⟨BT, []⟩ ⟨BT, []⟩ (Nat.zero_le _) (Nat.zero_le _)
  rw [decide_eq_true (rfl : (⟨BT, []⟩ : Thing) = ⟨BT, []⟩)] at W1
  have znow : z.st.now = v.st.now + (k - 1) := by rw [UZ.ints.2.2.1, yv]; show x.v.st.now + (k - 1) = _; rw [xnow]
  obtain ⟨u0, uv⟩ := zm7 VZ (n := 1) (by omega) (by rw [znow]; omega) (by omega)
  have VU := (zem u0).2.2.2
  have U1 : Lqcv none [.i z.width, .i z.limit, .l (encS z.safe), .l (encS z.loose), .i z.st.width, .i z.st.now, .i z.st.given, .i z.st.births, .l (encK z.st.things), .l (encP z.st.pins), .l (encL z.st.leases), .i z.rd.phase, .l (encS z.rd.queue), .l (encS z.rd.marked), .i z.rd.top, .i z.rd.at_, .i z.rd.rounds, .i 1] = some (zo (doE z (eWait 1) false)) := zjy VZ.small VZ.cut 1
  obtain ⟨u, hu⟩ : ∃ u, doE z (eWait 1) false = u := ⟨_, rfl⟩
  rw [hu] at U1 u0 uv VU
  have ust : u.v.st.things = z.st.things ∧ u.v.st.pins = z.st.pins ∧ u.v.rd = z.rd := by rw [uv]; exact ⟨rfl, rfl, rfl⟩
  have ulog : u.v.safe.length + u.v.loose.length = z.safe.length + z.loose.length + 1 := by rw [uv]; simp; omega
  have CU : CLV u.v := by
    refine ⟨VU, ?_, fun h => ?_, by rw [ust.1]; omega⟩
    · have := CZ.jk
      unfold junk at this ⊢
      rw [ust.1, ust.2.2]; exact this
    · rw [ust.2.2] at h ⊢
      rw [ust.1]; exact CZ.qq h
  have G1 := zmr CU (by rw [ust.2.2]; omega)
  have xpins : x.v.st.pins = v.st.pins := by rw [xst]; rfl
  have nh : ¬ held u.v.st X := by
    rintro (⟨q, hq, hqs⟩ | ⟨l, hl, hls⟩)
    · rw [ust.2.1, UZ.pins, yv] at hq
      have hq' : q ∈ x.v.st.pins := hq
      rw [xpins] at hq'
      have := (Vs.1.okP q hq').2
      rw [hqs] at this; exact hnT this
    · rw [uv] at hl
      obtain ⟨hl1, hl2⟩ := List.mem_filter.1 (show l ∈ z.st.leases.filter fun l => decide (z.st.now + 1 < l.till) from hl)
      rw [UZ.leases, yv] at hl1
      have hl3 := (List.mem_filter.1 (show l ∈ x.v.st.leases.filter fun l => decide (x.v.st.now + (k - 1) < l.till) from hl1)).1
      rw [xst] at hl3
      have hl4 : l ∈ v.st.leases ++ [⟨v.st.given + 1, X, v.st.now + k⟩] := hl3
      rcases List.mem_append.1 hl4 with h1 | h1
      · have := (Vs.1.okL l h1).2.2.1
        rw [hls] at this; exact hnT this
      · rw [List.mem_singleton] at h1
        have := of_decide_eq_true hl2
        rw [h1, znow] at this
        simp only at this
        omega
  have nr : ¬ isRef u.v.st.things X := by
    rintro ⟨q, hq, hqr⟩
    rw [ust.1] at hq
    have hq := UZ.sub.subset hq
    rw [yv] at hq
    have hq : q ∈ x.v.st.things := hq
    rw [xst] at hq
    rcases zbv.1 (show q ∈ insK ⟨X, v.st.births + 1, ⟨BT, []⟩⟩ v.st.things from hq) with h1 | h1
    · rw [h1] at hqr; cases hqr
    · obtain ⟨i, hi, e, _⟩ := Vs.1.refs q h1 X hqr
      exact hnT ⟨i, hi, e⟩
  have hgone := zoa CU (by rw [ust.2.2]; omega) (zso nh nr)
  have ub : ∀ j, j < manyU u.v → (itV j u.v).rd.rounds < 1000000000 := fun j hj => by
    have h0 := zc6 j u.v VU.vs.1
    have h1 := zcb [] u.v.st.things VU.vs.1.rl
    have h2 := VU.vs.1.nP; have h3 := VU.vs.1.nL; have h4 := VU.rd.nQ; have h5 := VU.vs.1.nT
    have h6 : manyU u.v ≤ 300000 := by unfold manyU whole; omega
    rw [ust.2.2] at h0
    omega
  obtain ⟨CG, _⟩ := zea (manyU u.v) u.v CU ub
  obtain ⟨g, hg⟩ : ∃ g, itV (manyU u.v) u.v = g := ⟨_, rfl⟩
  rw [hg] at G1 CG hgone
  have F2 : Lqcr none [.i g.width, .i g.limit, .l (encS g.safe), .l (encS g.loose), .i g.st.width, .i g.st.now, .i g.st.given, .i g.st.births, .l (encK g.st.things), .l (encP g.st.pins), .l (encL g.st.leases), .i g.rd.phase, .l (encS g.rd.queue), .l (encS g.rd.marked), .i g.rd.top, .i g.rd.at_, .i g.rd.rounds, .s X] = some (encOT (zdf g X)) := zna CG.vv.small CG.vv.cut X
  have hfn : zdf g X = none := if_neg fun h => hgone h.2
  rw [hfn] at F2
  have F2' : Lqcr none [.i g.width, .i g.limit, .l (encS g.safe), .l (encS g.loose), .i g.st.width, .i g.st.now, .i g.st.given, .i g.st.births, .l (encK g.st.things), .l (encP g.st.pins), .l (encL g.st.leases), .i g.rd.phase, .l (encS g.rd.queue), .l (encS g.rd.marked), .i g.rd.top, .i g.rd.at_, .i g.rd.rounds, .s X] = some [.s E0, .b false, .l []] := F2
  unfold zo vI vL at U1
  simp only [List.cons_append, List.nil_append] at U1
  rw [u0] at U1
  unfold BT at F1' W1
  simp (disch := omega) only [push_cast, e1, SV, P1, Y1, ylen, Z1, F1', W1, U1, G1, F2']
end KV
end
