/- Plain laws over the walks' closed forms. -/
import Derived.Test.YtbgmclgeikflaaaGreatM1
import Derived.Test.YtbgmclgeikflaaaGreatM2
import Derived.Test.YtbgmclgeikflaaaGreatM3
import Derived.Test.YtbgmclgeikflaaaGreatM4
import Derived.Test.YtbgmclgeikflaaaGreatM5
import Derived.Test.YtbgmclgeikflaaaGreatM6
set_option linter.unusedSimpArgs false
set_option linter.unusedVariables false
set_option linter.unusedSectionVars false
section
namespace KV
open Go Go.Eng
open Classical
theorem formM_inj {t u : Thing} {w : Int} (ht : ThingOk t w) (hu : ThingOk u w) (h : formM t = formM u) : t = u := by
  have h1 := form_readT ht
  rw [h, form_readT hu] at h1
  cases h1; rfl
theorem put_there {s : State} (V : VS s) {e : Entry} (hk : e.kind = 1) (he : entryB e s.width = true) (h : (chg s e).code = 0) : ∃ k ∈ (chg s e).st.things, k.sum = (chg s e).sum ∧ k.thing = e.thing := by
  have hc : chg s e = putS s e := by unfold chg; rw [if_pos hk]
  have ht := EntryOk.thing he hk
  rw [hc] at h ⊢
  rw [put_sum h]
  unfold putS at h ⊢
  split at h
  · cases h
  · rename_i a1
    rw [if_neg a1]
    split at h
    · rename_i a2
      rw [if_pos a2]
      split at h
      · rename_i a3
        rw [if_pos a3]
        split at h
        · rename_i a4
          rw [if_pos a4]
          have hi := (hasT_iff V.srtT _).1 a2
          have hm := nth_mem (d := K0) hi.1
          exact ⟨_, hm, hi.2, formM_inj (V.okT _ hm).1 ht a3⟩
        · cases h
      · cases h
    · rename_i a2
      rw [if_neg a2]
      split at h
      · rename_i a3
        rw [if_pos a3]
        exact ⟨_, mem_insK.2 (.inl rfl), rfl, rfl⟩
      · cases h
theorem fetch_there {v : Vault} (V : VV v) {k : Kept} (hk : k ∈ v.st.things) : fetchM v k.sum = some k.thing := by
  have hT : hasT v.st.things k.sum := ⟨k, hk, rfl⟩
  have hi := (hasT_iff V.vs.1.srtT _).1 hT
  unfold fetchM
  rw [if_pos ⟨V, hT⟩, key_uni V.vs.1 (nth_mem (d := K0) hi.1) hk hi.2]
theorem put_room {v : Vault} {e : Entry} {sh : Bool} (hk : e.kind = 1) (h : (doE v e sh).code = 0) : (roomM (doE v e sh).v.st : Int) ≤ v.limit := by
  rw [doE_v h]
  unfold doE at h
  split at h
  · cases h
  · split at h
    · cases h
    · split at h
      · rename_i a3; exact absurd h a3
      · split at h
        · cases h
        · rename_i a4
          show (roomM (chg v.st e).st : Int) ≤ v.limit
          rcases (by omega : (roomM (chg v.st e).st : Int) ≤ v.limit ∨ v.limit < (roomM (chg v.st e).st : Int)) with h1 | h1
          · exact h1
          · exact absurd ⟨hk, h1⟩ a4
theorem doE_sum {v : Vault} {e : Entry} {sh : Bool} (h : (doE v e sh).code = 0) : (doE v e sh).sum = (chg v.st e).sum ∧ (doE v e sh).lease = (chg v.st e).lease := by
  unfold doE at h ⊢
  split at h
  · cases h
  · rename_i a1; rw [if_neg a1]
    split at h
    · cases h
    · rename_i a2; rw [if_neg a2]
      split at h
      · rename_i a3; exact absurd h a3
      · rename_i a3; rw [if_neg a3]
        split at h
        · cases h
        · rename_i a4; rw [if_neg a4]
          split at h
          · cases h
          · rename_i a5; rw [if_neg a5]; exact ⟨rfl, rfl⟩
theorem zcd {s : State} (V : VS s) : Lqdt none [.i s.width, .i s.now, .i s.given, .i s.births, .l (encK s.things), .l (encP s.pins), .l (encL s.leases)] = some [.i (roomM s : Int)] := by
  have h1 := zbg s V.names
  have h2 := zbn V.small (by have := roomM_small V; omega)
  unfold encSt at h1 h2
  rw [decide_eq_true V] at h1
  rw [eqdt_i]
  simp (disch := omega) only [push_cast, h1, h2]
theorem zc4 {s : State} (V : VS s) {r : Round} (h : RoundOk s.width s.births r) (x : Bs) : Lqdz none [.i s.width, .i s.now, .i s.given, .i s.births, .l (encK s.things), .l (encP s.pins), .l (encL s.leases), .i r.phase, .l (encS r.queue), .l (encS r.marked), .i r.top, .i r.at_, .i r.rounds, .s x] = some [.i (shadeM s r x).phase, .i (shadeM s r x).top, .i (shadeM s r x).at_, .i (shadeM s r x).rounds, .l (encS (shadeM s r x).queue), .l (encS (shadeM s r x).marked)] := by
  have h1 := zc0 V.names r
  have n1 := V.nT; have n2 := h.nQ; have n3 := h.nM
  have h2 : Lqci none [.i r.phase, .l (encS r.queue), .l (encS r.marked), .i r.top, .i r.at_, .i r.rounds, .s x, .i s.width, .i s.now, .i s.given, .i s.births, .l (encK s.things), .l (encP s.pins), .l (encL s.leases)] = some (encRo (shadeM s r x)) := zbr V.srtT (by omega) r x (by omega) (by omega)
  unfold encRo at h2
  rw [decide_eq_true (p := VS s ∧ RoundOk s.width s.births r) ⟨V, h⟩] at h1
  rw [eqdz_i]
  simp (disch := omega) only [push_cast, h1, h2]
theorem refused_15 {v : Vault} (V : VV v) (t : Thing) (ht : ST t) (k : Int) : Lqcu (some 15) [.i v.width, .i v.limit, .l (encS v.safe), .l (encS v.loose), .i v.st.width, .i v.st.now, .i v.st.given, .i v.st.births, .l (encK v.st.things), .l (encP v.st.pins), .l (encL v.st.leases), .i v.rd.phase, .l (encS v.rd.queue), .l (encS v.rd.marked), .i v.rd.top, .i v.rd.at_, .i v.rd.rounds, .s t.text, .l (encS t.refs), .i (doE v (ePut t k) true).code, .i (doE v (ePut t k) true).v.width, .i (doE v (ePut t k) true).v.limit, .i (doE v (ePut t k) true).v.st.width, .i (doE v (ePut t k) true).v.st.now, .i (doE v (ePut t k) true).v.st.given, .i (doE v (ePut t k) true).v.st.births, .i (doE v (ePut t k) true).v.rd.phase, .i (doE v (ePut t k) true).v.rd.top, .i (doE v (ePut t k) true).v.rd.at_, .i (doE v (ePut t k) true).v.rd.rounds, .s (doE v (ePut t k) true).sum, .i (doE v (ePut t k) true).lease, .s (doE v (ePut t k) true).a, .s (doE v (ePut t k) true).b, .l (encS (doE v (ePut t k) true).v.safe), .l (encS (doE v (ePut t k) true).v.loose), .l (encK (doE v (ePut t k) true).v.st.things), .l (encP (doE v (ePut t k) true).v.st.pins), .l (encL (doE v (ePut t k) true).v.st.leases), .l (encS (doE v (ePut t k) true).v.rd.queue), .l (encS (doE v (ePut t k) true).v.rd.marked)] = some [.b true] := by
  rw [eqcu_15]
  by_cases hc : (doE v (ePut t k) true).code = 0
  rotate_left
  · simp (disch := omega) only [push_cast]
  obtain ⟨_, he, hcc, V'⟩ := doE_VV hc
  have Vs := V.vs
  have he' : entryB (ePut t k) v.st.width = true := by rw [Vs.2]; exact he
  have Vc := chg_VS Vs.1 he' hcc
  have hv := doE_v hc
  have hsum := (doE_sum hc).1
  have hrm := put_room (e := ePut t k) rfl hc
  obtain ⟨j, hj, hjs, hjt⟩ := put_there Vs.1 (e := ePut t k) rfl he' hcc
  have hro : RoundOk (chg v.st (ePut t k)).st.width (chg v.st (ePut t k)).st.births v.rd := by rw [chg_width]; exact V.rd.mono (chg_births hcc)
  obtain ⟨d, hd⟩ : ∃ d, doE v (ePut t k) true = d := ⟨_, rfl⟩
  rw [hd] at hv hsum hrm V' hc ⊢
  have hst : d.v.st = (chg v.st (ePut t k)).st := by rw [hv]
  have hrd : d.v.rd = shadeM d.v.st v.rd d.sum := by rw [hst, hsum, hv]; rfl
  have hlo : d.v.loose.length = v.loose.length + 1 := by rw [hv]; simp
  rw [← hst] at Vc hj hro
  rw [← hsum] at hjs
  have A1 := zc4 Vc hro d.sum
  rw [← hrd] at A1
  have A2 : Lqbh none [.i d.v.width, .i d.v.limit, .l (encS d.v.safe), .l (encS d.v.loose), .i d.v.st.width, .i d.v.st.now, .i d.v.st.given, .i d.v.st.births, .l (encK d.v.st.things), .l (encP d.v.st.pins), .l (encL d.v.st.leases), .i d.v.rd.phase, .l (encS d.v.rd.queue), .l (encS d.v.rd.marked), .i d.v.rd.top, .i d.v.rd.at_, .i d.v.rd.rounds] = some [.b (decide (VV d.v))] := zy V'.small
  rw [decide_eq_true V'] at A2
  have A3 : Lqcl none [.i d.v.rd.phase, .l (encS d.v.rd.queue), .l (encS d.v.rd.marked), .i d.v.rd.top, .i d.v.rd.at_, .i d.v.rd.rounds, .i d.v.rd.phase, .l (encS d.v.rd.queue), .l (encS d.v.rd.marked), .i d.v.rd.top, .i d.v.rd.at_, .i d.v.rd.rounds] = some [.b (decide (d.v.rd = d.v.rd))] := wRound_eq d.v.rd d.v.rd V'.small.q V'.small.m V'.small.q V'.small.m
  rw [decide_eq_true (rfl : d.v.rd = d.v.rd)] at A3
  have A4 := zcd Vc
  have A5 : Lqc3 none [.i d.v.width, .i d.v.limit, .l (encS d.v.safe), .l (encS d.v.loose), .i d.v.st.width, .i d.v.st.now, .i d.v.st.given, .i d.v.st.births, .l (encK d.v.st.things), .l (encP d.v.st.pins), .l (encL d.v.st.leases), .i d.v.rd.phase, .l (encS d.v.rd.queue), .l (encS d.v.rd.marked), .i d.v.rd.top, .i d.v.rd.at_, .i d.v.rd.rounds, .s d.sum] = some (encOT (fetchM d.v d.sum)) := zct V'.small V'.cut d.sum
  rw [← hjs, fetch_there V' hj, hjt] at A5
  rw [hjs] at A5
  have A6 := wThing_eq t t (by have := ht.1; omega) (by have := ht.1; omega)
  rw [decide_eq_true (rfl : t = t)] at A6
  have A5' : Lqc3 none [.i d.v.width, .i d.v.limit, .l (encS d.v.safe), .l (encS d.v.loose), .i d.v.st.width, .i d.v.st.now, .i d.v.st.given, .i d.v.st.births, .l (encK d.v.st.things), .l (encP d.v.st.pins), .l (encL d.v.st.leases), .i d.v.rd.phase, .l (encS d.v.rd.queue), .l (encS d.v.rd.marked), .i d.v.rd.top, .i d.v.rd.at_, .i d.v.rd.rounds, .s d.sum] = some [.s t.text, .b true, .l (encS t.refs)] := A5
  have hn := V.log.n
  simp (disch := omega) only [push_cast, A1, A2, A3, hlo, A4, A5', A6]
theorem refused_all {c : Rw} (hc : ∀ i, 0 ≤ (rd c i 0).int ∧ (rd c i 0).int ≤ 255) : Lqcu none [.l c] = some [.b true] := by
  rw [eqcu_i]
  by_cases hl : (1048576 : Int) < (c.length : Int)
  · simp (disch := omega) only [push_cast]
  obtain ⟨b, v, p, hop, hb, ea, hp, hA⟩ := drawAny hc
  obtain ⟨t, k, e1, ht, hk⟩ := drawPut_ok hop hb ea hp hA
  obtain ⟨nm, sm, e2, hn⟩ := drawHold_ok hop hb ea hp hA
  have hs := hA.small
  have P1 : Lqc6 none [.i v.width, .i v.limit, .l (encS v.safe), .l (encS v.loose), .i v.st.width, .i v.st.now, .i v.st.given, .i v.st.births, .l (encK v.st.things), .l (encP v.st.pins), .l (encL v.st.leases), .i v.rd.phase, .l (encS v.rd.queue), .l (encS v.rd.marked), .i v.rd.top, .i v.rd.at_, .i v.rd.rounds, .s t.text, .l (encS t.refs), .i k] = some (encDid (doE v (ePut t k) true)) := zcj hs hA.cut t k (by have := ht.1; omega)
  have P2 : Lqcj none [.i v.width, .i v.limit, .l (encS v.safe), .l (encS v.loose), .i v.st.width, .i v.st.now, .i v.st.given, .i v.st.births, .l (encK v.st.things), .l (encP v.st.pins), .l (encL v.st.leases), .i v.rd.phase, .l (encS v.rd.queue), .l (encS v.rd.marked), .i v.rd.top, .i v.rd.at_, .i v.rd.rounds, .s t.text, .l (encS t.refs), .i k] = some (encDid (doS v (ePut t k))) := zbd hs t k (by have := ht.1; omega)
  have H1 : Lqc7 none [.i v.width, .i v.limit, .l (encS v.safe), .l (encS v.loose), .i v.st.width, .i v.st.now, .i v.st.given, .i v.st.births, .l (encK v.st.things), .l (encP v.st.pins), .l (encL v.st.leases), .i v.rd.phase, .l (encS v.rd.queue), .l (encS v.rd.marked), .i v.rd.top, .i v.rd.at_, .i v.rd.rounds, .s nm, .s sm] = some (encDid (doE v (eHold nm sm) true)) := zck hs hA.cut nm sm (by omega)
  have H2 : Lqck none [.i v.width, .i v.limit, .l (encS v.safe), .l (encS v.loose), .i v.st.width, .i v.st.now, .i v.st.given, .i v.st.births, .l (encK v.st.things), .l (encP v.st.pins), .l (encL v.st.leases), .i v.rd.phase, .l (encS v.rd.queue), .l (encS v.rd.marked), .i v.rd.top, .i v.rd.at_, .i v.rd.rounds, .s nm, .s sm] = some (encDid (doS v (eHold nm sm))) := zbu hs nm sm (by omega)
  rw [doS_t (.inl rfl)] at P2
  rw [doS_t (.inr (.inl rfl))] at H2
  have SV : Lqbh none [.i v.width, .i v.limit, .l (encS v.safe), .l (encS v.loose), .i v.st.width, .i v.st.now, .i v.st.given, .i v.st.births, .l (encK v.st.things), .l (encP v.st.pins), .l (encL v.st.leases), .i v.rd.phase, .l (encS v.rd.queue), .l (encS v.rd.marked), .i v.rd.top, .i v.rd.at_, .i v.rd.rounds] = some [.b (decide (VV v))] := zy hs
  by_cases V : VV v
  rotate_left
  · have d1 : doE v (ePut t k) true = same V0 1 := by unfold doE; rw [if_pos V]
    have d2 : doE v (eHold nm sm) true = same V0 1 := by unfold doE; rw [if_pos V]
    rw [d1] at P1 P2
    rw [d2] at H1 H2
    rw [decide_eq_false V] at SV
    have sv0 : SmallV V0 := GV.small (.inr rfl)
    have W : Lqcr none [.i V0.width, .i V0.limit, .l (encS V0.safe), .l (encS V0.loose), .i V0.st.width, .i V0.st.now, .i V0.st.given, .i V0.st.births, .l (encK V0.st.things), .l (encP V0.st.pins), .l (encL V0.st.leases), .i V0.rd.phase, .l (encS V0.rd.queue), .l (encS V0.rd.marked), .i V0.rd.top, .i V0.rd.at_, .i V0.rd.rounds, .i V0.width, .i V0.limit, .l (encS V0.safe), .l (encS V0.loose), .i V0.st.width, .i V0.st.now, .i V0.st.given, .i V0.st.births, .l (encK V0.st.things), .l (encP V0.st.pins), .l (encL V0.st.leases), .i V0.rd.phase, .l (encS V0.rd.queue), .l (encS V0.rd.marked), .i V0.rd.top, .i V0.rd.at_, .i V0.rd.rounds] = some [.b (decide (V0 = V0))] := wVault_eq sv0 sv0
    rw [decide_eq_true (rfl : V0 = V0)] at W
    have c0 : (encS ([] : List Bs)) = [] := rfl
    have c1 : (encK ([] : List Kept)) = [] := rfl
    have c2 : (encP ([] : List Pin)) = [] := rfl
    have c3 : (encL ([] : List Lease)) = [] := rfl
    unfold encDid same vI vL at P1 P2 H1 H2
    simp only [List.cons_append, List.nil_append, V0, R0, c0, c1, c2, c3] at P1 P2 H1 H2 W
    simp (disch := omega) only [push_cast, e1, e2, P1, P2, H1, H2, SV, W]
  have h15 := refused_15 V t ht k
  have WP : ¬ (doE v (ePut t k) true).code = 0 → (doE v (ePut t k) true).v = v := doE_same V
  have WH : ¬ (doE v (eHold nm sm) true).code = 0 → (doE v (eHold nm sm) true).v = v := doE_same V
  obtain ⟨x, hx⟩ : ∃ x, doE v (ePut t k) true = x := ⟨_, rfl⟩
  obtain ⟨y, hy⟩ : ∃ y, doE v (eHold nm sm) true = y := ⟨_, rfl⟩
  rw [hx] at P1 P2 h15 WP
  rw [hy] at H1 H2 WH
  rw [decide_eq_true V] at SV
  have W : Lqcr none [.i v.width, .i v.limit, .l (encS v.safe), .l (encS v.loose), .i v.st.width, .i v.st.now, .i v.st.given, .i v.st.births, .l (encK v.st.things), .l (encP v.st.pins), .l (encL v.st.leases), .i v.rd.phase, .l (encS v.rd.queue), .l (encS v.rd.marked), .i v.rd.top, .i v.rd.at_, .i v.rd.rounds, .i v.width, .i v.limit, .l (encS v.safe), .l (encS v.loose), .i v.st.width, .i v.st.now, .i v.st.given, .i v.st.births, .l (encK v.st.things), .l (encP v.st.pins), .l (encL v.st.leases), .i v.rd.phase, .l (encS v.rd.queue), .l (encS v.rd.marked), .i v.rd.top, .i v.rd.at_, .i v.rd.rounds] = some [.b (decide (v = v))] := wVault_eq hs hs
  rw [decide_eq_true (rfl : v = v)] at W
  unfold encDid vI vL at P1 P2 H1 H2
  simp only [List.cons_append, List.nil_append] at P1 P2 H1 H2
  have q1 : Eng.seq x.sum x.sum = true := seq_self _
  by_cases c1 : x.code = 0
  · by_cases c2 : y.code = 0
    · rw [c1] at h15 P1 P2
      simp (disch := omega) only [push_cast, e1, e2, P1, P2, H1, H2, SV]
      exact h15
    · have := WH c2
      rw [this] at H1 H2
      rw [c1] at h15 P1 P2
      simp (disch := omega) only [push_cast, e1, e2, P1, P2, H1, H2, SV, W]
      exact h15
  · have hxv := WP c1
    rw [hxv] at P1 P2 h15
    by_cases c2 : y.code = 0
    · simp (disch := omega) only [push_cast, e1, e2, P1, P2, H1, H2, SV, W]
      exact h15
    · have := WH c2
      rw [this] at H1 H2
      simp (disch := omega) only [push_cast, e1, e2, P1, P2, H1, H2, SV, W]
      exact h15
end KV
end
