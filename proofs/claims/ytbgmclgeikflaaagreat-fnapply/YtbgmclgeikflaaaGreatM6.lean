/- Plain laws over the walks' closed forms. -/
import Derived.Lib.Strings
import Derived.Test.YtbgmclgeikflaaaGreatM1
import Derived.Test.YtbgmclgeikflaaaGreatM2
import Derived.Test.YtbgmclgeikflaaaGreatM3
import Derived.Test.YtbgmclgeikflaaaGreatM4
import Derived.Test.YtbgmclgeikflaaaGreatM5
set_option linter.unusedSimpArgs false
set_option linter.unusedVariables false
set_option linter.unusedSectionVars false
section
namespace KV
open Go Go.Eng
open Classical
def eDrop (x : Bs) : Entry := ⟨7, x, E0, 0, ⟨E0, []⟩⟩
theorem zke {s : State} {r : Round} (V : VS s) (h : (unitM s r).2 ≠ E0) : hasT s.things (unitM s r).2 ∧ ¬ held s (unitM s r).2 ∧ ¬ isRef s.things (unitM s r).2 ∧ (unitM s r).2 ∉ r.marked ∧ r.phase ≠ 0 ∧ r.queue = [] := by
  unfold unitM at h ⊢
  split at h
  · exact absurd rfl h
  · rename_i h0
    rw [if_neg h0]
    split at h
    · split at h <;> exact absurd rfl h
    · rename_i hq
      split at h
      · exact absurd rfl h
      · rename_i hb
        rw [if_neg hb]
        simp only at h ⊢
        have hbl := zdz s.things r.at_ s.things.length
        have hbt : bestI s.things r.at_ s.things.length = bestT s.things r.at_ := rfl
        rw [hbt] at hbl
        split at h
        · exact absurd rfl h
        · rename_i hc
          rw [if_neg hc]
          have hm := zi (d := K0) (show (bestT s.things r.at_).toNat < s.things.length by omega)
          exact ⟨⟨_, hm, rfl⟩, fun h => hc (.inr (.inl h)), fun h => hc (.inr (.inr h)), fun h => hc (.inl h), h0, hq⟩
theorem zjg {s : State} {x : Bs} (V : VS s) (h1 : hasT s.things x) (h2 : ¬ held s x) (h3 : ¬ isRef s.things x) : x ≠ E0 ∧ zh (eDrop x) s.width = true ∧ (chg s (eDrop x)).code = 0 ∧ (chg s (eDrop x)).st = z7 s x := by
  obtain ⟨k, hk, rfl⟩ := h1
  have hne := V.sumNe hk
  have hsz : (k.sum.size : Int) = s.width := by rw [(V.okT k hk).2.1]; exact zd8 V.wd
  have hw : zj s.width = true := zw.2 V.wd
  refine ⟨hne, ?_, ?_, ?_⟩
  · have a1 : sumB 7 k.sum s.width = true := by
      unfold sumB; rw [if_pos (show uS 7 = true from rfl)]; exact decide_eq_true hsz
    have a2 : namB 7 E0 = true := by
      unfold namB; rw [if_neg (by decide)]; exact decide_eq_true rfl
    have a3 : thgB 7 ⟨E0, []⟩ s.width = true := by
      unfold thgB; rw [if_neg (by decide)]; rw [decide_eq_true (p := (E0 : Bs) = E0) rfl]; rfl
    show zh ⟨7, k.sum, E0, 0, ⟨E0, []⟩⟩ s.width = true
    unfold zh
    simp only
    rw [hw, a1, a2, a3]; rfl
  all_goals
    unfold chg
    rw [if_neg (show ¬ (eDrop k.sum).kind = 1 from (by show ¬ (7 : Int) = 1; omega)), if_neg (show ¬ (eDrop k.sum).kind = 2 from (by show ¬ (7 : Int) = 2; omega)), if_neg (show ¬ (eDrop k.sum).kind = 3 from (by show ¬ (7 : Int) = 3; omega)), if_neg (show ¬ (eDrop k.sum).kind = 4 from (by show ¬ (7 : Int) = 4; omega)), if_neg (show ¬ (eDrop k.sum).kind = 5 from (by show ¬ (7 : Int) = 5; omega)), if_neg (show ¬ (eDrop k.sum).kind = 6 from (by show ¬ (7 : Int) = 6; omega)), if_pos (show hasT s.things (eDrop k.sum).sum from ⟨k, hk, rfl⟩), if_neg (show ¬ (held s (eDrop k.sum).sum ∨ isRef s.things (eDrop k.sum).sum) from fun h => h.elim h2 h3)]
  · rfl
  · unfold z7; rw [if_neg hne]; rfl
theorem zl5 (s : State) (x : Bs) : (z7 s x).width = s.width ∧ (z7 s x).births = s.births ∧ (z7 s x).now = s.now ∧ (z7 s x).given = s.given ∧ (z7 s x).pins = s.pins ∧ (z7 s x).leases = s.leases := by
  unfold z7; split <;> exact ⟨rfl, rfl, rfl, rfl, rfl, rfl⟩
theorem zol {s : State} (V : VS s) {x : Bs} (h : x ∈ zb6 s) : hasT s.things x := by
  unfold zb6 at h
  rw [zjc, zjc] at h
  rcases h with (h | h) | h
  · cases h
  · obtain ⟨p, hp, rfl⟩ := List.mem_map.1 h; exact (V.okP p hp).2
  · obtain ⟨p, hp, rfl⟩ := List.mem_map.1 h; exact (V.okL p hp).2.2.1
theorem zos (s : State) : (zb6 s).length ≤ s.pins.length + s.leases.length := by
  unfold zb6
  have h1 := zec (s.leases.map (·.sum)) ((s.pins.map (·.sum)).foldl addU [])
  have h2 := zec (s.pins.map (·.sum)) []
  rw [List.length_map] at h1 h2
  simp at h2
  omega
theorem VS.szT {s : State} (V : VS s) {x : Bs} (h : hasT s.things x) : (x.size : Int) = s.width := by
  obtain ⟨k, hk, rfl⟩ := h; rw [(V.okT k hk).2.1]; exact zd8 V.wd
theorem zsz {s : State} {r : Round} (V : VS s) (h : RoundOk s.width s.births r) : (unitM s r).1.queue.length ≤ 23230 ∧ (unitM s r).1.marked.length ≤ 601 := by
  have hq := h.nQ; have hm := h.nM; have n2 := V.nP; have n3 := V.nL; have hr := zos s
  unfold unitM
  split
  · simp only; omega
  · split
    · rename_i x q hqq
      rw [hqq] at hq
      simp only [List.length_cons] at hq
      split
      · rename_i hc
        have hlt := ((zbs V.srtT x).1 hc.1).1
        have hrl := (V.okT _ (zi (d := K0) hlt)).1.refs
        have := List.length_filter_le (fun y => !decide (y ∈ r.marked ++ [x])) (nth K0 s.things (lb (qK x) s.things)).thing.refs
        simp only [List.length_append, List.length_cons, List.length_nil]
        omega
      · simp only; omega
    · split
      · simp
      · simp only [List.length_nil]; omega
theorem zs6 {s : State} {r : Round} (V : VS s) (h : RoundOk s.width s.births r) (hr : r.rounds < 1000000000) (hq : (unitM s r).1.queue.length ≤ 23200) (hm : (unitM s r).1.marked.length ≤ 600) : RoundOk s.width s.births (unitM s r).1 := by
  have hb := V.births; have hrd := h.rds
  unfold unitM at hq hm ⊢
  split at hq
  · rename_i h0
    rw [if_pos h0] at hm ⊢
    simp only at hq hm ⊢
    refine ⟨⟨by show (0 : Int) ≤ 1; omega, by show (1 : Int) ≤ 2; omega⟩, h.rds, hq, hm, h.szM, h.ndM, fun x hx => V.szT (zol V hx), fun h1 => absurd h1 (by show ¬ (1 : Int) = 0; omega), fun _ => ⟨hb.1, Int.le_refl _, by show (1 : Int) ≤ s.births + 1; omega, Int.le_refl _, fun _ => rfl⟩⟩
  · rename_i h0
    rw [if_neg h0] at hm ⊢
    have hgo := h.go h0
    split at hq
    · rename_i x q hqq
      simp only [hqq] at hm ⊢
      have hszx : (x.size : Int) = s.width := h.szQ x (by rw [hqq]; simp)
      have hszq : ∀ y ∈ q, (y.size : Int) = s.width := fun y hy => h.szQ y (by rw [hqq]; simp [hy])
      split at hq
      · rename_i hc
        rw [if_pos hc] at hm ⊢
        simp only at hq hm ⊢
        have hlt := ((zbs V.srtT x).1 hc.1).1
        have hrs := (V.okT _ (zi (d := K0) hlt)).1.size
        refine ⟨h.ph, h.rds, hq, hm, fun y hy => ?_, ?_, fun y hy => ?_, fun h1 => absurd h1 h0, fun _ => hgo⟩
        · rcases List.mem_append.1 hy with h1 | h1
          · exact h.szM y h1
          · rw [List.mem_singleton] at h1; rw [h1]; exact hszx
        · rw [List.nodup_append]
          refine ⟨h.ndM, by simp, fun a ha b hb => ?_⟩
          rw [List.mem_singleton] at hb
          rintro rfl
          rw [hb] at ha; exact hc.2 ha
        · rcases List.mem_append.1 hy with h1 | h1
          · exact hszq y h1
          · exact hrs y (List.mem_filter.1 h1).1
      · rename_i hc
        rw [if_neg hc] at hm ⊢
        simp only at hq hm ⊢
        exact ⟨h.ph, h.rds, hq, hm, h.szM, h.ndM, hszq, fun h1 => absurd h1 h0, fun _ => hgo⟩
    · rename_i hqq
      simp only [hqq] at hm ⊢
      split at hq
      · rename_i hc
        rw [if_pos hc]
        exact ⟨⟨Int.le_refl _, by show (0 : Int) ≤ 2; omega⟩, ⟨by show 0 ≤ r.rounds + 1; omega, by show r.rounds + 1 ≤ 1000000000; omega⟩, Nat.zero_le _, Nat.zero_le _, (fun x hx => nomatch hx), List.nodup_nil, (fun x hx => nomatch hx), fun _ => ⟨rfl, rfl, rfl, rfl⟩, fun h => absurd rfl h⟩
      · rename_i hc
        rw [if_neg hc] at hm ⊢
        simp only at hq hm ⊢
        have hbl := zdz s.things r.at_ s.things.length
        have hbi := (zkp s.things r.at_ s.things.length).2
        have hbt : bestI s.things r.at_ s.things.length = bestT s.things r.at_ := rfl
        rw [hbt] at hbl hbi
        have hmm := zi (d := K0) (show (bestT s.things r.at_).toNat < s.things.length by omega)
        have hk := (V.okT _ hmm).2.2
        have hlt := (hbi (by omega)).1
        refine ⟨⟨by show (0 : Int) ≤ 2; omega, Int.le_refl _⟩, h.rds, hq, hm, h.szM, h.ndM, (fun x hx => nomatch hx), fun h1 => absurd h1 (by show ¬ (2 : Int) = 0; omega), fun _ => ⟨hgo.1, hgo.2.1, hk.1, ?_, fun h1 => absurd h1 (by show ¬ (2 : Int) = 1; omega)⟩⟩
        show (nth K0 s.things (bestT s.things r.at_).toNat).born ≤ r.top + 1
        omega
noncomputable def stepV (v : Vault) : Vault := { v with st := z7 v.st (unitM v.st v.rd).2, rd := (unitM v.st v.rd).1, loose := if (unitM v.st v.rd).2 = E0 then v.loose else v.loose ++ [formE (eDrop (unitM v.st v.rd).2)] }
structure VQ (v : Vault) : Prop where
  wd : zj v.width = true
  lim : 0 ≤ v.limit ∧ v.limit ≤ 1000000
  log : LogOk v.safe v.loose
  run : runL v.width (empty v.width) (v.safe ++ v.loose) 0 = .inl v.st
  nq : v.rd.queue.length ≤ 23230
  nm : v.rd.marked.length ≤ 601
  rd : v.rd.queue.length ≤ 23200 → v.rd.marked.length ≤ 600 → RoundOk v.st.width v.st.births v.rd
theorem VQ.vs {v : Vault} (h : VQ v) : VS v.st ∧ v.st.width = v.width := zeg _ _ _ _ (zei (zw.1 h.wd)) rfl h.run
theorem VQ.vv {v : Vault} (h : VQ v) (hr : RoundOk v.st.width v.st.births v.rd) : VV v := ⟨h.wd, h.lim, h.log, h.run, hr⟩
theorem VQ.small {v : Vault} (h : VQ v) : SmallV v := by
  have hn := h.log.n; have hq := h.nq; have hm := h.nm; have hT := h.vs.1.nT
  refine ⟨⟨by omega, fun x hx => by have := h.log.sa x hx; omega⟩, ⟨by omega, fun x hx => by have := h.log.sb x hx; omega⟩, by omega, h.vs.1.small, by omega, by omega, by omega⟩
theorem zgu {v : Vault} (V : VV v) (hr : v.rd.rounds < 1000000000) (hl : (unitM v.st v.rd).2 = E0 ∨ v.safe.length + v.loose.length < 4000) : VQ (stepV v) := by
  have Vs := V.vs
  have hlen := zsz Vs.1 V.rd
  have hk := zl5 v.st (unitM v.st v.rd).2
  have hlog : LogOk v.safe (stepV v).loose ∧ runL v.width (empty v.width) (v.safe ++ (stepV v).loose) 0 = .inl (stepV v).st := by
    unfold stepV
    simp only
    by_cases h : (unitM v.st v.rd).2 = E0
    · rw [if_pos h]; unfold z7; rw [if_pos h]; exact ⟨V.log, V.run⟩
    · rw [if_neg h]
      obtain ⟨a, b, c, _⟩ := zke Vs.1 h
      obtain ⟨d, e, f, g⟩ := zjg Vs.1 a b c
      rw [Vs.2] at e
      have hz := zi7 e
      have hl := hl.resolve_left h
      refine ⟨⟨V.log.sa, fun x hx => ?_, ?_⟩, ?_⟩
      · rcases List.mem_append.1 hx with h1 | h1
        · exact V.log.sb x h1
        · rw [List.mem_singleton] at h1; rw [h1]; omega
      · rw [List.length_append]; simp; omega
      · rw [← List.append_assoc, zfq, V.run]
        simp only [runL, zgx e]
        rw [if_pos f, g]
  exact ⟨V.wd, V.lim, hlog.1, hlog.2, hlen.1, hlen.2, fun h1 h2 => by
    show RoundOk (z7 v.st (unitM v.st v.rd).2).width (z7 v.st (unitM v.st v.rd).2).births (unitM v.st v.rd).1
    rw [hk.1, hk.2.1]
    exact zs6 Vs.1 V.rd hr h1 h2⟩
abbrev Swp := Option (Vault × List Bs × Nat)
noncomputable def clrS : Nat → Vault → List Bs → Nat → Swp
  | 0, v, d, u => some (v, d, u)
  | n + 1, v, d, u => if 1000000000 ≤ v.rd.rounds ∨ 23200 < (unitM v.st v.rd).1.queue.length ∨ 600 < (unitM v.st v.rd).1.marked.length then none
    else if (unitM v.st v.rd).2 ≠ E0 ∧ 4000 ≤ v.safe.length + v.loose.length then some (v, d, u) else clrS n (stepV v) (d ++ oneD (unitM v.st v.rd).2) (u + 1)
def zkq : Swp → Lv
  | some (v, d, u) => .i 0 :: (vI v ++ (.i (u : Int) :: (vL v ++ [.l (encS d)])))
  | none => .i 1 :: (vI V0 ++ (.i 0 :: (vL V0 ++ [.l []])))
theorem znw (a1 a5 a6 a7 a8 a12 a15 a16 a17 : Int) (a3 a4 a9 a10 a11 a13 a14 : Rw) (w2 : Int) : ∀ (n : Nat) (v : Vault) (d : List Bs) (u : Nat), VV v → u + n ≤ 10000 → d.length ≤ u → 
    Lqb6 (some 4) [.i ((u + n : Nat) : Int), .i v.width, .i w2, .l a3, .l a4, .i a5, .i a6, .i a7, .i a8, .l a9, .l a10, .l a11, .i a12, .l a13, .l a14, .i a15, .i a16, .i a17, .i 0, .i 0, .i 0, .i 0, .i 0, .i 0, .i 0, .i 0, .i 0, .i 0, .i 0, .i 0, .i 0, .i v.width, .i v.limit, .i v.st.width, .i v.st.now, .i v.st.given, .i v.st.births, .l (encK v.st.things), .l (encP v.st.pins), .l (encL v.st.leases), .i v.rd.phase, .l (encS v.rd.queue), .l (encS v.rd.marked), .i v.rd.top, .i v.rd.at_, .i v.rd.rounds, .i (u : Int), .l [], .l [], .l [], .l [], .l [], .l [], .l [], .l [], .l (encS v.safe), .l (encS v.loose), .l (encS d)] = some (zkq (clrS n v d u)) := by
  intro n
  induction n with
  | zero =>
    intro v d u V hu hd
    have hcp := zel V
    unfold encV at hcp
    rw [eqb6_4]
    simp (disch := omega) only [push_cast, hcp]
    rfl
  | succ n ih =>
    intro v d u V hu hd
    have Vs := V.vs
    have hrd := V.rd.rds
    have hlog := V.log.n
    rw [eqb6_4, mostE]
    simp only [clrS]
    by_cases h9 : 1000000000 ≤ v.rd.rounds
    · rw [if_pos (Or.inl h9)]; simp (disch := omega) only [push_cast]; rfl
    have hun := zpi Vs.1 V.rd (by omega)
    have hun' : Lqbj none [.i v.st.width, .i v.st.now, .i v.st.given, .i v.st.births, .l (encK v.st.things), .l (encP v.st.pins), .l (encL v.st.leases), .i v.rd.phase, .l (encS v.rd.queue), .l (encS v.rd.marked), .i v.rd.top, .i v.rd.at_, .i v.rd.rounds] = _ := hun
    unfold encUn at hun'
    by_cases hq : 23200 < (unitM v.st v.rd).1.queue.length
    · rw [if_pos (Or.inr (Or.inl hq))]; simp (disch := omega) only [push_cast, hun']; rfl
    by_cases hm : 600 < (unitM v.st v.rd).1.marked.length
    · rw [if_pos (Or.inr (Or.inr hm))]; simp (disch := omega) only [push_cast, hun']; rfl
    rw [if_neg (fun h => h.elim h9 fun h => h.elim hq hm)]
    have hk := zl5 v.st (unitM v.st v.rd).2
    by_cases hd0 : (unitM v.st v.rd).2 = E0
    · rw [if_neg fun h => h.1 hd0]
      have hs := zgu V (by omega) (.inl hd0)
      have := ih (stepV v) (d ++ oneD (unitM v.st v.rd).2) (u + 1) (hs.vv (hs.rd (by show (unitM v.st v.rd).1.queue.length ≤ 23200; omega) (by show (unitM v.st v.rd).1.marked.length ≤ 600; omega))) (by omega) (by rw [List.length_append]; unfold oneD; split <;> simp <;> omega)
      rw [show u + 1 + n = u + (n + 1) by omega] at this
      have e1 : oneD (unitM v.st v.rd).2 = [] := if_pos hd0
      have e2 : stepV v = { v with rd := (unitM v.st v.rd).1 } := by unfold stepV z7; rw [if_pos hd0, if_pos hd0]
      rw [e1, List.append_nil, e2] at this
      rw [e1, List.append_nil, e2]
      have e3 : z7 v.st (unitM v.st v.rd).2 = v.st := if_pos hd0
      rw [e3, e1] at hun'
      simp (disch := omega) only [push_cast, hun', show encS [] = [] from rfl]
      exact this
    obtain ⟨a, b, c, _⟩ := zke Vs.1 hd0
    obtain ⟨e1, e2, e3, e4⟩ := zjg Vs.1 a b c
    have e2' := e2
    rw [Vs.2] at e2'
    have hfe := zf3 (eDrop (unitM v.st v.rd).2) v.width (by show (0 : Nat) ≤ 4611686018427387904; omega)
    rw [if_pos e2'] at hfe
    have hfe' : Lqbi none [.i 7, .s (unitM v.st v.rd).2, .s E0, .i 0, .s E0, .l [], .i v.width] = _ := hfe
    have e5 : oneD (unitM v.st v.rd).2 = [(unitM v.st v.rd).2] := if_neg hd0
    rw [e5] at hun'
    have hx0 : (rd (encS [(unitM v.st v.rd).2]) 0 0).str = (unitM v.st v.rd).2 := rfl
    have hcp := zel V
    unfold encV at hcp
    by_cases hf : 4000 ≤ v.safe.length + v.loose.length
    · rw [if_pos ⟨hd0, hf⟩]
      simp (disch := omega) only [push_cast, hun', hcp]
      rfl
    rw [if_neg fun h => hf h.2]
    have hs := zgu V (by omega) (.inr (by omega))
    have := ih (stepV v) (d ++ oneD (unitM v.st v.rd).2) (u + 1) (hs.vv (hs.rd (by show (unitM v.st v.rd).1.queue.length ≤ 23200; omega) (by show (unitM v.st v.rd).1.marked.length ≤ 600; omega))) (by omega) (by rw [List.length_append]; unfold oneD; split <;> simp <;> omega)
    rw [show u + 1 + n = u + (n + 1) by omega] at this
    have e6 : (stepV v).loose = v.loose ++ [formE (eDrop (unitM v.st v.rd).2)] := if_neg hd0
    rw [e5, e6] at this
    rw [e5]
    simp (disch := omega) only [push_cast, hun', hx0, hfe']
    rw [zcd, zu, zcd, zu]
    exact this
theorem zpn {v : Vault} (h : SmallV v) (n : Int) : Lqb6 none (encV v ++ [.i n]) = some (zkq (if VV v ∧ 0 ≤ n ∧ n ≤ 10000 then clrS n.toNat v [] 0 else none)) := by
  show Lqb6 none [.i v.width, .i v.limit, .l (encS v.safe), .l (encS v.loose), .i v.st.width, .i v.st.now, .i v.st.given, .i v.st.births, .l (encK v.st.things), .l (encP v.st.pins), .l (encL v.st.leases), .i v.rd.phase, .l (encS v.rd.queue), .l (encS v.rd.marked), .i v.rd.top, .i v.rd.at_, .i v.rd.rounds, .i n] = _
  have hvv := zfa h
  unfold encV at hvv
  rw [eqb6_i, hvv]
  by_cases V : VV v
  rotate_left; · rw [if_neg fun h => V h.1, decide_eq_false V]; simp (disch := omega) only [push_cast]; rfl
  rw [decide_eq_true V]
  by_cases h0 : 0 ≤ n ∧ n ≤ 10000
  rotate_left; · rw [if_neg fun h => h0 h.2]; simp (disch := omega) only [push_cast, zl]; rfl
  rw [if_pos ⟨V, h0.1, h0.2⟩]
  obtain ⟨m, rfl⟩ : ∃ m : Nat, n = m := ⟨n.toNat, by omega⟩
  have hcp := zel V
  unfold encV at hcp
  have := znw v.limit v.st.width v.st.now v.st.given v.st.births v.rd.phase v.rd.top v.rd.at_ v.rd.rounds (encS v.safe) (encS v.loose) (encK v.st.things) (encP v.st.pins) (encL v.st.leases) (encS v.rd.queue) (encS v.rd.marked) v.limit m v [] 0 V (by omega) (Nat.le_refl _)
  rw [Nat.zero_add] at this
  simp only [vI, vL, List.cons_append, List.nil_append] at hcp
  simp (disch := omega) only [push_cast, zl, decide_eq_true h0, hcp]
  exact this
end KV
end
section
namespace KV
open Go Go.Eng
open Classical
structure RB (b : Rw) : Prop where
  n : b.length ≤ 2000
  by_ : ∀ i, 0 ≤ (rd b i 0).int ∧ (rd b i 0).int ≤ 255
theorem zcr {a n : Int} (ha : 0 ≤ a) (hn : 1 ≤ n) : 0 ≤ a.tmod n ∧ a.tmod n < n := by
  rw [Int.tmod_eq_emod_of_nonneg ha]; exact ⟨Int.emod_nonneg _ (by omega), Int.emod_lt_of_pos _ (by omega)⟩
theorem zs3 {a b : Int} (ha : 0 ≤ a) (hb : 0 ≤ b) (ha2 : a < 4611686018427387904) (hb2 : b < 4611686018427387904) :
    0 ≤ IntKind.i64.wrap ((BitVec.ofInt IntKind.i64.bits a ^^^ BitVec.ofInt IntKind.i64.bits b).toNat : Int) := by
  show 0 ≤ IntKind.i64.wrap ((BitVec.ofInt 64 a ^^^ BitVec.ofInt 64 b).toNat : Int)
  rw [BitVec.toNat_xor, BitVec.toNat_ofInt, BitVec.toNat_ofInt]
  have e1 : (a % ((2 ^ 64 : Nat) : Int)).toNat = a.toNat := by
    rw [Int.emod_eq_of_lt ha (by have : (2 ^ 64 : Nat) = 18446744073709551616 := rfl; omega)]
  have e2 : (b % ((2 ^ 64 : Nat) : Int)).toNat = b.toNat := by
    rw [Int.emod_eq_of_lt hb (by have : (2 ^ 64 : Nat) = 18446744073709551616 := rfl; omega)]
  rw [e1, e2]
  have h : a.toNat ^^^ b.toNat < 2 ^ 62 := Nat.xor_lt_two_pow (by have : (2 ^ 62 : Nat) = 4611686018427387904 := rfl; omega) (by have : (2 ^ 62 : Nat) = 4611686018427387904 := rfl; omega)
  have : (2 ^ 62 : Nat) = 4611686018427387904 := rfl
  rw [w64 (by omega)]; omega
theorem zm {b : Rw} (hb : RB b) (n : Int) (hn : n ≤ 1000000000000) (p : Int) (hp : 0 ≤ p ∧ p ≤ 1000000000) : ∃ x : Int, Lqc none [.i n, .l b, .i p] = some [.i x, .l b, .i (p + 1)] ∧ 0 ≤ x ∧ (x < n ∨ x = 0) := by
  obtain ⟨p, rfl⟩ : ∃ q : Nat, p = (q : Int) := ⟨p.toNat, by omega⟩
  rw [eqc_i]
  have e1 : IntKind.i64.wrap ((p : Int) + 1) = (p : Int) + 1 := w64 (by omega)
  have e2 : IntKind.i64.wrap ((p : Int) + 1 - 1) = (p : Int) := by rw [w64 (by omega)]; omega
  rw [e1, e2]
  by_cases h1 : 1 ≤ n
  rotate_left; · exact ⟨0, by simp (disch := omega) only [push_cast], by omega, .inr rfl⟩
  by_cases h2 : b.length = 0
  · exact ⟨0, by simp (disch := omega) only [push_cast], by omega, .inr rfl⟩
  by_cases h3 : p < b.length
  · have hr := hb.by_ p
    have ht := zcr hr.1 h1
    refine ⟨((rd b p 0).int).tmod n, ?_, ht.1, .inl ht.2⟩
    simp (disch := omega) only [push_cast]
  · have hbn := hb.n
    obtain ⟨m, hm⟩ : ∃ m : Nat, b.length = m := ⟨_, rfl⟩
    rw [hm] at h2 h3 hbn ⊢
    have t1 := zcr (a := (p : Int)) (n := (m : Int)) (by omega) (by omega)
    have t2 := zcr (a := (p : Int) * 7 + 3) (n := (m : Int)) (by omega) (by omega)
    have t3 : 0 ≤ (p : Int).tdiv (m : Int) ∧ (p : Int).tdiv (m : Int) ≤ p := by
      rw [Int.tdiv_eq_ediv_of_nonneg (by omega)]
      exact ⟨Int.ediv_nonneg (by omega) (by omega), Int.ediv_le_self _ (by omega)⟩
    have r1 := hb.by_ ((p : Int).tmod (m : Int)).toNat
    have r2 := hb.by_ (((p : Int) * 7 + 3).tmod (m : Int)).toNat
    obtain ⟨c1, hc1⟩ : ∃ c, (rd b ((p : Int).tmod (m : Int)).toNat 0).int = c := ⟨_, rfl⟩
    obtain ⟨c2, hc2⟩ : ∃ c, (rd b (((p : Int) * 7 + 3).tmod (m : Int)).toNat 0).int = c := ⟨_, rfl⟩
    obtain ⟨q, hq⟩ : ∃ q, (p : Int).tdiv (m : Int) = q := ⟨_, rfl⟩
    rw [hc1] at r1; rw [hc2] at r2; rw [hq] at t3
    have hv : 0 ≤ c1 * 131 + c2 * 1117 + (p : Int) * 29 + q * 53 := by omega
    have h64 : 0 ≤ (c1 * 131 + c2 * 1117 + (p : Int) * 29 + q * 53).tdiv 64 ∧ (c1 * 131 + c2 * 1117 + (p : Int) * 29 + q * 53).tdiv 64 ≤ c1 * 131 + c2 * 1117 + (p : Int) * 29 + q * 53 := by
      rw [Int.tdiv_eq_ediv_of_nonneg hv]; omega
    have hx := zs3 hv h64.1 (by omega) (by omega)
    have ht := zcr hx h1
    refine ⟨(IntKind.i64.wrap ((BitVec.ofInt IntKind.i64.bits (c1 * 131 + c2 * 1117 + (p : Int) * 29 + q * 53) ^^^ BitVec.ofInt IntKind.i64.bits ((c1 * 131 + c2 * 1117 + (p : Int) * 29 + q * 53).tdiv 64)).toNat : Int)).tmod n, ?_, ht.1, .inl ht.2⟩
    simp (disch := omega) only [push_cast, hc1, hc2, hq]
theorem zsq {c : Rw} (hc : ∀ i, 0 ≤ (rd c i 0).int ∧ (rd c i 0).int ≤ 255) : ∃ b, Lqc4 none [.l c] = some [.l b, .i 0] ∧ RB b := by
  rw [eqc4_i]
  by_cases h : c.length ≤ 2000
  · exact ⟨c, by simp (disch := omega) only [push_cast], h, hc⟩
  · refine ⟨Eng.sub c 0 2000, by simp (disch := omega) only [push_cast] <;> rfl, ?_, fun i => ?_⟩
    · simp [Eng.sub]; omega
    · have : rd (Eng.sub c 0 2000) i 0 = if i < 2000 then rd c i 0 else .i 0 := by
        unfold rd Eng.sub
        simp only [List.drop_zero, Nat.sub_zero, List.getD_eq_getElem?_getD, List.getElem?_take]
        split <;> rfl
      rw [this]
      split
      · exact hc i
      · exact ⟨Int.le_refl _, by show (0 : Int) ≤ 255; omega⟩
theorem zmf {b : Rw} (hb : RB b) (n : Nat) (hn : n ≤ 3) : ∀ (m i : Nat) (p : Int) (acc : Rw), n + 1 - i = m → i ≤ n + 1 → 0 ≤ p ∧ p + m ≤ 1000000000 → acc.length = i →
    ∃ s p', Lqcd (some 13) [.i (n : Int), .i (i : Int), .l b, .i p, .l acc] = some [.s s, .l b, .i p'] ∧ p ≤ p' ∧ p' ≤ p + m ∧ s.size = n + 1
  | 0, i, p, acc, hm, hi, hp, ha => by
    refine ⟨bytesOf acc, p, ?_, by omega, by omega, by rw [zcb]; omega⟩
    rw [eqcd_13]; simp (disch := omega) only [push_cast]
  | m + 1, i, p, acc, hm, hi, hp, ha => by
    obtain ⟨x, hx, hx0, hx1⟩ := zm hb 6 (by omega) p (by omega)
    obtain ⟨s, p', h1, h2, h3, h4⟩ := zmf hb n hn m (i + 1) (p + 1) (acc ++ [[.i (IntKind.u8.wrap (IntKind.i64.wrap (97 + x)))]]) (by omega) (by omega) (by omega) (by simp [ha])
    refine ⟨s, p', ?_, by omega, by omega, h4⟩
    rw [eqcd_13, hx, mostE, ← h1]
    simp (disch := omega) only [push_cast]
theorem zqq {b : Rw} (hb : RB b) (p : Int) (hp : 0 ≤ p ∧ p ≤ 999999000) : ∃ s p', Lqcd none [.l b, .i p] = some [.s s, .l b, .i p'] ∧ p ≤ p' ∧ p' ≤ p + 10 ∧ s.size ≤ 4 := by
  obtain ⟨x, hx, hx0, hx1⟩ := zm hb 9 (by omega) p (by omega)
  rw [eqcd_i, hx]
  by_cases c0 : x = 0
  · exact ⟨⟨#[]⟩, p + 1, by simp (disch := omega) only [push_cast], by omega, by omega, by decide⟩
  by_cases c1 : x = 1
  · exact ⟨⟨#[97, 32, 98]⟩, p + 1, by simp (disch := omega) only [push_cast], by omega, by omega, by decide⟩
  by_cases c2 : x = 2
  · exact ⟨⟨#[37, 45, 10]⟩, p + 1, by simp (disch := omega) only [push_cast], by omega, by omega, by decide⟩
  by_cases c3 : x = 3
  · exact ⟨⟨#[255, 0]⟩, p + 1, by simp (disch := omega) only [push_cast], by omega, by omega, by decide⟩
  obtain ⟨y, hy, hy0, hy1⟩ := zm hb 4 (by omega) (p + 1) (by omega)
  obtain ⟨n, rfl⟩ : ∃ n : Nat, y = (n : Int) := ⟨y.toNat, by omega⟩
  obtain ⟨s, p', h1, h2, h3, h4⟩ := zmf hb n (by omega) (n + 1) 0 (p + 1 + 1) [] (by omega) (by omega) (by omega) rfl
  refine ⟨s, p', ?_, by omega, by omega, by omega⟩
  simp (disch := omega) only [push_cast, hy]
  exact h1
theorem zru {b : Rw} (hb : RB b) (p : Int) (hp : 0 ≤ p ∧ p ≤ 999999000) : ∃ w, Lqcp none [.l b, .i p] = some [.i w, .l b, .i (p + 1)] ∧ (w = 1 ∨ w = 2 ∨ w = 8) := by
  obtain ⟨x, hx, hx0, hx1⟩ := zm hb 8 (by omega) p (by omega)
  rw [eqcp_i, hx]
  by_cases c0 : x < 2
  · exact ⟨1, by simp (disch := omega) only [push_cast], .inl rfl⟩
  by_cases c1 : x = 2
  · exact ⟨2, by simp (disch := omega) only [push_cast], .inr (.inl rfl)⟩
  · exact ⟨8, by simp (disch := omega) only [push_cast], .inr (.inr rfl)⟩
theorem znx {l : List Bs} (h : Asc l) (x : Bs) (hx : x ∉ l) : Asc (l.take (lb (fun a => slt a x) l) ++ x :: l.drop (lb (fun a => slt a x) l)) := by
  unfold Asc at h ⊢
  have mono : ∀ a b, slt a b = true → slt b x = true → slt a x = true := fun a b h1 h2 => zbj h1 h2
  have hd : ∀ a ∈ l.drop (lb (fun a => slt a x) l), slt x a = true := fun a ha => by
    obtain ⟨j, hj, rfl⟩ := List.mem_iff_getElem.1 ha
    rw [List.length_drop] at hj
    have := lb_hi .empty h mono (lb (fun a => slt a x) l + j) (by omega) (by omega)
    rw [List.getElem_drop, ← zk .empty l _ (by omega)]
    rcases zf8.1 this with h1 | h1
    · exact absurd (h1 ▸ zi (by omega)) hx
    · exact h1
  have ht : ∀ a ∈ l.take (lb (fun a => slt a x) l), slt a x = true := fun a ha => by
    obtain ⟨j, hj, rfl⟩ := List.mem_iff_getElem.1 ha
    rw [List.length_take] at hj
    have := lb_lt (fun a => slt a x) .empty l j (by omega)
    rw [List.getElem_take, ← zk .empty l _ (by omega)]; exact this
  rw [List.pairwise_append, List.pairwise_cons]
  refine ⟨h.sublist (List.take_sublist _ _), ⟨hd, h.sublist (List.drop_sublist _ _)⟩, fun a ha b hb => ?_⟩
  rcases List.mem_cons.1 hb with rfl | hb
  · exact ht a ha
  · exact zbj (ht a ha) (hd b hb)
theorem zl3 (l : List Bs) (i : Nat) (hi : i < l.length) (out : List Bs) (ho : Asc out) (hol : out.length ≤ 1000000) (hl : l.length ≤ 1000000) : ∀ m k : Nat, lb (fun a => slt a (nth .empty l i)) out - k = m → k ≤ lb (fun a => slt a (nth .empty l i)) out →
    Lqm (some 6) [.l (encS l), .i (i : Int), .i (k : Int), .l (encS out)] = Lqm (some 3) [.l (encS l), .i ((i + 1 : Nat) : Int), .l (encS (if nth .empty l i ∈ out then out else out.take (lb (fun a => slt a (nth .empty l i)) out) ++ nth .empty l i :: out.drop (lb (fun a => slt a (nth .empty l i)) out)))]
  | m + 1, k, hm, hk => by
    have hle := lb_le (fun a => slt a (nth .empty l i)) out
    have hq := lb_lt (fun a => slt a (nth .empty l i)) .empty out k (by omega)
    rw [← zl3 l i hi out ho hol hl m (k + 1) (by omega) (by omega), eqm_6]
    simp (disch := omega) only [push_cast, hq]
  | 0, k, hm, hk => by
    have hle := lb_le (fun a => slt a (nth .empty l i)) out
    have hke : k = lb (fun a => slt a (nth .empty l i)) out := by omega
    generalize hx : nth .empty l i = x at *
    have mono : ∀ a b, slt a b = true → slt b x = true → slt a x = true := fun a b h1 h2 => zbj h1 h2
    have hmem : x ∈ out ↔ k < out.length ∧ nth .empty out k = x := by
      have := zc2 (q := fun a => slt a x) (p := fun a => a = x) .empty ho (fun a h => by rw [h]; exact zdg x) (fun a b hab hb => by rw [← hb]; exact hab)
      rw [hke, ← this]
      exact ⟨fun h => ⟨x, h, rfl⟩, fun ⟨a, h1, h2⟩ => h2 ▸ h1⟩
    have nine : x ∉ out → Lqm (some 9) [.l (encS l), .i (i : Int), .i (k : Int), .l (encS out)] = Lqm (some 3) [.l (encS l), .i ((i + 1 : Nat) : Int), .l (encS (out.take k ++ x :: out.drop k))] := fun hn => by
      have s1 : Eng.sub (encS out) 0 k = encS (out.take k) := by rw [zdh]; simp
      have s2 : Eng.sub (encS out) k out.length = encS (out.drop k) := by rw [zdh, List.take_of_length_le (by simp)]
      rw [eqm_9, mostE]
      simp (disch := omega) only [push_cast, hx, s1, s2, List.nil_append, List.length_append, List.length_take, List.length_drop]
      rw [zcd, zu, zu, List.append_assoc]; rfl
    rw [eqm_6]
    by_cases h1 : k < out.length
    · have hq : slt (nth .empty out k) x = false := by rw [hke]; exact lb_at (fun a => slt a x) .empty out (by omega)
      by_cases h2 : nth .empty out k = x
      · rw [if_pos (hmem.2 ⟨h1, h2⟩)]
        simp (disch := omega) only [push_cast, hx, hq]
      · have hn : x ∉ out := fun h => h2 (hmem.1 h).2
        rw [if_neg hn]
        simp (disch := omega) only [push_cast, hx, hq]
        rw [nine hn, hke]; simp (disch := omega) only [push_cast]
    · have hn : x ∉ out := fun h => h1 (hmem.1 h).1
      rw [if_neg hn]
      simp (disch := omega) only [push_cast]
      rw [nine hn, hke]; simp (disch := omega) only [push_cast]
theorem zje (l : List Bs) (hl : l.length ≤ 1000000) : ∃ out : List Bs, Lqm none [.l (encS l)] = some [.l (encS out)] ∧ Asc out ∧ (∀ x, x ∈ out ↔ x ∈ l) ∧ out.length ≤ l.length := by
  rw [eqm_i]
  refine zhf (f := fun (i : Nat) (out : List Bs) => Lqm (some 3) [.l (encS l), .i (i : Int), .l (encS out)]) (n := l.length) (I := fun i out => Asc out ∧ (∀ x, x ∈ out ↔ x ∈ l.take i) ∧ out.length ≤ i)
    (T := fun r => ∃ out : List Bs, r = some [.l (encS out)] ∧ Asc out ∧ (∀ x, x ∈ out ↔ x ∈ l) ∧ out.length ≤ l.length) (fun i out hi hI => .inl ?_) (fun out hI => ?_) 0 [] (Nat.zero_le _) ⟨List.Pairwise.nil, fun x => by simp, Nat.zero_le _⟩
  · obtain ⟨ho, hm, hlen⟩ := hI
    refine ⟨if nth .empty l i ∈ out then out else out.take (lb (fun a => slt a (nth .empty l i)) out) ++ nth .empty l i :: out.drop (lb (fun a => slt a (nth .empty l i)) out), ?_, ?_, fun x => ?_, ?_⟩
    · show Lqm _ _ = Lqm _ _
      rw [← zl3 l i hi out ho (by omega) hl (lb (fun a => slt a (nth .empty l i)) out) 0 (by omega) (Nat.zero_le _), eqm_3]; simp (disch := omega) only [push_cast]
    · split
      · exact ho
      · rename_i h; exact znx ho _ h
    · rw [zba .empty hi, List.mem_append, List.mem_singleton, ← hm]
      split
      · rename_i h; exact ⟨.inl, fun h1 => by rcases h1 with h1 | rfl; exact h1; exact h⟩
      · rw [List.mem_append, List.mem_cons]
        conv => rhs; rw [← List.take_append_drop (lb (fun a => slt a (nth .empty l i)) out) out, List.mem_append]
        constructor
        · rintro (h | h | h)
          · exact .inl (.inl h)
          · exact .inr h
          · exact .inl (.inr h)
        · rintro ((h | h) | h)
          · exact .inl h
          · exact .inr (.inr h)
          · exact .inr (.inl h)
    · have := lb_le (fun a => slt a (nth .empty l i)) out
      split
      · omega
      · simp; omega
  · refine ⟨out, ?_, hI.1, fun x => by rw [hI.2.1 x, List.take_length], hI.2.2⟩
    show Lqm _ _ = _
    rw [eqm_3]; simp (disch := omega) only [push_cast]
end KV
end
section
namespace KV
open Go Go.Eng
open Classical
theorem zob : ∀ (n : Nat) (s out : Bs) (T : Nat), out.size + n * s.size = T → T ≤ 1000000000 → s.size ≤ 1000000000 → n ≤ 1000000000 → ∃ r, Lqbq (some 2) [.s s, .i (n : Int), .s out] = some [.s r] ∧ r.size = T := by
  intro n
  induction n using Nat.strongRecOn with
  | ind n ih =>
    intro s out T hT hB hs hn
    rw [eqbq_2]
    by_cases h0 : n = 0
    · subst h0; exact ⟨out, by simp (disch := omega) only [push_cast], by omega⟩
    have hd : IntKind.i64.wrap ((n : Int).tdiv 2) = ((n / 2 : Nat) : Int) := by
      rw [Int.tdiv_eq_ediv_of_nonneg (by omega), w64 (by omega)]; omega
    have hm : ((n : Int).tmod 2) = ((n % 2 : Nat) : Int) := by rw [Int.tmod_eq_emod_of_nonneg (by omega)]; omega
    have hss : (s ++ s).size = s.size + s.size := zy s s
    have hmul : n * s.size = (n / 2) * (s.size + s.size) + (n % 2) * s.size := by
      conv => lhs; rw [← Nat.div_add_mod n 2]
      rw [Nat.add_mul, Nat.mul_comm 2 (n / 2), Nat.mul_assoc, Nat.two_mul]
    have hsT : s.size ≤ T := by
      have : 1 * s.size ≤ n * s.size := Nat.mul_le_mul_right _ (by omega)
      omega
    rw [hd, hm, mostE]
    by_cases h1 : n % 2 = 1
    · rw [h1] at hmul ⊢
      have hh : 2 ≤ n → s.size + s.size ≤ T := fun h2 => by
        have : 1 * (s.size + s.size) ≤ (n / 2) * (s.size + s.size) := Nat.mul_le_mul_right _ (by omega)
        omega
      by_cases h2 : 2 ≤ n
      · obtain ⟨r, hr, hr2⟩ := ih (n / 2) (by omega) (s ++ s) (out ++ s) T (by rw [zy, hss]; omega) hB (by have := hh h2; omega) (by omega)
        refine ⟨r, ?_, hr2⟩
        rw [← hr]
        simp (disch := omega) only [push_cast]
      · have hn1 : n / 2 = 0 := by omega
        refine ⟨out ++ s, ?_, by rw [zy]; rw [hn1] at hmul; omega⟩
        rw [hn1]
        simp (disch := omega) only [push_cast]
        rw [eqbq_2]; simp (disch := omega) only [push_cast]
    · have h2 : n % 2 = 0 := by omega
      rw [h2] at hmul ⊢
      have : 1 * (s.size + s.size) ≤ (n / 2) * (s.size + s.size) := Nat.mul_le_mul_right _ (by omega)
      obtain ⟨r, hr, hr2⟩ := ih (n / 2) (by omega) (s ++ s) out T (by rw [hss]; omega) hB (by omega) (by omega)
      refine ⟨r, ?_, hr2⟩
      rw [← hr]
      simp (disch := omega) only [push_cast]
theorem zk3 (s : Bs) (n : Int) (h0 : 0 ≤ n ∧ n ≤ 1000000000) (hs : s.size = 1) : ∃ r, Lqbq none [.s s, .i n] = some [.s r] ∧ (r.size : Int) = n := by
  obtain ⟨n, rfl⟩ : ∃ m : Nat, n = (m : Int) := ⟨n.toNat, by omega⟩
  rw [eqbq_i]
  obtain ⟨r, h1, h2⟩ := zob n s ⟨#[]⟩ n (by show 0 + n * s.size = n; rw [hs]; omega) (by omega) (by omega) (by omega)
  exact ⟨r, h1, by omega⟩
inductive SpT (t t' : Thing) : Prop where
  | text (h : t'.refs = t.refs) (hs : t'.text.size ≤ 2001 ∨ t'.text.size ≤ t.text.size + 1)
  | more (r : Bs) (h : t'.text = t.text) (hr : t'.refs = t.refs ++ [r]) (hs : r.size = 1 ∨ r ∈ t.refs)
  | ones (h : t'.text = t.text) (hr : ∀ r ∈ t'.refs, r.size = 1) (hn : t'.refs.length ≤ 31)
theorem zhu {b : Rw} (n : Nat) (hn : n ≤ 31) (p : Int) (x y : Bs) : ∀ (m i : Nat) (acc : List Bs), n - i = m → i ≤ n → acc.length = i → (∀ r ∈ acc, r.size = 1) →
    ∃ l : List Bs, Lqbv (some 15) [.i (n : Int), .i (i : Int), .l b, .i p, .s x, .s y, .l [], .l (encS acc)] = some [.s y, .l b, .i p, .l (encS l)] ∧ (∀ r ∈ l, r.size = 1) ∧ l.length = n
  | 0, i, acc, hm, hi, ha, hr => ⟨acc, by rw [eqbv_15]; simp (disch := omega) only [push_cast], hr, by omega⟩
  | m + 1, i, acc, hm, hi, ha, hr => by
    obtain ⟨l, h1, h2, h3⟩ := zhu n hn p x y m (i + 1) (acc ++ [bytesOf [[.i (IntKind.u8.wrap (IntKind.i64.wrap (33 + (i : Int))))]]]) (by omega) (by omega) (by simp [ha]) (fun r h => by
      rcases List.mem_append.1 h with h | h
      · exact hr r h
      · rw [List.mem_singleton] at h; rw [h, zcb]; rfl)
    refine ⟨l, ?_, h2, h3⟩
    rw [eqbv_15, ← h1, mostE, ← zu]
    simp (disch := omega) only [push_cast]; rfl
theorem zin {b : Rw} (hb : RB b) (t : Thing) (ht : t.refs.length ≤ 1000000000 ∧ t.text.size ≤ 1000000000) (p : Int) (hp : 0 ≤ p ∧ p ≤ 999998000) :
    ∃ (t' : Thing) (p' : Int), Lqbv none [.s t.text, .l (encS t.refs), .l b, .i p] = some [.s t'.text, .l b, .i p', .l (encS t'.refs)] ∧ p ≤ p' ∧ p' ≤ p + 10 ∧ SpT t t' := by
  obtain ⟨x, hx, hx0, hx1⟩ := zm hb 5 (by omega) p (by omega)
  rw [eqbv_i, zfp _ _ (by rw [zbk]; omega), mostE]
  by_cases c0 : x = 0
  · obtain ⟨y, hy, hy0, hy1⟩ := zm hb 2 (by omega) (p + 1) (by omega)
    obtain ⟨r, hr, hr2⟩ := zk3 ⟨#[116]⟩ (2000 + y) (by omega) rfl
    refine ⟨⟨r, t.refs⟩, p + 1 + 1, ?_, by omega, by omega, .text rfl (.inl (by simp only; omega))⟩
    simp (disch := omega) only [push_cast, hx, hy, hr]
  by_cases c1 : x = 1
  · refine ⟨⟨t.text, t.refs ++ [⟨#[120]⟩]⟩, p + 1, ?_, by omega, by omega, .more ⟨#[120]⟩ rfl rfl (.inl rfl)⟩
    simp (disch := omega) only [push_cast, hx]
    rw [zcd, zu]
  by_cases c2 : x = 2
  · by_cases h0 : 0 < t.refs.length
    · refine ⟨⟨t.text, t.refs ++ [nth .empty t.refs 0]⟩, p + 1, ?_, by omega, by omega, .more _ rfl rfl (.inr (zi h0))⟩
      simp (disch := omega) only [push_cast, hx]
      rw [zcd, zu]
    · refine ⟨t, p + 1, ?_, by omega, by omega, .text rfl (.inr (Nat.le_succ _))⟩
      simp (disch := omega) only [push_cast, hx]
  by_cases c3 : x = 3
  · obtain ⟨y, hy, hy0, hy1⟩ := zm hb 2 (by omega) (p + 1) (by omega)
    obtain ⟨n, hn⟩ : ∃ n : Nat, 30 + y = (n : Int) := ⟨(30 + y).toNat, by omega⟩
    obtain ⟨l, h1, h2, h3⟩ := zhu (b := b) n (by omega) (p + 1 + 1) E0 t.text n 0 [] (by omega) (by omega) rfl (fun r hr => by cases hr)
    refine ⟨⟨t.text, l⟩, p + 1 + 1, ?_, by omega, by omega, .ones rfl h2 (by simp only; omega)⟩
    simp (disch := omega) only [push_cast, hx, hy, hn]
    exact h1
  · refine ⟨⟨t.text ++ ⟨#[122]⟩, t.refs⟩, p + 1, ?_, by omega, by omega, .text rfl (.inr (by simp only; rw [zy]; exact Nat.le_refl _))⟩
    have : (⟨#[122]⟩ : Bs).size = 1 := rfl
    simp (disch := omega) only [push_cast, hx, this]
end KV
end
section
namespace KV
open Go Go.Eng
open Classical
theorem zsi (t : Thing) (w : Int) : (formT t w).size ≤ 2241 := by
  unfold formT
  split
  · rename_i h
    have := zbe (zcl.1 h)
    rw [zbh]; omega
  · exact Nat.zero_le _
end KV
end
section
namespace KV
open Go Go.Eng
open Classical
structure Act where
  kind : Int
  text : Bs
  refs : Int
  name : Bs
  pick : Int
  ticks : Int
def encA (a : Act) : Lv := [.i a.kind, .s a.text, .i a.refs, .s a.name, .i a.pick, .i a.ticks]
structure ActOk (a : Act) : Prop where
  kind : (1 ≤ a.kind ∧ a.kind ≤ 6) ∨ a.kind = 8 ∨ a.kind = 9 ∨ a.kind = 10
  text : a.text.size ≤ 4
  refs : 0 ≤ a.refs ∧ a.refs < 8
  name : a.name.size ≤ 1
  pick : 0 ≤ a.pick ∧ a.pick < 40
  ticks : 1 ≤ a.ticks ∧ a.ticks ≤ 200
def nameL : Rw := [[.s (⟨#[112]⟩ : ByteArray)], [.s (⟨#[113]⟩ : ByteArray)], [.s (⟨#[114]⟩ : ByteArray)]]
def tickL : Rw := [[.i 1], [.i 3], [.i 10], [.i 40], [.i 200]]
theorem zpb (i : Nat) : ((rd nameL i 0).str).size ≤ 1 := by
  match i with
  | 0 => exact Nat.le_refl _
  | 1 => exact Nat.le_refl _
  | 2 => exact Nat.le_refl _
  | n + 3 => exact Nat.zero_le _
theorem zm6 (i : Nat) (h : i < 5) : 1 ≤ (rd tickL i 0).int ∧ (rd tickL i 0).int ≤ 200 := by
  match i, h with
  | 0, _ => exact ⟨Int.le_refl _, by show (1 : Int) ≤ 200; omega⟩
  | 1, _ => exact ⟨by show (1 : Int) ≤ 3; omega, by show (3 : Int) ≤ 200; omega⟩
  | 2, _ => exact ⟨by show (1 : Int) ≤ 10; omega, by show (10 : Int) ≤ 200; omega⟩
  | 3, _ => exact ⟨by show (1 : Int) ≤ 40; omega, by show (40 : Int) ≤ 200; omega⟩
  | 4, _ => exact ⟨by show (1 : Int) ≤ 200; omega, Int.le_refl _⟩
theorem zij {b : Rw} (hb : RB b) (p : Int) (hp : 0 ≤ p ∧ p ≤ 999998000) : ∃ (a : Act) (p' : Int), Lqch none [.l b, .i p] = some (encA a ++ [.l b, .i p']) ∧ p ≤ p' ∧ p' ≤ p + 20 ∧ ActOk a := by
  obtain ⟨s, p1, h1, h2, h3, hs⟩ := zqq hb p (by omega)
  obtain ⟨x2, e2, r2, s2⟩ := zm hb 8 (by omega) p1 (by omega)
  obtain ⟨x3, e3, r3, s3⟩ := zm hb 3 (by omega) (p1 + 1) (by omega)
  obtain ⟨x4, e4, r4, s4⟩ := zm hb 40 (by omega) (p1 + 1 + 1) (by omega)
  obtain ⟨x5, e5, r5, s5⟩ := zm hb 5 (by omega) (p1 + 1 + 1 + 1) (by omega)
  obtain ⟨x6, e6, r6, s6⟩ := zm hb 20 (by omega) (p1 + 1 + 1 + 1 + 1) (by omega)
  have ht := zm6 x5.toNat (by omega)
  have hnm := zpb x3.toNat
  refine ⟨⟨if x6 < 7 then 1 else if x6 < 10 then 2 else if x6 = 10 then 3 else if x6 = 11 then 4 else if x6 = 12 then 5 else if x6 < 15 then 6 else if x6 = 15 then 8 else if x6 = 16 then 9 else 10, s, x2, (rd nameL x3.toNat 0).str, x4, (rd tickL x5.toNat 0).int⟩, p1 + 1 + 1 + 1 + 1 + 1, ?_, by omega, by omega, ?_⟩
  · rw [eqch_i, h1]
    simp (disch := omega) only [push_cast, e2, e3, e4, e5, e6]
    by_cases c1 : x6 < 7
    · rw [if_pos c1]; simp (disch := omega) only [push_cast]; rfl
    rw [if_neg c1]
    by_cases c2 : x6 < 10
    · rw [if_pos c2]; simp (disch := omega) only [push_cast]; rfl
    rw [if_neg c2]
    by_cases c3 : x6 = 10
    · rw [if_pos c3]; simp (disch := omega) only [push_cast]; rfl
    rw [if_neg c3]
    by_cases c4 : x6 = 11
    · rw [if_pos c4]; simp (disch := omega) only [push_cast]; rfl
    rw [if_neg c4]
    by_cases c5 : x6 = 12
    · rw [if_pos c5]; simp (disch := omega) only [push_cast]; rfl
    rw [if_neg c5]
    by_cases c6 : x6 < 15
    · rw [if_pos c6]; simp (disch := omega) only [push_cast]; rfl
    rw [if_neg c6]
    by_cases c7 : x6 = 15
    · rw [if_pos c7]; simp (disch := omega) only [push_cast]; rfl
    rw [if_neg c7]
    by_cases c8 : x6 = 16
    · rw [if_pos c8]; simp (disch := omega) only [push_cast]; rfl
    rw [if_neg c8]; simp (disch := omega) only [push_cast]; rfl
  · refine ⟨?_, hs, by simp only; omega, hnm, by simp only; omega, ht⟩
    show (1 ≤ (if x6 < 7 then (1 : Int) else _) ∧ _) ∨ _
    simp only
    repeat' split
    all_goals omega
theorem zta (a : Act) (s : State) (ha : ActOk a) (hT : 0 < s.things.length) (hn : s.things.length ≤ 1000000) : ∀ (m k : Nat) (acc : List Bs), 4 - k = m → k ≤ 4 → acc.length ≤ k → (∀ r ∈ acc, hasT s.things r) →
    ∃ l : List Bs, Lqbd (some 5) [.i (k : Int), .i a.kind, .s a.text, .i a.refs, .s a.name, .i a.pick, .i a.ticks, .i s.width, .i s.now, .i s.given, .i s.births, .l (encK s.things), .l (encP s.pins), .l (encL s.leases), .s E0, .s a.text, .l (encS acc), .l [], .l []] = some [.s a.text, .l (encS l)] ∧ l.length ≤ 4 ∧ Asc l ∧ ∀ r ∈ l, hasT s.things r := by
  intro m
  have fin : ∀ acc : List Bs, acc.length ≤ 4 → (∀ r ∈ acc, hasT s.things r) → ∃ l : List Bs, (Lqm none [.l (encS acc)]).bind (fun y1 => some ([.s a.text, .l ((g y1 0).list)] : Lv)) = some ([.s a.text, .l (encS l)] : Lv) ∧ l.length ≤ 4 ∧ Asc l ∧ ∀ r ∈ l, hasT s.things r := by
    intro acc h1 h2
    obtain ⟨out, e, h3, h4, h5⟩ := zje acc (by omega)
    exact ⟨out, by rw [e]; rfl, by omega, h3, fun r hr => h2 r ((h4 r).1 hr)⟩
  have hr := ha.refs
  have hp := ha.pick
  have hd : 0 ≤ a.refs.tdiv 2 ∧ a.refs.tdiv 2 ≤ 3 := by rw [Int.tdiv_eq_ediv_of_nonneg hr.1]; omega
  induction m with
  | zero =>
    intro k acc hm hk hl hh
    have : k = 4 := by omega
    subst this
    obtain ⟨l, e, r⟩ := fin acc (by omega) hh
    refine ⟨l, ?_, r⟩
    rw [eqbd_5]
    simp (disch := omega) only [push_cast]
    exact e
  | succ m ih =>
    intro k acc hm hk hl hh
    by_cases c : (k : Int) < a.refs.tdiv 2
    · have ht := zcr (a := a.pick + 5 * (k : Int)) (n := (s.things.length : Int)) (by omega) (by omega)
      obtain ⟨j, hj⟩ : ∃ j : Nat, (a.pick + 5 * (k : Int)).tmod (s.things.length : Int) = j := ⟨((a.pick + 5 * (k : Int)).tmod (s.things.length : Int)).toNat, by omega⟩
      obtain ⟨l, e, r⟩ := ih (k + 1) (acc ++ [(nth K0 s.things j).sum]) (by omega) (by omega) (by simp; omega) (fun r hr => by
        rcases List.mem_append.1 hr with h | h
        · exact hh r h
        · rw [List.mem_singleton] at h; rw [h]; exact ⟨_, zi (by omega), rfl⟩)
      refine ⟨l, ?_, r⟩
      rw [eqbd_5, mostE]
      rw [← zu] at e
      simp (disch := omega) only [push_cast, hj]
      exact e
    · obtain ⟨l, e, r⟩ := fin acc (by omega) hh
      refine ⟨l, ?_, r⟩
      rw [eqbd_5]
      simp (disch := omega) only [push_cast]
      exact e
theorem zis (a : Act) (s : State) (ha : ActOk a) (hn : s.things.length ≤ 1000000) : ∃ l : List Bs, Lqbd none (encA a ++ encSt s) = some [.s a.text, .l (encS l)] ∧ l.length ≤ 4 ∧ Asc l ∧ ∀ r ∈ l, hasT s.things r := by
  show ∃ l : List Bs, Lqbd none [.i a.kind, .s a.text, .i a.refs, .s a.name, .i a.pick, .i a.ticks, .i s.width, .i s.now, .i s.given, .i s.births, .l (encK s.things), .l (encP s.pins), .l (encL s.leases)] = _ ∧ _
  rw [eqbd_i]
  by_cases h : 0 < s.things.length
  · obtain ⟨l, e, r⟩ := zta a s ha h hn 4 0 [] rfl (by omega) (Nat.le_refl _) (fun r hr => nomatch hr)
    exact ⟨l, by simp (disch := omega) only [push_cast]; exact e, r⟩
  · obtain ⟨out, e, h3, h4, h5⟩ := zje [] (Nat.zero_le _)
    have e' : Lqm none [.l []] = some [.l (encS out)] := e
    refine ⟨out, by simp (disch := omega) only [push_cast, e'], by have : out.length ≤ 0 := h5; omega, h3, fun r hr => nomatch (h4 r).1 hr⟩
theorem zib (a : Act) (s : State) (ha : ActOk a) (hn : s.things.length ≤ 1000000) : ∃ x : Bs, Lqb2 none (encA a ++ encSt s) = some [.s x] := by
  show ∃ x : Bs, Lqb2 none [.i a.kind, .s a.text, .i a.refs, .s a.name, .i a.pick, .i a.ticks, .i s.width, .i s.now, .i s.given, .i s.births, .l (encK s.things), .l (encP s.pins), .l (encL s.leases)] = _
  rw [eqb2_i]
  have hp := ha.pick
  by_cases h : s.things.length = 0
  · refine ⟨sumM ⟨#[110, 111, 110, 101]⟩ s.width, ?_⟩
    simp (disch := omega) only [push_cast, zb4 (⟨#[110, 111, 110, 101]⟩ : ByteArray) s.width (by show (4 : Nat) ≤ 1099511627776; omega)]
  · have ht := zcr (a := a.pick) (n := (s.things.length : Int)) (by omega) (by omega)
    obtain ⟨j, hj⟩ : ∃ j : Nat, a.pick.tmod (s.things.length : Int) = j := ⟨(a.pick.tmod (s.things.length : Int)).toNat, by omega⟩
    exact ⟨(nth K0 s.things j).sum, by simp (disch := omega) only [push_cast, hj]⟩
theorem zkz (a : Act) (s : State) (ha : ActOk a) (hn : s.leases.length ≤ 1000000) : ∃ x : Int, Lqcf none (encA a ++ encSt s) = some [.i x] := by
  show ∃ x : Int, Lqcf none [.i a.kind, .s a.text, .i a.refs, .s a.name, .i a.pick, .i a.ticks, .i s.width, .i s.now, .i s.given, .i s.births, .l (encK s.things), .l (encP s.pins), .l (encL s.leases)] = _
  rw [eqcf_i]
  have hp := ha.pick
  by_cases h : s.leases.length = 0
  · exact ⟨1 + a.pick, by simp (disch := omega) only [push_cast]⟩
  · have ht := zcr (a := a.pick) (n := (s.leases.length : Int)) (by omega) (by omega)
    obtain ⟨j, hj⟩ : ∃ j : Nat, a.pick.tmod (s.leases.length : Int) = j := ⟨(a.pick.tmod (s.leases.length : Int)).toNat, by omega⟩
    exact ⟨(nth L0 s.leases j).number, by simp (disch := omega) only [push_cast, hj]⟩
theorem zi2 : ∀ (n : Nat) (v : Vault) (d : List Bs) (u : Nat) (r : Vault × List Bs × Nat), VV v → clrS n v d u = some r → VV r.1
  | 0, v, d, u, r, V, h => by simp only [clrS] at h; cases h; exact V
  | n + 1, v, d, u, r, V, h => by
    simp only [clrS] at h
    split at h
    · cases h
    · rename_i hc
      have hlog := V.log.n
      split at h
      · cases h; exact V
      · rename_i hd
        have hs := zgu V (by omega) (by by_cases h0 : (unitM v.st v.rd).2 = E0; { exact .inl h0 }; { exact .inr (by have : ¬ 4000 ≤ v.safe.length + v.loose.length := fun h => hd ⟨h0, h⟩; omega) })
        exact zi2 n _ _ _ _ (hs.vv (hs.rd (by show (unitM v.st v.rd).1.queue.length ≤ 23200; omega) (by show (unitM v.st v.rd).1.marked.length ≤ 600; omega))) h
def GV (v : Vault) : Prop := VV v ∨ v = V0
theorem GV.small {v : Vault} (h : GV v) : SmallV v := by
  rcases h with h | rfl
  · exact h.small
  · exact ⟨⟨Nat.zero_le _, fun x hx => nomatch hx⟩, ⟨Nat.zero_le _, fun x hx => nomatch hx⟩, Nat.zero_le _, ⟨Nat.zero_le _, Nat.zero_le _, Nat.zero_le _, fun x hx => nomatch hx⟩, Nat.zero_le _, Nat.zero_le _, Nat.zero_le _⟩
theorem GV.nT {v : Vault} (h : GV v) : v.st.things.length ≤ 1000000 ∧ v.st.leases.length ≤ 1000000 := by
  rcases h with h | rfl
  · have h1 := h.vs.1.nT; have h2 := h.vs.1.nL; omega
  · exact ⟨Nat.zero_le _, Nat.zero_le _⟩
def vA (v : Vault) : Lv := [.i v.width, .i v.limit, .l (encS v.safe), .i v.st.width, .i v.st.now, .i v.st.given, .i v.st.births, .l (encK v.st.things), .i v.rd.phase, .l (encS v.rd.queue), .l (encS v.rd.marked), .i v.rd.top, .i v.rd.at_, .i v.rd.rounds]
def vB (v : Vault) : Lv := [.l (encS v.loose), .l (encP v.st.pins), .l (encL v.st.leases)]
theorem zd3 (v : Vault) (d : Did) : Lqbf (some 21) (vA v ++ ([.i 0, .i 0, .i 0, .i 0, .i 0, .i 0, .i 0, .i 0, .i 0, .i 0] ++ (.i d.code :: (vI d.v ++ ([.s d.sum, .i d.lease, .s d.a, .s d.b] ++ (vB v ++ (vL d.v ++ [.l [], .l [], .l [], .l [], .l [], .l [], .l []]))))))) = some (vA (if d.code = 0 then d.v else v) ++ vB (if d.code = 0 then d.v else v)) := by
  show Lqbf (some 21) [.i v.width, .i v.limit, .l (encS v.safe), .i v.st.width, .i v.st.now, .i v.st.given, .i v.st.births, .l (encK v.st.things), .i v.rd.phase, .l (encS v.rd.queue), .l (encS v.rd.marked), .i v.rd.top, .i v.rd.at_, .i v.rd.rounds,
    .i 0, .i 0, .i 0, .i 0, .i 0, .i 0, .i 0, .i 0, .i 0, .i 0, .i d.code, .i d.v.width, .i d.v.limit, .i d.v.st.width, .i d.v.st.now, .i d.v.st.given, .i d.v.st.births, .i d.v.rd.phase, .i d.v.rd.top, .i d.v.rd.at_, .i d.v.rd.rounds, .s d.sum, .i d.lease, .s d.a, .s d.b, .l (encS v.loose), .l (encP v.st.pins), .l (encL v.st.leases), .l (encS d.v.safe), .l (encS d.v.loose), .l (encK d.v.st.things), .l (encP d.v.st.pins), .l (encL d.v.st.leases), .l (encS d.v.rd.queue), .l (encS d.v.rd.marked), .l [], .l [], .l [], .l [], .l [], .l [], .l []] = _
  rw [eqbf_21]
  by_cases h : d.code = 0
  · rw [if_pos h]; simp (disch := omega) only [push_cast]; rfl
  · rw [if_neg h]; simp (disch := omega) only [push_cast]; rfl
theorem zdu {v : Vault} (h : GV v) (e : Entry) : GV (if (doS v e).code = 0 then (doS v e).v else v) := by
  by_cases hc : (doS v e).code = 0
  · rw [if_pos hc]; exact .inl (ztb hc).2.2.2
  · rw [if_neg hc]; exact h
inductive Acted (v : Vault) : Vault → Prop where
  | did (e : Entry) (hk : 1 ≤ e.kind ∧ e.kind ≤ 6) (ht : e.thing.text.size ≤ 4) : Acted v (if (doS v e).code = 0 then (doS v e).v else v)
  | flush : Acted v (zct v)
  | lose (k : Int) : Acted v (loseM v k)
  | clear (n : Nat) (v' : Vault) (d : List Bs) (u : Nat) (V : VV v) (h : clrS n v [] 0 = some (v', d, u)) : Acted v v'
  | none : Acted v V0
inductive Led : Vault → Prop where
  | new (v : Vault) (ha : v.safe = []) (hb : v.loose = []) : Led v
  | act (v v' : Vault) (h : Led v) (g : GV v) (a : Acted v v') : Led v'
theorem zsw {v : Vault} (h : GV v) {a : Act} (ha : ActOk a) : ∃ v', Lqbf none (vA v ++ (encA a ++ vB v)) = some (vA v' ++ vB v') ∧ GV v' ∧ Acted v v' := by
  show ∃ v', Lqbf none [.i v.width, .i v.limit, .l (encS v.safe), .i v.st.width, .i v.st.now, .i v.st.given, .i v.st.births, .l (encK v.st.things), .i v.rd.phase, .l (encS v.rd.queue), .l (encS v.rd.marked), .i v.rd.top, .i v.rd.at_, .i v.rd.rounds, .i a.kind, .s a.text, .i a.refs, .s a.name, .i a.pick, .i a.ticks, .l (encS v.loose), .l (encP v.st.pins), .l (encL v.st.leases)] = _ ∧ _
  have hsm := h.small
  have hn := h.nT
  have hnm := ha.name
  rw [eqbf_i]
  have hk := ha.kind
  have hp := ha.pick
  by_cases c1 : a.kind = 1
  · obtain ⟨l, e, h4, _⟩ := zis a v.st ha hn.1
    have e' : Lqbd none [.i a.kind, .s a.text, .i a.refs, .s a.name, .i a.pick, .i a.ticks, .i v.st.width, .i v.st.now, .i v.st.given, .i v.st.births, .l (encK v.st.things), .l (encP v.st.pins), .l (encL v.st.leases)] = _ := e
    have ep := zth hsm ⟨a.text, l⟩ a.ticks (by show l.length ≤ 1099511627776; omega)
    have ep' : Lqcr none [.i v.width, .i v.limit, .l (encS v.safe), .l (encS v.loose), .i v.st.width, .i v.st.now, .i v.st.given, .i v.st.births, .l (encK v.st.things), .l (encP v.st.pins), .l (encL v.st.leases), .i v.rd.phase, .l (encS v.rd.queue), .l (encS v.rd.marked), .i v.rd.top, .i v.rd.at_, .i v.rd.rounds, .s a.text, .l (encS l), .i a.ticks] = _ := ep
    refine ⟨_, ?_, zdu h (ePut ⟨a.text, l⟩ a.ticks), .did (ePut ⟨a.text, l⟩ a.ticks) (by show (1 : Int) ≤ 1 ∧ (1 : Int) ≤ 6; omega) ha.text⟩
    rw [← zd3]
    simp (disch := omega) only [push_cast, e', ep']
    rfl
  by_cases c2 : a.kind = 2
  · obtain ⟨x, e⟩ := zib a v.st ha hn.1
    have e' : Lqb2 none [.i a.kind, .s a.text, .i a.refs, .s a.name, .i a.pick, .i a.ticks, .i v.st.width, .i v.st.now, .i v.st.given, .i v.st.births, .l (encK v.st.things), .l (encP v.st.pins), .l (encL v.st.leases)] = _ := e
    have ep := zr0 hsm a.name x (by omega)
    have ep' : Lqcs none [.i v.width, .i v.limit, .l (encS v.safe), .l (encS v.loose), .i v.st.width, .i v.st.now, .i v.st.given, .i v.st.births, .l (encK v.st.things), .l (encP v.st.pins), .l (encL v.st.leases), .i v.rd.phase, .l (encS v.rd.queue), .l (encS v.rd.marked), .i v.rd.top, .i v.rd.at_, .i v.rd.rounds, .s a.name, .s x] = _ := ep
    refine ⟨_, ?_, zdu h (eHold a.name x), .did (eHold a.name x) (by show (1 : Int) ≤ 2 ∧ (2 : Int) ≤ 6; omega) (Nat.zero_le _)⟩
    rw [← zd3]
    simp (disch := omega) only [push_cast, e', ep']
    rfl
  by_cases c3 : a.kind = 3
  · have ep := zr9 hsm a.name (by omega)
    have ep' : Lqct none [.i v.width, .i v.limit, .l (encS v.safe), .l (encS v.loose), .i v.st.width, .i v.st.now, .i v.st.given, .i v.st.births, .l (encK v.st.things), .l (encP v.st.pins), .l (encL v.st.leases), .i v.rd.phase, .l (encS v.rd.queue), .l (encS v.rd.marked), .i v.rd.top, .i v.rd.at_, .i v.rd.rounds, .s a.name] = _ := ep
    refine ⟨_, ?_, zdu h (zft a.name), .did (zft a.name) (by show (1 : Int) ≤ 3 ∧ (3 : Int) ≤ 6; omega) (Nat.zero_le _)⟩
    rw [← zd3]
    simp (disch := omega) only [push_cast, ep']
    rfl
  by_cases c4 : a.kind = 4
  · obtain ⟨x, e⟩ := zib a v.st ha hn.1
    have e' : Lqb2 none [.i a.kind, .s a.text, .i a.refs, .s a.name, .i a.pick, .i a.ticks, .i v.st.width, .i v.st.now, .i v.st.given, .i v.st.births, .l (encK v.st.things), .l (encP v.st.pins), .l (encL v.st.leases)] = _ := e
    have ep := zp6 hsm x a.ticks
    have ep' : Lqcu none [.i v.width, .i v.limit, .l (encS v.safe), .l (encS v.loose), .i v.st.width, .i v.st.now, .i v.st.given, .i v.st.births, .l (encK v.st.things), .l (encP v.st.pins), .l (encL v.st.leases), .i v.rd.phase, .l (encS v.rd.queue), .l (encS v.rd.marked), .i v.rd.top, .i v.rd.at_, .i v.rd.rounds, .s x, .i a.ticks] = _ := ep
    refine ⟨_, ?_, zdu h (zfk x a.ticks), .did (zfk x a.ticks) (by show (1 : Int) ≤ 4 ∧ (4 : Int) ≤ 6; omega) (Nat.zero_le _)⟩
    rw [← zd3]
    simp (disch := omega) only [push_cast, e', ep']
    rfl
  by_cases c5 : a.kind = 5
  · obtain ⟨x, e⟩ := zkz a v.st ha hn.2
    have e' : Lqcf none [.i a.kind, .s a.text, .i a.refs, .s a.name, .i a.pick, .i a.ticks, .i v.st.width, .i v.st.now, .i v.st.given, .i v.st.births, .l (encK v.st.things), .l (encP v.st.pins), .l (encL v.st.leases)] = _ := e
    have ep := zrp hsm x
    have ep' : Lqcv none [.i v.width, .i v.limit, .l (encS v.safe), .l (encS v.loose), .i v.st.width, .i v.st.now, .i v.st.given, .i v.st.births, .l (encK v.st.things), .l (encP v.st.pins), .l (encL v.st.leases), .i v.rd.phase, .l (encS v.rd.queue), .l (encS v.rd.marked), .i v.rd.top, .i v.rd.at_, .i v.rd.rounds, .i x] = _ := ep
    refine ⟨_, ?_, zdu h (zeu x), .did (zeu x) (by show (1 : Int) ≤ 5 ∧ (5 : Int) ≤ 6; omega) (Nat.zero_le _)⟩
    rw [← zd3]
    simp (disch := omega) only [push_cast, e', ep']
    rfl
  by_cases c6 : a.kind = 6
  · have ep := zmn hsm a.ticks
    have ep' : Lqcw none [.i v.width, .i v.limit, .l (encS v.safe), .l (encS v.loose), .i v.st.width, .i v.st.now, .i v.st.given, .i v.st.births, .l (encK v.st.things), .l (encP v.st.pins), .l (encL v.st.leases), .i v.rd.phase, .l (encS v.rd.queue), .l (encS v.rd.marked), .i v.rd.top, .i v.rd.at_, .i v.rd.rounds, .i a.ticks] = _ := ep
    refine ⟨_, ?_, zdu h (eWait a.ticks), .did (eWait a.ticks) (by show (1 : Int) ≤ 6 ∧ (6 : Int) ≤ 6; omega) (Nat.zero_le _)⟩
    rw [← zd3]
    simp (disch := omega) only [push_cast, ep']
    rfl
  by_cases c8 : a.kind = 8
  · have ep := zrb hsm
    unfold encV at ep
    refine ⟨zct v, ?_, ?_, .flush⟩
    · simp (disch := omega) only [push_cast, ep]; rfl
    · by_cases V : VV v
      · exact .inl (zqh V)
      · right; unfold zct; rw [if_neg V]
  by_cases c9 : a.kind = 9
  · have ep := zpm hsm (a.pick.tmod 6)
    have ep' : Lqcx none [.i v.width, .i v.limit, .l (encS v.safe), .l (encS v.loose), .i v.st.width, .i v.st.now, .i v.st.given, .i v.st.births, .l (encK v.st.things), .l (encP v.st.pins), .l (encL v.st.leases), .i v.rd.phase, .l (encS v.rd.queue), .l (encS v.rd.marked), .i v.rd.top, .i v.rd.at_, .i v.rd.rounds, .i (a.pick.tmod 6)] = _ := ep
    refine ⟨loseM v (a.pick.tmod 6), ?_, ?_, .lose _⟩
    · simp (disch := omega) only [push_cast, ep']; rfl
    · by_cases V : VV v
      · exact .inl (zmq V _)
      · right; unfold loseM; rw [if_neg V]
  have c10 : a.kind = 10 := by omega
  have ep := zpn hsm a.pick
  have ep' : Lqb6 none [.i v.width, .i v.limit, .l (encS v.safe), .l (encS v.loose), .i v.st.width, .i v.st.now, .i v.st.given, .i v.st.births, .l (encK v.st.things), .l (encP v.st.pins), .l (encL v.st.leases), .i v.rd.phase, .l (encS v.rd.queue), .l (encS v.rd.marked), .i v.rd.top, .i v.rd.at_, .i v.rd.rounds, .i a.pick] = _ := ep
  cases hr : (if VV v ∧ 0 ≤ a.pick ∧ a.pick ≤ 10000 then clrS a.pick.toNat v [] 0 else none) with
  | none =>
    rw [hr] at ep'
    refine ⟨V0, ?_, .inr rfl, .none⟩
    simp (disch := omega) only [push_cast, ep']; rfl
  | some r =>
    rw [hr] at ep'
    obtain ⟨v', d, u⟩ := r
    have hcv : VV v ∧ clrS a.pick.toNat v [] 0 = some (v', d, u) := by
      split at hr
      · rename_i hc; exact ⟨hc.1, hr⟩
      · cases hr
    refine ⟨v', ?_, .inl (zi2 _ _ _ _ _ hcv.1 hcv.2), .clear _ _ _ _ hcv.1 hcv.2⟩
    simp (disch := omega) only [push_cast, ep']; rfl
end KV
end
section
namespace KV
open Go Go.Eng
open Classical
def GL (v : Vault) : Prop := GV v ∧ Led v
theorem zjs {b : Rw} (hb : RB b) : ∀ (n : Nat) (v : Vault) (p : Int), GL v → 0 ≤ p ∧ p + 20 * n ≤ 999998000 →
    ∃ (v' : Vault) (p' : Int), Lqbg (some 8) ([.i (n : Int), .l b, .i p, .i 0, .i 0, .i 0, .i 0, .i 0, .i 0, .i 0, .i 0, .i 0, .i 0] ++ (vA v ++ ([.l [], .l [], .l [], .l [], .l [], .l [], .l []] ++ vB v))) = some (vA v' ++ ([.l b, .i p'] ++ vB v')) ∧ p ≤ p' ∧ p' ≤ p + 20 * n ∧ GL v' := by
  intro n
  induction n with
  | zero =>
    intro v p hv hp
    refine ⟨v, p, ?_, by omega, by omega, hv⟩
    show Lqbg (some 8) [.i ((0 : Nat) : Int), .l b, .i p, .i 0, .i 0, .i 0, .i 0, .i 0, .i 0, .i 0, .i 0, .i 0, .i 0, .i v.width, .i v.limit, .l (encS v.safe), .i v.st.width, .i v.st.now, .i v.st.given, .i v.st.births, .l (encK v.st.things), .i v.rd.phase, .l (encS v.rd.queue), .l (encS v.rd.marked), .i v.rd.top, .i v.rd.at_, .i v.rd.rounds, .l [], .l [], .l [], .l [], .l [], .l [], .l [], .l (encS v.loose), .l (encP v.st.pins), .l (encL v.st.leases)] = _
    rw [eqbg_8]
    simp (disch := omega) only [push_cast]
    rfl
  | succ n ih =>
    intro v p hv hp
    obtain ⟨a, p1, ea, h1, h2, ha⟩ := zij hb p (by omega)
    obtain ⟨v1, ed, hv1, ac⟩ := zsw hv.1 ha
    obtain ⟨v2, p2, er, h3, h4, hv2⟩ := ih v1 p1 ⟨hv1, .act v v1 hv.2 hv.1 ac⟩ (by omega)
    refine ⟨v2, p2, ?_, by omega, by omega, hv2⟩
    show Lqbg (some 8) [.i ((n + 1 : Nat) : Int), .l b, .i p, .i 0, .i 0, .i 0, .i 0, .i 0, .i 0, .i 0, .i 0, .i 0, .i 0, .i v.width, .i v.limit, .l (encS v.safe), .i v.st.width, .i v.st.now, .i v.st.given, .i v.st.births, .l (encK v.st.things), .i v.rd.phase, .l (encS v.rd.queue), .l (encS v.rd.marked), .i v.rd.top, .i v.rd.at_, .i v.rd.rounds, .l [], .l [], .l [], .l [], .l [], .l [], .l [], .l (encS v.loose), .l (encP v.st.pins), .l (encL v.st.leases)] = _
    rw [eqbg_8, ea]
    have ed' : Lqbf none [.i v.width, .i v.limit, .l (encS v.safe), .i v.st.width, .i v.st.now, .i v.st.given, .i v.st.births, .l (encK v.st.things), .i v.rd.phase, .l (encS v.rd.queue), .l (encS v.rd.marked), .i v.rd.top, .i v.rd.at_, .i v.rd.rounds, .i a.kind, .s a.text, .i a.refs, .s a.name, .i a.pick, .i a.ticks, .l (encS v.loose), .l (encP v.st.pins), .l (encL v.st.leases)] = _ := ed
    unfold encA
    simp only [List.cons_append, List.nil_append]
    simp (disch := omega) only [push_cast, ed']
    rw [show (n : Int) + 1 - 1 = (n : Int) by omega]
    exact er
theorem zm4 (w lim : Int) (hw : w = 1 ∨ w = 2 ∨ w = 8) (hl : 0 ≤ lim ∧ lim ≤ 1000000) : ∃ v, Lqce none [.i w, .i lim, .l [], .l []] = some (encO (.inl v)) ∧ VV v ∧ v.rd = R0 ∧ v.safe = [] ∧ v.loose = [] := by
  have := ziz w lim [] [] ⟨Nat.zero_le _, fun x hx => nomatch hx⟩ ⟨Nat.zero_le _, fun x hx => nomatch hx⟩ (Nat.zero_le _)
  have hwb : zj w = true := zw.2 (by omega)
  have hlog : LogOk [] [] := ⟨(fun x hx => nomatch hx), (fun x hx => nomatch hx), Nat.zero_le _⟩
  have ho : openM w lim [] [] = .inl ⟨w, lim, [], [], empty w, R0⟩ := by
    unfold openM
    rw [if_pos ⟨hwb, hl, hlog⟩]
    simp [runL]
  rw [ho] at this
  refine ⟨_, this, ⟨hwb, hl, hlog, by simp [runL], ?_⟩, rfl, rfl, rfl⟩
  exact (show RoundOk w 0 R0 from ⟨⟨Int.le_refl _, (by show (0 : Int) ≤ 2; omega)⟩, ⟨Int.le_refl _, (by show (0 : Int) ≤ 1000000000; omega)⟩, Nat.zero_le _, Nat.zero_le _, (fun x hx => nomatch hx), List.nodup_nil, (fun x hx => nomatch hx), fun _ => ⟨rfl, rfl, rfl, rfl⟩, fun h => absurd rfl h⟩)
theorem zoe {b : Rw} (hb : RB b) (p : Int) (hp : 0 ≤ p ∧ p ≤ 900000000) : ∃ (v : Vault) (p' : Int), Lqbg none [.l b, .i p] = some (vA v ++ ([.l b, .i p'] ++ vB v)) ∧ p ≤ p' ∧ p' ≤ p + 600 ∧ GL v := by
  obtain ⟨x1, e1, r1, s1⟩ := zm hb 6 (by omega) p (by omega)
  have go : ∀ (lim q : Int), 0 ≤ lim ∧ lim ≤ 1000000 → p ≤ q ∧ q ≤ p + 2 → ∃ (w : Int) (v0 : Vault) (x5 x6 : Int), Lqcp none [.l b, .i q] = some [.i w, .l b, .i (q + 1)] ∧ Lqce none [.i w, .i lim, .l [], .l []] = some (encO (.inl v0)) ∧ GL v0 ∧ v0.rd = R0 ∧
      Lqc none [.i 14, .l b, .i (q + 1)] = some [.i x5, .l b, .i (q + 1 + 1)] ∧ Lqc none [.i 6, .l b, .i (q + 1 + 1)] = some [.i x6, .l b, .i (q + 1 + 1 + 1)] ∧ 0 ≤ x5 ∧ x5 < 14 := by
    intro lim q hl hq
    obtain ⟨w, ew, hw⟩ := zru hb q (by omega)
    obtain ⟨v0, eo, hv, hr, ha, hb'⟩ := zm4 w lim hw hl
    obtain ⟨x5, e5, r5, s5⟩ := zm hb 14 (by omega) (q + 1) (by omega)
    obtain ⟨x6, e6, r6, s6⟩ := zm hb 6 (by omega) (q + 1 + 1) (by omega)
    exact ⟨w, v0, x5, x6, ew, eo, ⟨.inl hv, .new v0 ha hb'⟩, hr, e5, e6, by omega, by omega⟩
  have fin : ∀ (v0 : Vault) (x5 x6 q : Int), v0.rd = R0 → GL v0 → 0 ≤ x5 ∧ x5 < 14 → p ≤ q ∧ q ≤ p + 10 → ∃ (v : Vault) (p' : Int), p ≤ p' ∧ p' ≤ p + 600 ∧ GL v ∧ (cond (decide (x6 = 0)) (Lqbg (some 8) ([.i (x5 + 12), .l b, .i q, .i 0, .i 0, .i 0, .i 0, .i 0, .i 0, .i 0, .i 0, .i 0, .i 0] ++ (vA v0 ++ ([.l [], .l [], .l [], .l [], .l [], .l [], .l []] ++ vB v0)))) (Lqbg (some 8) ([.i x5, .l b, .i q, .i 0, .i 0, .i 0, .i 0, .i 0, .i 0, .i 0, .i 0, .i 0, .i 0] ++ (vA v0 ++ ([.l [], .l [], .l [], .l [], .l [], .l [], .l []] ++ vB v0))))) = some (vA v ++ ([.l b, .i p'] ++ vB v)) := by
    intro v0 x5 x6 q hr hg hx hq
    by_cases c : x6 = 0
    · obtain ⟨n, hn⟩ : ∃ n : Nat, x5 + 12 = n := ⟨(x5 + 12).toNat, by omega⟩
      obtain ⟨v, p', e, h1, h2, h3⟩ := zjs hb n v0 q hg (by omega)
      refine ⟨v, p', by omega, by omega, h3, ?_⟩
      rw [decide_eq_true c, cond_true, hn]; exact e
    · obtain ⟨n, hn⟩ : ∃ n : Nat, x5 = n := ⟨x5.toNat, by omega⟩
      obtain ⟨v, p', e, h1, h2, h3⟩ := zjs hb n v0 q hg (by omega)
      refine ⟨v, p', by omega, by omega, h3, ?_⟩
      rw [decide_eq_false c, cond_false, hn]; exact e
  rw [eqbg_i, e1]
  by_cases c : x1 = 0
  · obtain ⟨x2, e2, r2, s2⟩ := zm hb 60 (by omega) (p + 1) (by omega)
    obtain ⟨w, v0, x5, x6, ew, eo, hg, hr, e5, e6, h0, h14⟩ := go (20 + x2) (p + 1 + 1) (by omega) (by omega)
    obtain ⟨v, p', h1, h2, h3, e⟩ := fin v0 x5 x6 (p + 1 + 1 + 1 + 1 + 1) hr hg ⟨h0, h14⟩ (by omega)
    refine ⟨v, p', ?_, h1, h2, h3⟩
    unfold encO at eo
    unfold vA vB at e
    rw [hr] at e
    simp (disch := omega) only [push_cast, e2, ew, eo, e5, e6]
    exact e
  · obtain ⟨w, v0, x5, x6, ew, eo, hg, hr, e5, e6, h0, h14⟩ := go 1000000 (p + 1) (by omega) (by omega)
    obtain ⟨v, p', h1, h2, h3, e⟩ := fin v0 x5 x6 (p + 1 + 1 + 1 + 1) hr hg ⟨h0, h14⟩ (by omega)
    refine ⟨v, p', ?_, h1, h2, h3⟩
    unfold encO at eo
    unfold vA vB at e
    rw [hr] at e
    simp (disch := omega) only [push_cast, ew, eo, e5, e6]
    exact e
end KV
end
section
namespace KV
open Go Go.Eng
open Classical
theorem ze6 (n : Int) : (bytesOf ([[.i n]] : Rw)).size = 1 := zcb _
theorem dec_R : ∀ (k : Nat) (n : Int), n < 10 ^ (k + 1) → n ≤ 1000000000 → k ≤ 100 → ∃ s, Rqbk (k + 1) none [.i n] = some [.s s] ∧ 1 ≤ s.size ∧ s.size ≤ k + 1
  | 0, n, h, hn, hk => by
    have h10 : n < 10 := by simpa using h
    refine ⟨_, by rw [eqbk_i, cpos h10], ?_⟩
    rw [ze6]; omega
  | k + 1, n, h, hn, hk => by
    rw [eqbk_i]
    by_cases h10 : n < 10
    · refine ⟨_, by rw [cpos h10], ?_⟩
      rw [ze6]; omega
    · have hd : n.tdiv 10 < 10 ^ (k + 1) := by
        rw [Int.tdiv_eq_ediv_of_nonneg (by omega)]
        have : (10 : Int) ^ (k + 1 + 1) = 10 ^ (k + 1) * 10 := Int.pow_succ ..
        omega
      have h0 : 0 ≤ n.tdiv 10 ∧ n.tdiv 10 ≤ n := by rw [Int.tdiv_eq_ediv_of_nonneg (by omega)]; omega
      obtain ⟨s, e, h1, h2⟩ := dec_R k (n.tdiv 10) hd (by omega) (by omega)
      refine ⟨s ++ bytesOf ([[.i (IntKind.u8.wrap (IntKind.i64.wrap (48 + (n.tmod 10))))]] : Rw), ?_, ?_⟩
      · rw [cneg h10, w64 (n := n.tdiv 10) (by omega), e, mostE, Option.bind_some]
        show cond (decide (s.size + _ ≤ 1099511627776)) _ _ = _
        rw [cpos (by rw [ze6]; omega)]; rfl
      · rw [zy, ze6]; omega
theorem zr3 (n : Int) (h : n ≤ 1000000) : ∃ s, Lqbk none [.i n] = some [.s s] ∧ 1 ≤ s.size ∧ s.size ≤ 20 :=
  dec_R 19 n (by have : (10 : Int) ^ (19 + 1) = 100000000000000000000 := by decide
                 omega) (by omega) (by omega)
theorem zsa (n i : Int) (ap : Bool) (last x : Bs) (refs : List Bs) (hi : 0 ≤ i ∧ i ≤ 1000000) (T : List Kept) (hT : T.length ≤ 100000) : ∀ (m k : Nat), T.length - k = m → k ≤ T.length →
    ∃ T' : List Kept, Lq3 (some 11) [.i n, .b ap, .s last, .i i, .i (k : Int), .i 0, .i 0, .i 0, .i 0, .i 8, .i 0, .i 0, .i n, .s x, .l [], .l [], .l [], .l (encK T), .l [], .l [], .l (encS refs)] =
      Lq3 (some 4) [.i n, .b ap, .s last, .i (i + 1), .i 0, .i 0, .i 0, .i 0, .i 8, .i 0, .i 0, .i n, .l [], .l [], .l [], .l (encK T'), .l [], .l []] ∧ T'.length = T.length + 1 ∧ ∀ k ∈ T', k ∈ T ∨ k = ⟨last, i, ⟨x, refs⟩⟩ := by
  intro m
  have ins : ∀ k : Nat, k ≤ T.length → ((([] : Rw) ++ (Eng.sub (encK T) 0 k)) ++ ([[.s last, .i i, .s x, .l (encS refs)]] : Rw)) ++ (Eng.sub (encK T) k T.length) = encK (T.take k ++ ⟨last, i, ⟨x, refs⟩⟩ :: T.drop k) := by
    intro k hk
    rw [zb9, zb9, zcy, List.nil_append, z8, z8, List.drop_zero, Nat.sub_zero, List.take_of_length_le (l := T.drop k) (by rw [List.length_drop]; exact Nat.le_refl _), List.append_assoc]; rfl
  have fin : ∀ k : Nat, k ≤ T.length → (T.take k ++ (⟨last, i, ⟨x, refs⟩⟩ : Kept) :: T.drop k).length = T.length + 1 ∧ ∀ y ∈ T.take k ++ (⟨last, i, ⟨x, refs⟩⟩ : Kept) :: T.drop k, y ∈ T ∨ y = ⟨last, i, ⟨x, refs⟩⟩ := by
    intro k hk
    refine ⟨by rw [List.length_append, List.length_cons, List.length_take, List.length_drop]; omega, fun y hy => ?_⟩
    rcases List.mem_append.1 hy with h | h
    · exact .inl (List.mem_of_mem_take h)
    · rcases List.mem_cons.1 h with h | h
      · exact .inr h
      · exact .inl (List.mem_of_mem_drop h)
  have l1 : ∀ k : Nat, k ≤ T.length → (Eng.sub (encK T) 0 k).length = k := fun k hk => by rw [zb9, zc1, List.length_take, List.length_drop]; omega
  have l2 : ∀ k : Nat, k ≤ T.length → (Eng.sub (encK T) k T.length).length = T.length - k := fun k hk => by rw [zb9, zc1, List.length_take, List.length_drop]; omega
  induction m with
  | zero =>
    intro k hm hk
    have : k = T.length := by omega
    subst this
    refine ⟨_, ?_, fin T.length (Nat.le_refl _)⟩
    have := ins T.length (Nat.le_refl _)
    have a1 := l1 T.length (Nat.le_refl _); have a2 := l2 T.length (Nat.le_refl _)
    rw [eq3_11, mostE]
    simp (disch := omega) only [push_cast, a1, a2, List.length_append, List.length_nil, ← this]
  | succ m ih =>
    intro k hm hk
    have hlt : k < T.length := by omega
    cases hs : slt (nth K0 T k).sum last
    · refine ⟨_, ?_, fin k hk⟩
      have := ins k hk
      have a1 := l1 k hk; have a2 := l2 k hk
      rw [eq3_11, mostE]
      simp (disch := omega) only [push_cast, hs, a1, a2, List.length_append, List.length_nil, ← this]
    · obtain ⟨T', e, r⟩ := ih (k + 1) (by omega) (by omega)
      refine ⟨T', ?_, r⟩
      rw [eq3_11]
      simp (disch := omega) only [push_cast, hs]
      exact e
structure MT (k : Kept) : Prop where
  text : k.thing.text.size ≤ 20
  refs : k.thing.refs.length ≤ 1
  size : ∀ r ∈ k.thing.refs, r.size = 8
  sm : k.sum.size = 8
theorem zpy (n : Nat) (hn : n ≤ 1000) (ap : Bool) : ∀ (m i : Nat) (last : Bs) (T : List Kept), n + 1 - i = m → 1 ≤ i → i ≤ n + 1 → T.length + 1 = i → (last = E0 ∨ last.size = 8) → (∀ k ∈ T, MT k) →
    ∃ T' : List Kept, Lq3 (some 4) [.i (n : Int), .b ap, .s last, .i (i : Int), .i 0, .i 0, .i 0, .i 0, .i 8, .i 0, .i 0, .i (n : Int), .l [], .l [], .l [], .l (encK T), .l [], .l []] = some [.i 8, .i 0, .i 0, .i (n : Int), .l (encK T'), .l [], .l []] ∧ T'.length = n ∧ ∀ k ∈ T', MT k := by
  intro m
  induction m with
  | zero =>
    intro i last T hm h1 hi hT hl hM
    refine ⟨T, ?_, by omega, hM⟩
    rw [eq3_4]; simp (disch := omega) only [push_cast]
  | succ m ih =>
    intro i last T hm h1 hi hT hl hM
    obtain ⟨x, ex, hx1, hx2⟩ := zr3 (i : Int) (by omega)
    have h8 : zj 8 = true := by rfl
    have go : ∀ refs : List Bs, refs.length ≤ 1 → (∀ r ∈ refs, r.size = 8) → ∃ T' : List Kept, Lq3 (some 11) [.i (n : Int), .b ap, .s (sumM (formT ⟨x, refs⟩ 8) 8), .i (i : Int), .i 0, .i 0, .i 0, .i 0, .i 0, .i 8, .i 0, .i 0, .i (n : Int), .s x, .l [], .l [], .l [], .l (encK T), .l [], .l [], .l (encS refs)] = some [.i 8, .i 0, .i 0, .i (n : Int), .l (encK T'), .l [], .l []] ∧ T'.length = n ∧ ∀ k ∈ T', MT k := by
      intro refs hr1 hr2
      obtain ⟨T1, e1, h3, h4⟩ := zsa (n : Int) (i : Int) ap (sumM (formT ⟨x, refs⟩ 8) 8) x refs (by omega) T (by omega) T.length 0 (by omega) (Nat.zero_le _)
      have hz := zfb (s := formT ⟨x, refs⟩ 8) h8
      obtain ⟨T2, e2, h5, h6⟩ := ih (i + 1) (sumM (formT ⟨x, refs⟩ 8) 8) T1 (by omega) (by omega) (by omega) (by omega) (.inr (by omega)) (fun k hk => by
        rcases h4 k hk with h | h
        · exact hM k h
        · rw [h]; exact ⟨hx2, hr1, hr2, by show (sumM (formT ⟨x, refs⟩ 8) 8).size = 8; omega⟩)
      exact ⟨T2, e1.trans e2, h5, h6⟩
    have hft : ∀ refs : List Bs, Lqf none [.s (formT ⟨x, refs⟩ 8), .i 8] = some [.s (sumM (formT ⟨x, refs⟩ 8) 8)] := fun refs => zb4 _ 8 (by have := zsi ⟨x, refs⟩ 8; omega)
    have hfo : ∀ refs : List Bs, Lqr none [.s x, .l (encS refs), .i 8] = some [.s (formT ⟨x, refs⟩ 8)] := fun refs => zcq ⟨x, refs⟩ 8
    have hf0 : Lqr none [.s x, .l [], .i 8] = some [.s (formT ⟨x, []⟩ 8)] := hfo []
    have hf1 : Lqr none [.s x, .l [[.s last]], .i 8] = some [.s (formT ⟨x, [last]⟩ 8)] := hfo [last]
    rw [eq3_4]
    cases ap
    · by_cases hE : last = E0
      · obtain ⟨T', e, r⟩ := go [] (by simp) (fun r hr => nomatch hr)
        refine ⟨T', ?_, r⟩
        simp (disch := omega) only [push_cast, ex, hf0, hft]
        exact e
      · obtain ⟨T', e, r⟩ := go [last] (by simp) (fun r hr => by rw [List.mem_singleton] at hr; rw [hr]; exact hl.resolve_left hE)
        refine ⟨T', ?_, r⟩
        simp (disch := omega) only [push_cast, ex, hf1, hft]
        exact e
    · obtain ⟨T', e, r⟩ := go [] (by simp) (fun r hr => nomatch hr)
      refine ⟨T', ?_, r⟩
      simp (disch := omega) only [push_cast, ex, hf0, hft]
      exact e
theorem zhr (n : Nat) (hn : n ≤ 1000) (ap : Bool) : ∃ T' : List Kept, Lq3 none [.i (n : Int), .b ap] = some [.i 8, .i 0, .i 0, .i (n : Int), .l (encK T'), .l [], .l []] ∧ T'.length = n ∧ ∀ k ∈ T', MT k := by
  obtain ⟨T', e, r⟩ := zpy n hn ap n 1 E0 [] (by omega) (Nat.le_refl _) (by omega) rfl (.inl rfl) (fun k hk => nomatch hk)
  exact ⟨T', by rw [eq3_i]; exact e, r⟩
end KV
end
section
namespace KV
open Go Go.Eng
open Classical
def bl (s : Bs) : List UInt8 := s.data.toList
theorem zhb (x y : Bs) : bl (x ++ y) = bl x ++ bl y := by
  unfold bl; rw [ByteArray.data_append, Array.toList_append]
theorem zn6 {x y : Bs} (h : bl x = bl y) : x = y := Go.WideShapes.bytes_inj h
theorem zji (x : Bs) : (bl x).length = x.size := by unfold bl; rw [Array.length_toList]; rfl
theorem zii (l : List Bs) : ∀ a, bl (cat a l) = bl a ++ l.flatMap bl := by
  induction l with
  | nil => intro a; simp [cat]
  | cons x l ih => intro a; show bl (cat (a ++ x) l) = _; rw [ih, zhb, List.flatMap_cons, List.append_assoc]
theorem zi6 {w : Nat} : ∀ (l m : List Bs), (∀ r ∈ l, r.size = w) → (∀ r ∈ m, r.size = w) → l.length = m.length → l.flatMap bl = m.flatMap bl → l = m
  | [], [], _, _, _, _ => rfl
  | [], _ :: _, _, _, h, _ => by simp at h
  | _ :: _, [], _, _, h, _ => by simp at h
  | x :: l, y :: m, h1, h2, h3, h4 => by
    rw [List.flatMap_cons, List.flatMap_cons] at h4
    have := List.append_inj h4 (by rw [zji, zji, h1 x (by simp), h2 y (by simp)])
    rw [zn6 this.1, zi6 l m (fun r hr => h1 r (by simp [hr])) (fun r hr => h2 r (by simp [hr])) (by simpa using h3) this.2]
theorem zfc {l : List Bs} {w : Nat} (h : ∀ r ∈ l, r.size = w) : szs l = l.length * w := by
  induction l with
  | nil => simp [szs]
  | cons a l ih => rw [zek, List.length_cons, ih fun r hr => h r (by simp [hr]), h a (by simp), Nat.add_mul]; omega
theorem zit {t u : Thing} {a b : Nat} (ha : ∀ r ∈ t.refs, r.size = a) (hb : ∀ r ∈ u.refs, r.size = b) (ht : t.text = u.text) (hn : t.refs.length = u.refs.length) (hf : formM t = formM u) : t.refs = u.refs := by
  have h1 := congrArg ByteArray.size hf
  rw [zbh, zbh, ht, zfc ha, zfc hb, hn] at h1
  by_cases h0 : u.refs.length = 0
  · rw [List.eq_nil_of_length_eq_zero h0, List.eq_nil_of_length_eq_zero (hn.trans h0)]
  · have hab : a = b := Nat.eq_of_mul_eq_mul_left (by omega : 0 < u.refs.length) (by omega)
    subst hab
    have h2 := congrArg bl hf
    unfold formM at h2
    rw [zhb, zhb, zii, zii, ht, hn] at h2
    have h3 := List.append_cancel_right h2
    exact zi6 _ _ ha hb hn (List.append_cancel_left h3)
structure BS (s : State) : Prop where
  nT : s.things.length ≤ 1000
  nP : s.pins.length ≤ 1000
  nL : s.leases.length ≤ 1000
  t : ∀ k ∈ s.things, 1 + szs k.thing.refs + k.thing.text.size ≤ 1000000 ∧ k.thing.refs.length ≤ 40 ∧ k.thing.text.size ≤ 3000 ∧ k.sum.size ≤ 100
  nm : ∀ p ∈ s.pins, p.name.size ≤ 100
  ints : (-10 ≤ s.width ∧ s.width ≤ 100) ∧ (-1 ≤ s.now ∧ s.now ≤ 1000001000) ∧ (-1 ≤ s.given ∧ s.given ≤ 1000001000) ∧ (-1 ≤ s.births ∧ s.births ≤ 1000001000)
theorem BS.small {s : State} (h : BS s) : Small1 s := by
  have h1 := h.nT; have h2 := h.nP; have h3 := h.nL
  exact ⟨by omega, by omega, by omega, fun k hk => by have := h.t k hk; omega⟩
theorem BS.names {s : State} (h : BS s) : ∀ p ∈ s.pins, p.name.size ≤ 4611686018427387904 := fun p hp => by have := h.nm p hp; omega
theorem VS.bs {s : State} (V : VS s) : BS s := by
  have h1 := V.nT; have h2 := V.nP; have h3 := V.nL; have a := V.wd; have b := V.now; have c := V.given; have d := V.births
  exact ⟨by omega, by omega, by omega, fun k hk => by
    have := zbe (V.okT k hk).1; have := (V.okT k hk).1.text
    have hz : ((sumM (formM k.thing) s.width).size : Int) = s.width := zfb (zw.2 V.wd)
    rw [← (V.okT k hk).2.1] at hz
    omega, fun p hp => by have := (V.okP p hp).1.hi; omega, by omega, by omega, by omega, by omega⟩
theorem Cut.same {s s' : State} (h : s'.things = s.things) : Cut s s' := fun i h1 h2 _ _ _ => by rw [h]
theorem Cut.uni {s s' : State} {a b : Nat} (ha : ∀ k ∈ s.things, ∀ r ∈ k.thing.refs, r.size = a) (hb : ∀ k ∈ s'.things, ∀ r ∈ k.thing.refs, r.size = b) : Cut s s' := fun i h1 h2 h3 h4 h5 =>
  zit (ha _ (zi h1)) (hb _ (zi h2)) h3 h4 h5
theorem VS.uni {s : State} (V : VS s) : ∀ k ∈ s.things, ∀ r ∈ k.thing.refs, r.size = s.width.toNat := fun k hk r hr => by
  have := (V.okT k hk).1.size r hr; omega
theorem Cut.spoil {s s' : State} (V : VS s) (j : Nat) (k : Kept) (hj : j < s.things.length) (h : s'.things = s.things.set j k) (hs : SpT (nth K0 s.things j).thing k.thing) : Cut s s' := by
  intro i h1 h2 h3 h4 h5
  by_cases hij : j = i
  · subst hij
    have e : nth K0 s'.things j = k := by
      rw [zk _ _ _ h2]; simp only [h]; rw [List.getElem_set_self]
    rw [e] at h3 h4 h5 ⊢
    cases hs with
    | text hr _ => rw [hr]
    | more r _ hr _ => rw [hr, List.length_append] at h4; simp at h4
    | ones ht hr hn => exact zit (V.uni _ (zi hj)) hr h3 h4 h5
  · have e : nth K0 s'.things i = nth K0 s.things i := by
      rw [zk _ _ _ h2, zk _ _ _ h1]; simp only [h]; rw [List.getElem_set_ne hij]
    rw [e]
end KV
end
section
namespace KV
open Go Go.Eng
open Classical
theorem wrK1 (l : List Kept) (i : Nat) (n : Int) (h : i < l.length) : wrs (encK l) i 1 [.i n] = encK (l.set i { nth K0 l i with born := n }) := by
  have : (l.map cK).getD i [] = cK (nth K0 l i) := by rw [zk K0 l i h, List.getD_eq_getElem?_getD]; simp [h]
  unfold wrs wrs wr encK
  rw [List.map_set, this]; rfl
theorem wrK2 (l : List Kept) (i : Nat) (x : Bs) (r : List Bs) (h : i < l.length) : wrs (encK l) i 2 [.s x, .l (encS r)] = encK (l.set i ⟨(nth K0 l i).sum, (nth K0 l i).born, ⟨x, r⟩⟩) := by
  have : (l.map cK).getD i [] = cK (nth K0 l i) := by rw [zk K0 l i h, List.getD_eq_getElem?_getD]; simp [h]
  unfold wrs wrs wrs wr encK
  rw [this, List.map_set, List.getD_eq_getElem?_getD, List.getElem?_set_self (by simpa using h), List.set_set]; rfl
theorem wrL (l : List Lease) (i o : Nat) (n : Int) (h : i < l.length) (L' : Lease) (he : setAt (cL (nth L0 l i)) o (.i n) = cL L') : wrs (encL l) i o [.i n] = encL (l.set i L') := by
  have : (l.map cL).getD i [] = cL (nth L0 l i) := by rw [zk L0 l i h, List.getD_eq_getElem?_getD]; simp [h]
  unfold wrs wrs wr encL
  rw [List.map_set, this, ← he]
def GS (s : State) : Prop := VS s ∨ s = ⟨0, 0, 0, 0, [], [], []⟩
theorem GS.bs {s : State} (h : GS s) : BS s := by
  rcases h with h | rfl
  · exact h.bs
  · exact ⟨Nat.zero_le _, Nat.zero_le _, Nat.zero_le _, (fun k hk => nomatch hk), (fun k hk => nomatch hk), by simp⟩
theorem GS.th {s : State} (h : GS s) : s.things.length ≤ 600 ∧ s.pins.length ≤ 100 ∧ s.leases.length ≤ 200 ∧ ∀ k ∈ s.things, 1 + szs k.thing.refs + k.thing.text.size ≤ 2241 ∧ k.thing.refs.length ≤ 30 ∧ k.thing.text.size ≤ 2000 ∧ ∀ r ∈ k.thing.refs, r.size ≤ 8 := by
  rcases h with h | rfl
  · refine ⟨h.nT, h.nP, h.nL, fun k hk => ?_⟩
    have h1 := (h.okT k hk).1; have h2 := zbe h1
    exact ⟨h2.1, h2.2, h1.text, fun r hr => by have := h1.size r hr; have := h.wd; omega⟩
  · exact ⟨Nat.zero_le _, Nat.zero_le _, Nat.zero_le _, fun k hk => nomatch hk⟩
theorem GS.now {s : State} (h : GS s) : (0 ≤ s.now ∧ s.now ≤ 1000000000) ∧ (0 ≤ s.given ∧ s.given ≤ 1000000000) ∧ (0 ≤ s.births ∧ s.births ≤ 1000000000) ∧ (0 ≤ s.width ∧ s.width ≤ 8) := by
  rcases h with h | rfl
  · have := h.wd; exact ⟨h.now, h.given, h.births, by omega⟩
  · simp
theorem MT.size' {k : Kept} (h : MT k) : 1 + szs k.thing.refs + k.thing.text.size ≤ 1000000 ∧ k.thing.refs.length ≤ 40 ∧ k.thing.text.size ≤ 3000 ∧ k.sum.size ≤ 100 := by
  have h0 := h.sm
  have h1 := zfc h.size; have h2 := h.refs; have h3 := h.text
  have : k.thing.refs.length * 8 ≤ 8 := by omega
  omega
def l3 : Rw := [[.i (-1)], [.i 1000000000], [.i 1000000001]]
def l5 : Rw := [[.i (-1)], [.i 0], [.i 1], [.i 1000000000], [.i 1000000001]]
def l4 : Rw := [[.i (-1)], [.i 0], [.i 1000000000], [.i 1000000001]]
theorem zq1 (n : Nat) (h : n < 3) : -1 ≤ (rd l3 n 0).int ∧ (rd l3 n 0).int ≤ 1000000001 := by
  match n, h with
  | 0, _ => exact ⟨by show (-1 : Int) ≤ -1; omega, by show (-1 : Int) ≤ 1000000001; omega⟩
  | 1, _ => exact ⟨by show (-1 : Int) ≤ 1000000000; omega, by show (1000000000 : Int) ≤ 1000000001; omega⟩
  | 2, _ => exact ⟨by show (-1 : Int) ≤ 1000000001; omega, by show (1000000001 : Int) ≤ 1000000001; omega⟩
theorem zmk (n : Nat) (h : n < 4) : -1 ≤ (rd l4 n 0).int ∧ (rd l4 n 0).int ≤ 1000000001 := by
  match n, h with
  | 0, _ => exact ⟨by show (-1 : Int) ≤ -1; omega, by show (-1 : Int) ≤ 1000000001; omega⟩
  | 1, _ => exact ⟨by show (-1 : Int) ≤ 0; omega, by show (0 : Int) ≤ 1000000001; omega⟩
  | 2, _ => exact ⟨by show (-1 : Int) ≤ 1000000000; omega, by show (1000000000 : Int) ≤ 1000000001; omega⟩
  | 3, _ => exact ⟨by show (-1 : Int) ≤ 1000000001; omega, by show (1000000001 : Int) ≤ 1000000001; omega⟩
theorem zr2 (n : Nat) (h : n < 5) : -1 ≤ (rd l5 n 0).int ∧ (rd l5 n 0).int ≤ 1000000001 := by
  match n, h with
  | 0, _ => exact ⟨by show (-1 : Int) ≤ -1; omega, by show (-1 : Int) ≤ 1000000001; omega⟩
  | 1, _ => exact ⟨by show (-1 : Int) ≤ 0; omega, by show (0 : Int) ≤ 1000000001; omega⟩
  | 2, _ => exact ⟨by show (-1 : Int) ≤ 1; omega, by show (1 : Int) ≤ 1000000001; omega⟩
  | 3, _ => exact ⟨by show (-1 : Int) ≤ 1000000000; omega, by show (1000000000 : Int) ≤ 1000000001; omega⟩
  | 4, _ => exact ⟨by show (-1 : Int) ≤ 1000000001; omega, by show (1000000001 : Int) ≤ 1000000001; omega⟩
end KV
end
section
namespace KV
open Go Go.Eng
open Classical
def nm4 : Rw := [[.s (⟨#[112]⟩ : ByteArray)], [.s (⟨#[122]⟩ : ByteArray)], [.s (⟨#[]⟩ : ByteArray)], [.s (⟨#[120, 32, 121]⟩ : ByteArray)]]
def nm2 : Rw := [[.s (⟨#[97]⟩ : ByteArray)], [.s (⟨#[122]⟩ : ByteArray)]]
def h4 : Rw := [[.i 0], [.i 1], [.i 100000], [.i 100001]]
theorem zst (i : Nat) : ((rd nm4 i 0).str).size ≤ 3 := by
  match i with
  | 0 => exact (by show (1 : Nat) ≤ 3; omega)
  | 1 => exact (by show (1 : Nat) ≤ 3; omega)
  | 2 => exact Nat.zero_le _
  | 3 => exact Nat.le_refl _
  | n + 4 => exact Nat.zero_le _
theorem zn8 (i : Nat) : ((rd nm2 i 0).str).size ≤ 3 := by
  match i with
  | 0 => exact (by show (1 : Nat) ≤ 3; omega)
  | 1 => exact (by show (1 : Nat) ≤ 3; omega)
  | n + 2 => exact Nat.zero_le _
theorem zna (n : Nat) (h : n < 4) : 0 ≤ (rd h4 n 0).int ∧ (rd h4 n 0).int ≤ 100001 := by
  match n, h with
  | 0, _ => exact ⟨by show (0 : Int) ≤ 0; omega, by show (0 : Int) ≤ 100001; omega⟩
  | 1, _ => exact ⟨by show (0 : Int) ≤ 1; omega, by show (1 : Int) ≤ 100001; omega⟩
  | 2, _ => exact ⟨by show (0 : Int) ≤ 100000; omega, by show (100000 : Int) ≤ 100001; omega⟩
  | 3, _ => exact ⟨by show (0 : Int) ≤ 100001; omega, by show (100001 : Int) ≤ 100001; omega⟩
def spO (s : State) (b : Rw) (p : Int) : Lv := [.i s.width, .i s.now, .i s.given, .i s.births, .l b, .i p, .l (encK s.things), .l (encP s.pins), .l (encL s.leases)]
theorem zo3 {α : Type} {c c' : Bool} {a b : α} (h : c = c') : cond c a b = cond c' a b := by rw [h]
theorem zsf {α β : Type} {x y : Option α} {f : α → Option β} (h : x = y) : x.bind f = y.bind f := by rw [h]
attribute [local congr] zo3 zsf
set_option maxHeartbeats 8000000 in
theorem zrk {b : Rw} (hb : RB b) {s : State} (h : GS s) (p : Int) (hp : 0 ≤ p ∧ p ≤ 900000000) : ∃ (s' : State) (p' : Int), Lqcy none (encSt s ++ [.l b, .i p]) = some (spO s' b p') ∧ p ≤ p' ∧ p' ≤ p + 30 ∧ BS s' ∧ (VS s → Cut s s') := by
  show ∃ (s' : State) (p' : Int), Lqcy none [.i s.width, .i s.now, .i s.given, .i s.births, .l (encK s.things), .l (encP s.pins), .l (encL s.leases), .l b, .i p] = _ ∧ _
  obtain ⟨n1, n2, n3, hk⟩ := h.th
  obtain ⟨i1, i2, i3, i4⟩ := h.now
  have B := h.bs
  have hcp := zce s.width s.now s.given s.births s.things (encP s.pins) (encL s.leases) (by omega) (fun k hk2 => by have := hk k hk2; omega) (by rw [zbw]; omega) (by rw [zb8]; omega)
  obtain ⟨x, ex, rx, sx⟩ := zm hb (s.things.length : Int) (by omega) p (by omega)
  obtain ⟨c, ec, rc, sc⟩ := zm hb 12 (by omega) (p + 1) (by omega)
  rw [eqcy_i, hcp, mostE]
  by_cases c0 : c = 0
  · obtain ⟨y, ey, ry, sy⟩ := zm hb 11 (by omega) (p + 1 + 1) (by omega)
    refine ⟨{ s with width := y - 1 }, p + 1 + 1 + 1, ?_, by omega, by omega, ⟨B.nT, B.nP, B.nL, B.t, B.nm, ⟨by simp only; omega, B.ints.2⟩⟩, fun _ => Cut.same rfl⟩
    simp (disch := omega) only [push_cast, ex, ec, ey]; rfl
  by_cases c1 : c = 1
  · obtain ⟨y, ey, ry, sy⟩ := zm hb 3 (by omega) (p + 1 + 1) (by omega)
    have hr := zq1 y.toNat (by omega)
    refine ⟨{ s with now := (rd l3 y.toNat 0).int }, p + 1 + 1 + 1, ?_, by omega, by omega, ⟨B.nT, B.nP, B.nL, B.t, B.nm, ⟨B.ints.1, by simp only; omega, B.ints.2.2⟩⟩, fun _ => Cut.same rfl⟩
    simp (disch := omega) only [push_cast, ex, ec, ey]; rfl
  by_cases c2 : c = 2
  · obtain ⟨y, ey, ry, sy⟩ := zm hb 5 (by omega) (p + 1 + 1) (by omega)
    have hr := zr2 y.toNat (by omega)
    refine ⟨{ s with births := (rd l5 y.toNat 0).int }, p + 1 + 1 + 1, ?_, by omega, by omega, ⟨B.nT, B.nP, B.nL, B.t, B.nm, ⟨B.ints.1, B.ints.2.1, B.ints.2.2.1, by simp only; omega⟩⟩, fun _ => Cut.same rfl⟩
    simp (disch := omega) only [push_cast, ex, ec, ey]; rfl
  by_cases c3 : c = 3
  · obtain ⟨y, ey, ry, sy⟩ := zm hb 4 (by omega) (p + 1 + 1) (by omega)
    have hr := zmk y.toNat (by omega)
    refine ⟨{ s with given := (rd l4 y.toNat 0).int }, p + 1 + 1 + 1, ?_, by omega, by omega, ⟨B.nT, B.nP, B.nL, B.t, B.nm, ⟨B.ints.1, B.ints.2.1, by simp only; omega, B.ints.2.2.2⟩⟩, fun _ => Cut.same rfl⟩
    simp (disch := omega) only [push_cast, ex, ec, ey]; rfl
  have stay : ∃ (s' : State) (p' : Int), some (spO s b (p + 1 + 1)) = some (spO s' b p') ∧ p ≤ p' ∧ p' ≤ p + 30 ∧ BS s' ∧ (VS s → Cut s s') := ⟨s, p + 1 + 1, rfl, by omega, by omega, B, fun _ => Cut.refl s⟩
  by_cases c4 : c = 4
  · by_cases h0 : 0 < s.things.length
    rotate_left
    · refine ⟨s, p + 1 + 1, ?_, by omega, by omega, B, fun _ => Cut.refl s⟩
      simp (disch := omega) only [push_cast, ex, ec]; rfl
    obtain ⟨j, hj⟩ : ∃ j : Nat, x = j := ⟨x.toNat, by omega⟩
    have hjl : j < s.things.length := by omega
    have hkj := hk _ (zi (d := K0) hjl)
    have hkz := (B.t _ (zi (d := K0) hjl)).2.2.2
    obtain ⟨t', p', e, h1, h2, hs⟩ := zin hb (nth K0 s.things j).thing (by omega) (p + 1 + 1) (by omega)
    have hw := wrK2 s.things j t'.text t'.refs hjl
    refine ⟨{ s with things := s.things.set j ⟨(nth K0 s.things j).sum, (nth K0 s.things j).born, t'⟩ }, p', ?_, by omega, by omega, ⟨by simp only [List.length_set]; omega, B.nP, B.nL, fun k hk2 => ?_, B.nm, B.ints⟩, fun V => Cut.spoil V j ⟨(nth K0 s.things j).sum, (nth K0 s.things j).born, t'⟩ hjl rfl hs⟩
    · simp (disch := omega) only [push_cast, ex, ec, hj, e, hw]; rfl
    · rcases List.mem_or_eq_of_mem_set hk2 with h3 | h3
      · exact B.t k h3
      · rw [h3]
        cases hs with
        | text hr hz => simp only; rw [hr]; omega
        | more r ht hr hz =>
          have hrs : r.size ≤ 8 := by
            rcases hz with h | h
            · omega
            · exact hkj.2.2.2 r h
          have q1 : szs [r] = r.size := by simp [szs]
          have q2 : [r].length = 1 := rfl
          simp only; rw [ht, hr, zia, List.length_append, q1, q2]; omega
        | ones ht hr hn => have := zfc hr; simp only; rw [ht]; omega
  by_cases c5 : c = 5
  · by_cases h0 : 1 < s.things.length
    rotate_left
    · refine ⟨s, p + 1 + 1, ?_, by omega, by omega, B, fun _ => Cut.refl s⟩
      simp (disch := omega) only [push_cast, ex, ec]; rfl
    have hw := wrK1 s.things 0 (nth K0 s.things 1).born (by omega)
    refine ⟨{ s with things := s.things.set 0 { nth K0 s.things 0 with born := (nth K0 s.things 1).born } }, p + 1 + 1, ?_, by omega, by omega, ⟨by simp only [List.length_set]; omega, B.nP, B.nL, fun k hk2 => ?_, B.nm, B.ints⟩, fun V => Cut.spoil V 0 { nth K0 s.things 0 with born := (nth K0 s.things 1).born } (by omega) rfl (.text rfl (.inr (Nat.le_succ _)))⟩
    · simp (disch := omega) only [push_cast, ex, ec, hw]; rfl
    · rcases List.mem_or_eq_of_mem_set hk2 with h3 | h3
      · exact B.t k h3
      · rw [h3]; exact B.t (nth K0 s.things 0) (zi (d := K0) (by omega))
  by_cases c6 : c = 6
  · by_cases h0 : 0 < s.things.length
    rotate_left
    · refine ⟨s, p + 1 + 1, ?_, by omega, by omega, B, fun _ => Cut.refl s⟩
      simp (disch := omega) only [push_cast, ex, ec]; rfl
    obtain ⟨j, hj⟩ : ∃ j : Nat, x = j := ⟨x.toNat, by omega⟩
    have hjl : j < s.things.length := by omega
    have a1 : Eng.sub (encK s.things) 0 j = encK (s.things.take j) := by rw [zb9]; simp
    have a2 : Eng.sub (encK s.things) (j + 1) s.things.length = encK (s.things.drop (j + 1)) := by rw [zb9, List.take_of_length_le (by rw [List.length_drop]; exact Nat.le_refl _)]
    have b1 : (s.things.take j).length = j := by rw [List.length_take]; omega
    have b2 : (s.things.drop (j + 1)).length = s.things.length - (j + 1) := List.length_drop
    have hin : ∀ k ∈ s.things.take j ++ s.things.drop (j + 1), k ∈ s.things := fun k hk2 => (List.mem_append.1 hk2).elim List.mem_of_mem_take List.mem_of_mem_drop
    refine ⟨{ s with things := s.things.take j ++ s.things.drop (j + 1) }, p + 1 + 1, ?_, by omega, by omega, ⟨by simp only [List.length_append]; omega, B.nP, B.nL, fun k hk2 => B.t k (hin k hk2), B.nm, B.ints⟩, fun V => Cut.uni V.uni fun k hk2 => V.uni k (hin k hk2)⟩
    have c1' : (encK (s.things.take j)).length = j := by rw [zc1]; exact b1
    have c2' : (encK (s.things.drop (j + 1))).length = s.things.length - (j + 1) := by rw [zc1]; exact b2
    simp (disch := omega) only [push_cast, ex, ec, hj, a1, a2, List.nil_append, c1', c2', List.length_append]
    rw [z8]; rfl
  by_cases c7 : c = 7
  · obtain ⟨y, ey, ry, sy⟩ := zm hb 4 (by omega) (p + 1 + 1) (by omega)
    have hnm : ((rd nm4 y.toNat 0).str).size ≤ 3 := zst _
    refine ⟨{ s with pins := s.pins ++ [⟨(rd nm4 y.toNat 0).str, sumM ⟨#[113]⟩ s.width⟩] }, p + 1 + 1 + 1, ?_, by omega, by omega, ⟨B.nT, by simp; omega, B.nL, B.t, fun q hq => ?_, B.ints⟩, fun _ => Cut.same rfl⟩
    · have hsu := zb4 (⟨#[113]⟩ : ByteArray) s.width (by show (1 : Nat) ≤ 1099511627776; omega)
      simp (disch := omega) only [push_cast, ex, ec, ey, hsu]
      rw [zen, zb2]; rfl
    · rcases List.mem_append.1 hq with h1 | h1
      · exact B.nm q h1
      · rw [List.mem_singleton] at h1; rw [h1]; simp only; omega
  by_cases c8 : c = 8
  · by_cases h0 : 0 < s.things.length
    rotate_left
    · refine ⟨s, p + 1 + 1, ?_, by omega, by omega, B, fun _ => Cut.refl s⟩
      simp (disch := omega) only [push_cast, ex, ec]; rfl
    obtain ⟨j, hj⟩ : ∃ j : Nat, x = j := ⟨x.toNat, by omega⟩
    have hjl : j < s.things.length := by omega
    obtain ⟨y, ey, ry, sy⟩ := zm hb 2 (by omega) (p + 1 + 1) (by omega)
    have hnm : ((rd nm2 y.toNat 0).str).size ≤ 3 := zn8 _
    refine ⟨{ s with pins := s.pins ++ [⟨(rd nm2 y.toNat 0).str, (nth K0 s.things j).sum⟩] }, p + 1 + 1 + 1, ?_, by omega, by omega, ⟨B.nT, by simp; omega, B.nL, B.t, fun q hq => ?_, B.ints⟩, fun _ => Cut.same rfl⟩
    · simp (disch := omega) only [push_cast, ex, ec, ey, hj]
      rw [zen, zb2]; rfl
    · rcases List.mem_append.1 hq with h1 | h1
      · exact B.nm q h1
      · rw [List.mem_singleton] at h1; rw [h1]; simp only; omega
  by_cases c9 : c = 9
  · by_cases h0 : 0 < s.leases.length
    rotate_left
    · refine ⟨s, p + 1 + 1, ?_, by omega, by omega, B, fun _ => Cut.refl s⟩
      simp (disch := omega) only [push_cast, ex, ec]; rfl
    obtain ⟨y, ey, ry, sy⟩ := zm hb 4 (by omega) (p + 1 + 1) (by omega)
    have hr := zna y.toNat (by omega)
    have hw := wrL s.leases 0 2 (s.now + (rd h4 y.toNat 0).int) h0 { nth L0 s.leases 0 with till := s.now + (rd h4 y.toNat 0).int } rfl
    refine ⟨{ s with leases := s.leases.set 0 { nth L0 s.leases 0 with till := s.now + (rd h4 y.toNat 0).int } }, p + 1 + 1 + 1, ?_, by omega, by omega, ⟨B.nT, B.nP, by simp; omega, B.t, B.nm, B.ints⟩, fun _ => Cut.same rfl⟩
    unfold h4 at hw hr ⊢
    simp (disch := omega) only [push_cast, ex, ec, ey, hw]; rfl
  by_cases c10 : c = 10
  · by_cases h0 : 0 < s.leases.length
    rotate_left
    · refine ⟨s, p + 1 + 1, ?_, by omega, by omega, B, fun _ => Cut.refl s⟩
      simp (disch := omega) only [push_cast, ex, ec]; rfl
    obtain ⟨y, ey, ry, sy⟩ := zm hb 3 (by omega) (p + 1 + 1) (by omega)
    have hw := wrL s.leases 0 0 (rd ([[.i 0], [.i s.given], [.i (s.given + 1)]] : Rw) y.toNat 0).int h0 { nth L0 s.leases 0 with number := (rd ([[.i 0], [.i s.given], [.i (s.given + 1)]] : Rw) y.toNat 0).int } rfl
    refine ⟨{ s with leases := s.leases.set 0 { nth L0 s.leases 0 with number := (rd ([[.i 0], [.i s.given], [.i (s.given + 1)]] : Rw) y.toNat 0).int } }, p + 1 + 1 + 1, ?_, by omega, by omega, ⟨B.nT, B.nP, by simp; omega, B.t, B.nm, B.ints⟩, fun _ => Cut.same rfl⟩
    simp (disch := omega) only [push_cast, ex, ec, ey, hw]; rfl
  · obtain ⟨y, ey, ry, sy⟩ := zm hb 2 (by omega) (p + 1 + 1) (by omega)
    obtain ⟨z, ez, rz, sz⟩ := zm hb 2 (by omega) (p + 1 + 1 + 1) (by omega)
    obtain ⟨n, hn⟩ : ∃ n : Nat, 600 + y = n := ⟨(600 + y).toNat, by omega⟩
    obtain ⟨T', e, h1, h2⟩ := zhr n (by omega) (decide (z = 0))
    refine ⟨⟨8, 0, 0, (n : Int), T', [], []⟩, p + 1 + 1 + 1 + 1, ?_, by omega, by omega, ⟨by simp only; omega, Nat.zero_le _, Nat.zero_le _, fun k hk2 => (h2 k hk2).size', (fun q hq => nomatch hq), by simp only; omega⟩, fun V => Cut.uni V.uni fun k hk2 => (h2 k hk2).size⟩
    simp (disch := omega) only [push_cast, ex, ec, ey, ez, hn, e]; rfl
end KV
end
section
namespace KV
open Go Go.Eng
open Classical
theorem GV.gs {v : Vault} (h : GV v) : GS v.st := by
  rcases h with h | rfl
  · exact .inl h.vs.1
  · exact .inr rfl
def anO (s : State) (b : Rw) (p : Int) : Lv := [.i s.width, .i s.now, .i s.given, .i s.births, .l (encK s.things), .l (encP s.pins), .l (encL s.leases), .l b, .i p]
theorem zsu {b : Rw} (p : Int) : ∀ (m : Nat) (s : State), 200 - s.leases.length = m → s.leases.length ≤ 200 → 0 < s.things.length → s.things.length ≤ 1000 → BS s → s.given + m ≤ 1000000900 → s.now ≤ 1000000900 →
    ∃ s' : State, Lqba (some 13) [.l b, .i p, .i 0, .i 0, .i 0, .i 0, .i s.width, .i s.now, .i s.given, .i s.births, .l (encK s.things), .l [], .l [], .l [], .l (encP s.pins), .l (encL s.leases)] = some (anO s' b p) ∧ BS s' := by
  intro m
  induction m with
  | zero =>
    intro s hm hl h0 hT B hg hn
    refine ⟨s, ?_, B⟩
    rw [eqba_13]; simp (disch := omega) only [push_cast]; rfl
  | succ m ih =>
    intro s hm hl h0 hT B hg hn
    have hi := B.ints
    obtain ⟨s', e, hB⟩ := ih { s with given := s.given + 1, leases := s.leases ++ [⟨s.given + 1, (nth K0 s.things 0).sum, s.now + 5⟩] } (by simp; omega) (by simp; omega) h0 hT ⟨B.nT, B.nP, by simp; omega, B.t, B.nm, ⟨hi.1, hi.2.1, by simp only; omega, hi.2.2.2⟩⟩ (by simp only; omega) hn
    refine ⟨s', ?_, hB⟩
    simp only at e
    rw [← zc9] at e
    rw [eqba_13, mostE]
    simp (disch := omega) only [push_cast]
    exact e
theorem any_9 {b : Rw} (p : Int) : ∀ (m : Nat) (i : Nat) (s : State), 100 - s.pins.length = m → s.pins.length ≤ 100 → i ≤ s.pins.length → 0 < s.things.length → s.things.length ≤ 1000 → BS s →
    ∃ s' : State, Lqba (some 9) [.i 4, .i (i : Int), .l b, .i p, .i 0, .i 0, .i 0, .i 0, .i s.width, .i s.now, .i s.given, .i s.births, .l (encK s.things), .l [], .l [], .l [], .l (encP s.pins), .l (encL s.leases)] = some (anO s' b p) ∧ BS s' := by
  intro m
  induction m with
  | zero =>
    intro i s hm hl hi h0 hT B
    refine ⟨s, ?_, B⟩
    rw [eqba_9]; simp (disch := omega) only [push_cast]; rfl
  | succ m ih =>
    intro i s hm hl hi h0 hT B
    obtain ⟨nm, hnm⟩ : ∃ nm : Bs, nm = (⟨#[122]⟩ : ByteArray) ++ (bytesOf ([[.i (IntKind.u8.wrap (IntKind.i64.wrap (48 + (IntKind.i64.wrap ((i : Int).tdiv 10)))))], [.i (IntKind.u8.wrap (IntKind.i64.wrap (48 + ((i : Int).tmod 10))))]] : Rw)) := ⟨_, rfl⟩
    have hz : nm.size = 3 := by rw [hnm, zy, zcb]; rfl
    have hz2 : (bytesOf ([[.i (IntKind.u8.wrap (IntKind.i64.wrap (48 + (IntKind.i64.wrap ((i : Int).tdiv 10)))))], [.i (IntKind.u8.wrap (IntKind.i64.wrap (48 + ((i : Int).tmod 10))))]] : Rw)).size = 2 := by rw [zcb]; rfl
    obtain ⟨s', e, hB⟩ := ih (i + 1) { s with pins := s.pins ++ [⟨nm, (nth K0 s.things 0).sum⟩] } (by simp; omega) (by simp; omega) (by simp; omega) h0 hT ⟨B.nT, by simp; omega, B.nL, B.t, fun q hq => by
      rcases List.mem_append.1 hq with h1 | h1
      · exact B.nm q h1
      · rw [List.mem_singleton] at h1; rw [h1]; simp only; omega, B.ints⟩
    refine ⟨s', ?_, hB⟩
    simp only at e
    rw [← zb2] at e
    have h1 : (⟨#[122]⟩ : ByteArray).size = 1 := rfl
    rw [eqba_9, mostE, ← hnm, hz2, h1]
    simp (disch := omega) only [push_cast]
    exact e
theorem zpt {b : Rw} (hb : RB b) (p : Int) (hp : 0 ≤ p ∧ p ≤ 800000000) : ∃ (s : State) (p' : Int), Lqba none [.l b, .i p] = some (anO s b p') ∧ p ≤ p' ∧ p' ≤ p + 1000 ∧ BS s := by
  obtain ⟨v, p1, e1, h1, h2, hg, _⟩ := zoe hb p (by omega)
  obtain ⟨c, ec, rc, sc⟩ := zm hb 20 (by omega) p1 (by omega)
  have B := hg.gs.bs
  obtain ⟨n1, n2, n3, _⟩ := hg.gs.th
  obtain ⟨j1, j2, j3, j4⟩ := hg.gs.now
  unfold vA vB at e1
  simp only [List.cons_append, List.nil_append] at e1
  rw [eqba_i, e1]
  by_cases c0 : c < 3
  · obtain ⟨s', p', e, h3, h4, hB, _⟩ := zrk hb hg.gs (p1 + 1) (by omega)
    refine ⟨s', p', ?_, by omega, by omega, hB⟩
    have e' : Lqcy none [.i v.st.width, .i v.st.now, .i v.st.given, .i v.st.births, .l (encK v.st.things), .l (encP v.st.pins), .l (encL v.st.leases), .l b, .i (p1 + 1)] = _ := e
    unfold spO at e'
    simp (disch := omega) only [push_cast, ec, e']; rfl
  by_cases c3 : c = 3
  · obtain ⟨y, ey, ry, sy⟩ := zm hb 30 (by omega) (p1 + 1) (by omega)
    obtain ⟨z, ez, rz, sz⟩ := zm hb 2 (by omega) (p1 + 1 + 1) (by omega)
    obtain ⟨n, hn⟩ : ∃ n : Nat, 20 + y = n := ⟨(20 + y).toNat, by omega⟩
    obtain ⟨T', e, h3, h4⟩ := zhr n (by omega) (decide (z = 0))
    refine ⟨⟨8, 0, 0, (n : Int), T', [], []⟩, p1 + 1 + 1 + 1, ?_, by omega, by omega, ⟨by simp only; omega, Nat.zero_le _, Nat.zero_le _, fun k hk2 => (h4 k hk2).size', (fun q hq => nomatch hq), by simp only; omega⟩⟩
    simp (disch := omega) only [push_cast, ec, ey, ez, hn, e]; rfl
  by_cases c4 : c = 4
  · by_cases h0 : 0 < v.st.things.length
    · obtain ⟨s', e, hB⟩ := any_9 (b := b) (p1 + 1) (100 - v.st.pins.length) 0 v.st rfl n2 (Nat.zero_le _) h0 (by omega) B
      refine ⟨s', p1 + 1, ?_, by omega, by omega, hB⟩
      rw [c4] at ec
      simp (disch := omega) only [push_cast, ec]
      exact e
    · refine ⟨v.st, p1 + 1, ?_, by omega, by omega, B⟩
      simp (disch := omega) only [push_cast, ec]; rfl
  by_cases c5 : c = 5
  · by_cases h0 : 0 < v.st.things.length
    · obtain ⟨s', e, hB⟩ := zsu (b := b) (p1 + 1) (200 - v.st.leases.length) v.st rfl n3 h0 (by omega) B (by omega) (by omega)
      refine ⟨s', p1 + 1, ?_, by omega, by omega, hB⟩
      simp (disch := omega) only [push_cast, ec]
      exact e
    · refine ⟨v.st, p1 + 1, ?_, by omega, by omega, B⟩
      simp (disch := omega) only [push_cast, ec]; rfl
  · refine ⟨v.st, p1 + 1, ?_, by omega, by omega, B⟩
    simp (disch := omega) only [push_cast, ec]; rfl
end KV
end
section
namespace KV
open Go Go.Eng
open Classical
theorem zg0 {α : Type} (d : α) {R : α → α → Prop} (tr : ∀ a b c, R a b → R b c → R a c) (l : List α) : l.Pairwise R ↔ ∀ j, 0 < j → j < l.length → R (nth d l (j - 1)) (nth d l j) := by
  constructor
  · intro h j h1 h2; exact zfl d h (by omega) h2
  · intro h
    rw [List.pairwise_iff_getElem]
    intro i j hi hj hij
    rw [← zk d l i hi, ← zk d l j hj]
    have : ∀ k, i + k + 1 < l.length → R (nth d l i) (nth d l (i + k + 1)) := by
      intro k
      induction k with
      | zero => intro hk; have := h (i + 1) (by omega) hk; rwa [Nat.add_sub_cancel] at this
      | succ k ih => intro hk; exact tr _ _ _ (ih (by omega)) (by have := h (i + (k + 1) + 1) (by omega) hk; rwa [Nat.add_sub_cancel] at this)
    have := this (j - i - 1) (by omega)
    rwa [show i + (j - i - 1) + 1 = j by omega] at this
def setI (ks : List Int) : List (C × C) := ks.map fun k => (.i k, .b true)
theorem ceq_i (k : IntKind) (x y : Int) : ceq (.i k) (.i x) (.i y) = decide (x = y) := by
  show (x == y) = _
  by_cases h : x = y
  · subst h; simp
  · simp [h]
theorem zk8 (x : Int) : ∀ ks : List Int, mget (.i .i64) (.i x) (setI ks) = if x ∈ ks then some (.b true) else none
  | [] => by simp [setI, mget]
  | k :: ks => by
    show cond (ceq (.i .i64) (.i x) (.i k)) (some (.b true)) (mget (.i .i64) (.i x) (setI ks)) = _
    rw [ceq_i, zk8 x ks]
    by_cases h : x = k
    · subst h; simp
    · simp [h]
theorem zgf (x : Int) : ∀ ks : List Int, x ∉ ks → mput (.i .i64) (.i x) (.b true) (setI ks) = setI (ks ++ [x])
  | [], _ => by simp [setI, mput]
  | k :: ks, h => by
    show cond (ceq (.i .i64) (.i x) (.i k)) _ _ = _
    rw [ceq_i, decide_eq_false (fun e => h (by rw [e]; simp)), cond_false]
    show (C.i k, C.b true) :: mput (.i .i64) (.i x) (.b true) (setI ks) = _
    rw [zgf x ks (fun e => h (by simp [e]))]; rfl
theorem inI (x : Int) (ks : List Int) : (((mget (.i .i64) (.i x) (setI ks)).getD (.b false)).bool) = decide (x ∈ ks) := by
  rw [zk8]
  by_cases h : x ∈ ks
  · rw [if_pos h, decide_eq_true h]; rfl
  · rw [if_neg h, decide_eq_false h]; rfl
def bsT (T : List Kept) (i : Nat) : List Int := (T.take i).map (·.born)
theorem bsT_S (T : List Kept) (i : Nat) (h : i < T.length) : bsT T (i + 1) = bsT T i ++ [(nth K0 T i).born] := by
  unfold bsT
  rw [zk K0 T i h, List.take_add_one, List.map_append, List.getElem?_eq_getElem h]; rfl
structure tP (w births : Int) (T : List Kept) (j : Nat) : Prop where
  adj : 0 < j → slt (nth K0 T (j - 1)).sum (nth K0 T j).sum = true
  ok : ThingOk (nth K0 T j).thing w
  sum : (nth K0 T j).sum = sumM (formM (nth K0 T j).thing) w
  lo : 1 ≤ (nth K0 T j).born
  hi : (nth K0 T j).born ≤ births
  new : (nth K0 T j).born ∉ bsT T j
theorem zo0 (T : List Kept) : (T.map (·.born)).Nodup ↔ ∀ j, 0 ≤ j → j < T.length → (nth K0 T j).born ∉ bsT T j := by
  constructor
  · intro h j _ hj hm
    obtain ⟨a, ha, he⟩ := List.mem_map.1 hm
    obtain ⟨i, hi, rfl⟩ := List.mem_iff_getElem.1 ha
    rw [List.length_take] at hi
    rw [List.getElem_take] at he
    have := List.pairwise_iff_getElem.1 h i j (by rw [List.length_map]; omega) (by rw [List.length_map]; omega) (by omega)
    rw [List.getElem_map, List.getElem_map] at this
    rw [zk K0 T j hj] at he
    exact this he
  · intro h
    rw [List.Nodup, List.pairwise_iff_getElem]
    intro i j hi hj hij he
    rw [List.length_map] at hi hj
    rw [List.getElem_map, List.getElem_map] at he
    apply h j (Nat.zero_le _) hj
    rw [zk K0 T j hj, ← he]
    exact List.mem_map.2 ⟨_, List.mem_take_iff_getElem.2 ⟨i, by omega, rfl⟩, rfl⟩
theorem zgq (w births : Int) (T : List Kept) : (∀ j, 0 ≤ j → j < T.length → tP w births T j) ↔ SrtK T ∧ (∀ k ∈ T, ThingOk k.thing w ∧ k.sum = sumM (formM k.thing) w ∧ 1 ≤ k.born ∧ k.born ≤ births) ∧ (T.map (·.born)).Nodup := by
  rw [zo0, show SrtK T ↔ _ from zg0 K0 (R := fun a b => slt a.sum b.sum = true) (fun a b c h1 h2 => zbj h1 h2) T]
  constructor
  · intro h
    refine ⟨fun j h1 h2 => (h j (by omega) h2).adj h1, fun k hk => ?_, fun j h1 h2 => (h j h1 h2).new⟩
    obtain ⟨j, hj, rfl⟩ := zbb K0 hk
    have := h j (Nat.zero_le _) hj
    exact ⟨this.ok, this.sum, this.lo, this.hi⟩
  · rintro ⟨h1, h2, h3⟩ j h4 h5
    have := h2 _ (zi (d := K0) h5)
    exact ⟨fun h => h1 j h h5, this.1, this.2.1, this.2.2.1, this.2.2.2, h3 j h4 h5⟩
def refIn (T : List Kept) (b : Int) (r : Bs) : Prop := hasT T r ∧ (nth K0 T (lb (qK r) T)).born < b
theorem zku {T : List Kept} (h : SrtK T) (b : Int) (r : Bs) : refIn T b r ↔ ∃ j ∈ T, j.sum = r ∧ j.born < b := by
  constructor
  · rintro ⟨h1, h2⟩
    obtain ⟨h3, h4⟩ := (zbs h r).1 h1
    exact ⟨_, zi h3, h4, h2⟩
  · rintro ⟨k, hk, rfl, hb⟩
    obtain ⟨j, hj, rfl⟩ := zbb K0 hk
    have := zcj K0 h (kp (nth K0 T j).sum) (kR (nth K0 T j).sum) hj rfl
    refine ⟨⟨_, zi hj, rfl⟩, ?_⟩
    rw [← this]; exact hb
structure pP (T : List Kept) (P : List Pin) (j : Nat) : Prop where
  has : hasT T (nth P0 P j).sum
  nm : NameOk (nth P0 P j).name
  adj : 0 < j → slt (nth P0 P (j - 1)).name (nth P0 P j).name = true
theorem znq (T : List Kept) (P : List Pin) : (∀ j, 0 ≤ j → j < P.length → pP T P j) ↔ SrtP P ∧ ∀ p ∈ P, NameOk p.name ∧ hasT T p.sum := by
  rw [show SrtP P ↔ _ from zg0 P0 (R := fun a b => slt a.name b.name = true) (fun a b c h1 h2 => zbj h1 h2) P]
  constructor
  · intro h
    refine ⟨fun j h1 h2 => (h j (by omega) h2).adj h1, fun k hk => ?_⟩
    obtain ⟨j, hj, rfl⟩ := zbb P0 hk
    have := h j (Nat.zero_le _) hj
    exact ⟨this.nm, this.has⟩
  · rintro ⟨h1, h2⟩ j h4 h5
    have := h2 _ (zi (d := P0) h5)
    exact ⟨this.2, this.1, fun h => h1 j h h5⟩
structure lP (now given : Int) (T : List Kept) (L : List Lease) (j : Nat) : Prop where
  has : hasT T (nth L0 L j).sum
  lo : 1 ≤ (nth L0 L j).number
  hi : (nth L0 L j).number ≤ given
  adj : 0 < j → (nth L0 L (j - 1)).number < (nth L0 L j).number
  t1 : now < (nth L0 L j).till
  t2 : (nth L0 L j).till ≤ now + 100000
theorem zov (now given : Int) (T : List Kept) (L : List Lease) : (∀ j, 0 ≤ j → j < L.length → lP now given T L j) ↔ SrtL L ∧ ∀ l ∈ L, 1 ≤ l.number ∧ l.number ≤ given ∧ hasT T l.sum ∧ now < l.till ∧ l.till ≤ now + 100000 := by
  rw [show SrtL L ↔ _ from zg0 L0 (R := fun a b => a.number < b.number) (fun a b c h1 h2 => Int.lt_trans h1 h2) L]
  constructor
  · intro h
    refine ⟨fun j h1 h2 => (h j (by omega) h2).adj h1, fun k hk => ?_⟩
    obtain ⟨j, hj, rfl⟩ := zbb L0 hk
    have := h j (Nat.zero_le _) hj
    exact ⟨this.lo, this.hi, this.has, this.t1, this.t2⟩
  · rintro ⟨h1, h2⟩ j h4 h5
    have := h2 _ (zi (d := L0) h5)
    exact ⟨this.2.2.1, this.1, this.2.1, fun h => h1 j h h5, this.2.2.2.1, this.2.2.2.2⟩
theorem zjf (s : State) : VS s ↔ (1 ≤ s.width ∧ s.width ≤ 8) ∧ (0 ≤ s.now ∧ s.now ≤ 1000000000) ∧ (0 ≤ s.given ∧ s.given ≤ 1000000000) ∧ (0 ≤ s.births ∧ s.births ≤ 1000000000) ∧ s.things.length ≤ 600 ∧ s.pins.length ≤ 100 ∧ s.leases.length ≤ 200 ∧
    (∀ j, 0 ≤ j → j < s.things.length → tP s.width s.births s.things j) ∧ (∀ j, 0 ≤ j → j < s.things.length → ∀ i, 0 ≤ i → i < (nth K0 s.things j).thing.refs.length → refIn s.things (nth K0 s.things j).born (nth .empty (nth K0 s.things j).thing.refs i)) ∧
    (∀ j, 0 ≤ j → j < s.pins.length → pP s.things s.pins j) ∧ (∀ j, 0 ≤ j → j < s.leases.length → lP s.now s.given s.things s.leases j) := by
  rw [zgq, znq, zov]
  constructor
  · intro V
    refine ⟨V.wd, V.now, V.given, V.births, V.nT, V.nP, V.nL, ⟨V.srtT, V.okT, V.ndT⟩, fun j _ hj i _ hi => (zku V.srtT _ _).2 (V.refs _ (zi hj) _ (zi hi)), ⟨V.srtP, V.okP⟩, ⟨V.srtL, V.okL⟩⟩
  · rintro ⟨a, b, c, d, e, f, g, ⟨h1, h2, h3⟩, i, ⟨j1, j2⟩, ⟨k1, k2⟩⟩
    refine ⟨a, b, c, d, e, f, g, h1, h2, h3, fun k hk r hr => ?_, j1, j2, k1, k2⟩
    obtain ⟨m, hm, rfl⟩ := zbb K0 hk
    obtain ⟨n, hn, rfl⟩ := zbb .empty hr
    exact (zku h1 _ _).1 (i m (Nat.zero_le _) hm n (Nat.zero_le _) hn)
section
variable {s : State}
theorem zq8 (hn : 0 ≤ s.now ∧ s.now ≤ 1000000000) (hT : SrtK s.things) (nT : s.things.length ≤ 600) (nL : s.leases.length ≤ 200) : Lqb (some 30) [.l (encL s.leases), .i (s.leases.length : Int), .i 0, .i s.width, .i s.now, .i s.given, .i s.births, .l (encK s.things), .l (encP s.pins), .l (encL s.leases)]
    = if (∀ j, 0 ≤ j → j < s.leases.length → lP s.now s.given s.things s.leases j) then some [.b true] else some [.b false] := by
  refine zq (f := fun i : Nat => Lqb (some 30) [.l (encL s.leases), .i (s.leases.length : Int), .i (i : Int), .i s.width, .i s.now, .i s.given, .i s.births, .l (encK s.things), .l (encP s.pins), .l (encL s.leases)]) (fun i hi => ?_) ?_ 0 (Nat.zero_le _)
  · show (_ → Lqb _ _ = Lqb _ _) ∧ (_ → Lqb _ _ = _)
    rw [eqb_30]
    simp (disch := omega) only [push_cast, zbo s.width s.now s.given s.births s.things (encP s.pins) (encL s.leases) (nth L0 s.leases i).sum hT (by omega)]
    by_cases c1 : hasT s.things (nth L0 s.leases i).sum
    rotate_left; · exact ⟨fun h => absurd h.has c1, fun _ => by simp (disch := omega) only [push_cast]⟩
    by_cases c2 : 1 ≤ (nth L0 s.leases i).number
    rotate_left; · exact ⟨fun h => absurd h.lo c2, fun _ => by simp (disch := omega) only [push_cast]⟩
    by_cases c3 : (nth L0 s.leases i).number ≤ s.given
    rotate_left; · exact ⟨fun h => absurd h.hi c3, fun _ => by simp (disch := omega) only [push_cast]⟩
    by_cases c0 : 0 < i
    · by_cases c4 : (nth L0 s.leases (i - 1)).number < (nth L0 s.leases i).number
      rotate_left; · exact ⟨fun h => absurd (h.adj c0) c4, fun _ => by simp (disch := omega) only [push_cast]⟩
      by_cases c5 : s.now < (nth L0 s.leases i).till
      rotate_left; · exact ⟨fun h => absurd h.t1 c5, fun _ => by simp (disch := omega) only [push_cast]⟩
      by_cases c6 : (nth L0 s.leases i).till ≤ s.now + 100000
      rotate_left; · exact ⟨fun h => absurd h.t2 c6, fun _ => by simp (disch := omega) only [push_cast]⟩
      exact ⟨fun _ => by simp (disch := omega) only [push_cast] <;> rfl, fun h => absurd ⟨c1, c2, c3, fun _ => c4, c5, c6⟩ h⟩
    · by_cases c5 : s.now < (nth L0 s.leases i).till
      rotate_left; · exact ⟨fun h => absurd h.t1 c5, fun _ => by simp (disch := omega) only [push_cast]⟩
      by_cases c6 : (nth L0 s.leases i).till ≤ s.now + 100000
      rotate_left; · exact ⟨fun h => absurd h.t2 c6, fun _ => by simp (disch := omega) only [push_cast]⟩
      exact ⟨fun _ => by simp (disch := omega) only [push_cast] <;> rfl, fun h => absurd ⟨c1, c2, c3, fun h => absurd h c0, c5, c6⟩ h⟩
  · show Lqb _ _ = _
    rw [eqb_30]; simp (disch := omega) only [push_cast]
theorem zqj (hT : SrtK s.things) (nT : s.things.length ≤ 600) (nP : s.pins.length ≤ 100) (hN : ∀ p ∈ s.pins, p.name.size ≤ 4611686018427387904) : Lqb (some 23) [.l (encP s.pins), .i (s.pins.length : Int), .i 0, .i s.width, .i s.now, .i s.given, .i s.births, .l (encK s.things), .l (encP s.pins), .l (encL s.leases)]
    = if (∀ j, 0 ≤ j → j < s.pins.length → pP s.things s.pins j) then Lqb (some 30) [.l (encL s.leases), .i (s.leases.length : Int), .i 0, .i s.width, .i s.now, .i s.given, .i s.births, .l (encK s.things), .l (encP s.pins), .l (encL s.leases)] else some [.b false] := by
  refine zq (f := fun i : Nat => Lqb (some 23) [.l (encP s.pins), .i (s.pins.length : Int), .i (i : Int), .i s.width, .i s.now, .i s.given, .i s.births, .l (encK s.things), .l (encP s.pins), .l (encL s.leases)]) (fun i hi => ?_) ?_ 0 (Nat.zero_le _)
  · show (_ → Lqb _ _ = Lqb _ _) ∧ (_ → Lqb _ _ = _)
    rw [eqb_23]
    simp (disch := omega) only [push_cast, zbo s.width s.now s.given s.births s.things (encP s.pins) (encL s.leases) (nth P0 s.pins i).sum hT (by omega), zi0 (nth P0 s.pins i).name (hN _ (zi hi))]
    by_cases c1 : hasT s.things (nth P0 s.pins i).sum
    rotate_left; · exact ⟨fun h => absurd h.has c1, fun _ => by simp (disch := omega) only [push_cast]⟩
    by_cases c2 : NameOk (nth P0 s.pins i).name
    rotate_left; · exact ⟨fun h => absurd h.nm c2, fun _ => by unfold nameB; simp (disch := omega) only [push_cast]⟩
    unfold nameB
    by_cases c0 : 0 < i
    · cases c4 : slt (nth P0 s.pins (i - 1)).name (nth P0 s.pins i).name
      · exact ⟨fun h => absurd (h.adj c0) (by simp [c4]), fun _ => by simp (disch := omega) only [push_cast, c4]⟩
      · exact ⟨fun _ => by simp (disch := omega) only [push_cast, c4] <;> rfl, fun h => absurd ⟨c1, c2, fun _ => c4⟩ h⟩
    · exact ⟨fun _ => by simp (disch := omega) only [push_cast] <;> rfl, fun h => absurd ⟨c1, c2, fun h => absurd h c0⟩ h⟩
  · show Lqb _ _ = _
    rw [eqb_23]; simp (disch := omega) only [push_cast]
theorem zsg (hT : SrtK s.things) (nT : s.things.length ≤ 600) (hR : ∀ k ∈ s.things, k.thing.refs.length ≤ 30) : Lqb (some 12) [.l (encK s.things), .i (s.things.length : Int), .i 0, .i s.width, .i s.now, .i s.given, .i s.births, .l (encK s.things), .l (encP s.pins), .l (encL s.leases)]
    = if (∀ j, 0 ≤ j → j < s.things.length → ∀ i, 0 ≤ i → i < (nth K0 s.things j).thing.refs.length → refIn s.things (nth K0 s.things j).born (nth .empty (nth K0 s.things j).thing.refs i)) then Lqb (some 23) [.l (encP s.pins), .i (s.pins.length : Int), .i 0, .i s.width, .i s.now, .i s.given, .i s.births, .l (encK s.things), .l (encP s.pins), .l (encL s.leases)] else some [.b false] := by
  refine zq (f := fun i : Nat => Lqb (some 12) [.l (encK s.things), .i (s.things.length : Int), .i (i : Int), .i s.width, .i s.now, .i s.given, .i s.births, .l (encK s.things), .l (encP s.pins), .l (encL s.leases)]) (P := fun j => ∀ i, 0 ≤ i → i < (nth K0 s.things j).thing.refs.length → refIn s.things (nth K0 s.things j).born (nth .empty (nth K0 s.things j).thing.refs i)) (fun i hi => ?_) ?_ 0 (Nat.zero_le _)
  · have hr := hR _ (zi (d := K0) hi)
    have inner := zq (f := fun j : Nat => Lqb (some 15) [.l (encK s.things), .i (s.things.length : Int), .i (i : Int), .l (encS (nth K0 s.things i).thing.refs), .i ((nth K0 s.things i).thing.refs.length : Int), .i (j : Int), .i s.width, .i s.now, .i s.given, .i s.births, .l (encK s.things), .l (encP s.pins), .l (encL s.leases), .s (nth K0 s.things i).sum, .i (nth K0 s.things i).born, .s (nth K0 s.things i).thing.text, .l (encS (nth K0 s.things i).thing.refs)])
      (P := fun j => refIn s.things (nth K0 s.things i).born (nth .empty (nth K0 s.things i).thing.refs j)) (n := (nth K0 s.things i).thing.refs.length) (T := Lqb (some 12) [.l (encK s.things), .i (s.things.length : Int), .i ((i + 1 : Nat) : Int), .i s.width, .i s.now, .i s.given, .i s.births, .l (encK s.things), .l (encP s.pins), .l (encL s.leases)]) (F := some [.b false])
      (fun j hj => by
        show (_ → Lqb _ _ = Lqb _ _) ∧ (_ → Lqb _ _ = _)
        rw [eqb_15]
        simp (disch := omega) only [push_cast, zbo s.width s.now s.given s.births s.things (encP s.pins) (encL s.leases) (nth .empty (nth K0 s.things i).thing.refs j) hT (by omega)]
        by_cases c1 : hasT s.things (nth .empty (nth K0 s.things i).thing.refs j)
        rotate_left; · exact ⟨fun h => absurd h.1 c1, fun _ => by simp (disch := omega) only [push_cast]⟩
        have hl := ((zbs hT _).1 c1).1
        by_cases c2 : (nth K0 s.things (lb (qK (nth .empty (nth K0 s.things i).thing.refs j)) s.things)).born < (nth K0 s.things i).born
        rotate_left; · exact ⟨fun h => absurd h.2 c2, fun _ => by simp (disch := omega) only [push_cast]⟩
        exact ⟨fun _ => by simp (disch := omega) only [push_cast] <;> rfl, fun h => absurd ⟨c1, c2⟩ h⟩)
      (by show Lqb _ _ = Lqb _ _; rw [eqb_15]; simp (disch := omega) only [push_cast] <;> rfl) 0 (Nat.zero_le _)
    show (_ → Lqb _ _ = Lqb _ _) ∧ (_ → Lqb _ _ = _)
    rw [eqb_12]
    simp (disch := omega) only [push_cast]
    have inner' : Lqb (some 15) [.l (encK s.things), .i (s.things.length : Int), .i (i : Int), .l (encS (nth K0 s.things i).thing.refs), .i ((nth K0 s.things i).thing.refs.length : Int), .i 0, .i s.width, .i s.now, .i s.given, .i s.births, .l (encK s.things), .l (encP s.pins), .l (encL s.leases), .s (nth K0 s.things i).sum, .i (nth K0 s.things i).born, .s (nth K0 s.things i).thing.text, .l (encS (nth K0 s.things i).thing.refs)] = _ := inner
    rw [inner']
    exact ⟨fun h => if_pos h, fun h => if_neg h⟩
  · show Lqb _ _ = _
    rw [eqb_12]; simp (disch := omega) only [push_cast]
theorem ivs_5 (nT : s.things.length ≤ 600) : Lqb (some 5) [.l (encK s.things), .i (s.things.length : Int), .i 0, .i s.width, .i s.now, .i s.given, .i s.births, .l (encK s.things), .l (encP s.pins), .l (encL s.leases), .m []]
    = if (∀ j, 0 ≤ j → j < s.things.length → tP s.width s.births s.things j) then Lqb (some 12) [.l (encK s.things), .i (s.things.length : Int), .i 0, .i s.width, .i s.now, .i s.given, .i s.births, .l (encK s.things), .l (encP s.pins), .l (encL s.leases)] else some [.b false] := by
  refine zq (f := fun i : Nat => Lqb (some 5) [.l (encK s.things), .i (s.things.length : Int), .i (i : Int), .i s.width, .i s.now, .i s.given, .i s.births, .l (encK s.things), .l (encP s.pins), .l (encL s.leases), .m (setI (bsT s.things i))]) (fun i hi => ?_) ?_ 0 (Nat.zero_le _)
  · show (_ → Lqb _ _ = Lqb _ _) ∧ (_ → Lqb _ _ = _)
    rw [eqb_5, bsT_S _ _ hi]
    by_cases c1 : ThingOk (nth K0 s.things i).thing s.width
    rotate_left
    · refine ⟨fun h => absurd h.ok c1, fun _ => ?_⟩
      have : zz (nth K0 s.things i).thing s.width = false := decide_eq_false c1
      by_cases c0 : 0 < i
      · cases c4 : slt (nth K0 s.things (i - 1)).sum (nth K0 s.things i).sum <;> simp (disch := omega) only [push_cast, zbp, c4, this]
      · simp (disch := omega) only [push_cast, zbp, this]
    have ht : zz (nth K0 s.things i).thing s.width = true := decide_eq_true c1
    have hz : (formM (nth K0 s.things i).thing).size ≤ 1099511627776 := by
      rw [zbh]; have := zbe c1; omega
    by_cases c2 : (nth K0 s.things i).sum = sumM (formM (nth K0 s.things i).thing) s.width
    rotate_left
    · refine ⟨fun h => absurd h.sum c2, fun _ => ?_⟩
      by_cases c0 : 0 < i
      · cases c4 : slt (nth K0 s.things (i - 1)).sum (nth K0 s.things i).sum <;> simp (disch := omega) only [push_cast, zbp, c4, ht, zbv c1, zbl _ s.width hz]
      · simp (disch := omega) only [push_cast, zbp, ht, zbv c1, zbl _ s.width hz]
    by_cases c3 : 1 ≤ (nth K0 s.things i).born
    rotate_left
    · refine ⟨fun h => absurd h.lo c3, fun _ => ?_⟩
      by_cases c0 : 0 < i
      · cases c4 : slt (nth K0 s.things (i - 1)).sum (nth K0 s.things i).sum <;> simp (disch := omega) only [push_cast, zbp, c4, ht, zbv c1, zbl _ s.width hz]
      · simp (disch := omega) only [push_cast, zbp, ht, zbv c1, zbl _ s.width hz]
    by_cases c5 : (nth K0 s.things i).born ≤ s.births
    rotate_left
    · refine ⟨fun h => absurd h.hi c5, fun _ => ?_⟩
      by_cases c0 : 0 < i
      · cases c4 : slt (nth K0 s.things (i - 1)).sum (nth K0 s.things i).sum <;> simp (disch := omega) only [push_cast, zbp, c4, ht, zbv c1, zbl _ s.width hz]
      · simp (disch := omega) only [push_cast, zbp, ht, zbv c1, zbl _ s.width hz]
    by_cases c6 : (nth K0 s.things i).born ∈ bsT s.things i
    · refine ⟨fun h => absurd c6 h.new, fun _ => ?_⟩
      by_cases c0 : 0 < i
      · cases c4 : slt (nth K0 s.things (i - 1)).sum (nth K0 s.things i).sum <;> simp (disch := omega) only [push_cast, zbp, c4, ht, zbv c1, zbl _ s.width hz, inI]
      · simp (disch := omega) only [push_cast, zbp, ht, zbv c1, zbl _ s.width hz, inI]
    by_cases c0 : 0 < i
    · cases c4 : slt (nth K0 s.things (i - 1)).sum (nth K0 s.things i).sum
      · exact ⟨fun h => absurd (h.adj c0) (by simp [c4]), fun _ => by simp (disch := omega) only [push_cast, c4]⟩
      · exact ⟨fun _ => by simp (disch := omega) only [push_cast, zbp, c4, ht, zbv c1, zbl _ s.width hz, ← c2, inI, zgf _ _ c6] <;> rfl, fun h => absurd ⟨fun _ => c4, c1, c2, c3, c5, c6⟩ h⟩
    · exact ⟨fun _ => by simp (disch := omega) only [push_cast, zbp, ht, zbv c1, zbl _ s.width hz, ← c2, inI, zgf _ _ c6] <;> rfl, fun h => absurd ⟨fun h => absurd h c0, c1, c2, c3, c5, c6⟩ h⟩
  · show Lqb _ _ = _
    rw [eqb_5]; simp (disch := omega) only [push_cast]
theorem zga (s : State) (hN : ∀ p ∈ s.pins, p.name.size ≤ 4611686018427387904) : Lqb none (encSt s) = some [.b (decide (VS s))] := by
  unfold encSt
  rw [eqb_i]
  have hv := zjf s
  by_cases h1 : 1 ≤ s.width ∧ s.width ≤ 8
  rotate_left; · rw [decide_eq_false fun V : VS s => h1 V.wd]; have : zj s.width = false := by cases h : zj s.width; { rfl }; { exact absurd (zw.1 h) h1 }
                 simp (disch := omega) only [push_cast, zby, this]
  have hw : zj s.width = true := zw.2 h1
  by_cases h2 : 0 ≤ s.now ∧ s.now ≤ 1000000000
  rotate_left; · rw [decide_eq_false fun V : VS s => h2 V.now]; simp (disch := omega) only [push_cast, zby, hw, zde]
  by_cases h3 : 0 ≤ s.given ∧ s.given ≤ 1000000000
  rotate_left; · rw [decide_eq_false fun V : VS s => h3 V.given]; simp (disch := omega) only [push_cast, zby, hw, zde]
  by_cases h4 : 0 ≤ s.births ∧ s.births ≤ 1000000000
  rotate_left; · rw [decide_eq_false fun V : VS s => h4 V.births]; simp (disch := omega) only [push_cast, zby, hw, zde]
  by_cases h5 : s.things.length ≤ 600
  rotate_left; · rw [decide_eq_false fun V : VS s => h5 V.nT]; simp (disch := omega) only [push_cast, zby, hw, zde]
  by_cases h6 : s.pins.length ≤ 100
  rotate_left; · rw [decide_eq_false fun V : VS s => h6 V.nP]; simp (disch := omega) only [push_cast, zby, hw, zde]
  by_cases h7 : s.leases.length ≤ 200
  rotate_left; · rw [decide_eq_false fun V : VS s => h7 V.nL]; simp (disch := omega) only [push_cast, zby, hw, zde]
  simp (disch := omega) only [push_cast, zby, hw, zde, ivs_5 h5]
  by_cases h8 : ∀ j, 0 ≤ j → j < s.things.length → tP s.width s.births s.things j
  rotate_left; · rw [if_neg h8, decide_eq_false fun V : VS s => h8 (hv.1 V).2.2.2.2.2.2.2.1]
  have hs := (zgq _ _ _).1 h8
  rw [if_pos h8, zsg hs.1 h5 fun k hk => (hs.2.1 k hk).1.refs]
  by_cases h9 : ∀ j, 0 ≤ j → j < s.things.length → ∀ i, 0 ≤ i → i < (nth K0 s.things j).thing.refs.length → refIn s.things (nth K0 s.things j).born (nth .empty (nth K0 s.things j).thing.refs i)
  rotate_left; · rw [if_neg h9, decide_eq_false fun V : VS s => h9 (hv.1 V).2.2.2.2.2.2.2.2.1]
  rw [if_pos h9, zqj hs.1 h5 h6 hN]
  by_cases h10 : ∀ j, 0 ≤ j → j < s.pins.length → pP s.things s.pins j
  rotate_left; · rw [if_neg h10, decide_eq_false fun V : VS s => h10 (hv.1 V).2.2.2.2.2.2.2.2.2.1]
  rw [if_pos h10, zq8 h2 hs.1 h5 h7]
  by_cases h11 : ∀ j, 0 ≤ j → j < s.leases.length → lP s.now s.given s.things s.leases j
  rotate_left; · rw [if_neg h11, decide_eq_false fun V : VS s => h11 (hv.1 V).2.2.2.2.2.2.2.2.2.2]
  rw [if_pos h11, decide_eq_true (hv.2 ⟨h1, h2, h3, h4, h5, h6, h7, h8, h9, h10, h11⟩)]
end
theorem VS.names {s : State} (V : VS s) : ∀ p ∈ s.pins, p.name.size ≤ 4611686018427387904 := fun p hp => by have := (V.okP p hp).1.hi; omega
end KV
end
section
namespace KV
open Go Go.Eng
open Classical
noncomputable def near (T : List Kept) (i : Nat) : Rw := (List.range 601).map fun b : Nat => [.b (decide ((b : Int) ∈ bsT T i))]
def farL (T : List Kept) (i : Nat) : List Int := (bsT T i).filter fun b => decide (600 < b)
def encN (l : List Int) : Rw := l.map fun n => [.i n]
@[push_cast] theorem ztq (l : List Int) : (encN l).length = l.length := by simp [encN]
@[push_cast] theorem ztt (l : List Int) (i : Nat) : (rd (encN l) i 0).int = nth 0 l i := by
  rcases Nat.lt_or_ge i l.length with h | h
  · rw [encN, zg6 _ _ _ _ h, zk _ _ _ h]; rfl
  · rw [zh7 _ _ _ h]; unfold encN; rw [zgk _ _ _ _ h]; rfl
@[push_cast] theorem zg5 (T : List Kept) (i : Nat) : (near T i).length = 601 := by simp [near]
theorem zpf (T : List Kept) (i b : Nat) (h : b ≤ 600) : (rd (near T i) b 0).bool = decide ((b : Int) ∈ bsT T i) := by
  rw [near, zg6 _ _ _ _ (by rw [List.length_range]; omega), List.getElem_range]; rfl
theorem zrw (T : List Kept) (i b : Nat) (hi : i < T.length) (h : b ≤ 600) (hb : (nth K0 T i).born = (b : Int)) : wrs (near T i) b 0 [.b true] = near T (i + 1) := by
  have e : (near T i).getD b [] = [.b (decide ((b : Int) ∈ bsT T i))] := by
    unfold near
    rw [List.getD_eq_getElem?_getD, List.getElem?_map, List.getElem?_range (by omega)]; rfl
  have h1 : wrs (near T i) b 0 [.b true] = (near T i).set b [.b true] := by
    unfold wrs wrs wr
    rw [e]; rfl
  rw [h1]
  apply List.ext_getElem?
  intro j
  rw [List.getElem?_set]
  rcases Nat.lt_or_ge j 601 with hj | hj
  · by_cases hjb : b = j
    · subst hjb
      rw [if_pos rfl, if_pos (by rw [zg5]; exact hj)]
      unfold near
      rw [List.getElem?_map, List.getElem?_range hj, Option.map_some, bsT_S _ _ hi, hb]
      simp
    · rw [if_neg hjb]
      unfold near
      rw [List.getElem?_map, List.getElem?_map, List.getElem?_range hj, Option.map_some, Option.map_some, bsT_S _ _ hi, hb]
      have : ((j : Int) ∈ bsT T i) ↔ ((j : Int) ∈ bsT T i ++ [(b : Int)]) := by
        rw [List.mem_append, List.mem_singleton]
        exact ⟨.inl, fun h => h.elim id fun h => absurd (by omega : b = j) hjb⟩
      rw [decide_eq_decide.2 this]
  · rw [if_neg (by omega), List.getElem?_eq_none (by rw [zg5]; exact hj), List.getElem?_eq_none (by rw [zg5]; exact hj)]
theorem far_S (T : List Kept) (i : Nat) (hi : i < T.length) : farL T (i + 1) = farL T i ++ (if 600 < (nth K0 T i).born then [(nth K0 T i).born] else []) := by
  unfold farL
  rw [bsT_S _ _ hi, List.filter_append]
  congr 1
  split
  · rename_i h; simp [h]
  · rename_i h; simp [h]
theorem zsp (T : List Kept) (i : Nat) (hi : i < T.length) (h : 600 < (nth K0 T i).born) : near T (i + 1) = near T i := by
  unfold near
  apply List.map_congr_left
  intro b hb
  rw [List.mem_range] at hb
  rw [bsT_S _ _ hi]
  have : ((b : Int) ∈ bsT T i ++ [(nth K0 T i).born]) ↔ ((b : Int) ∈ bsT T i) := by
    rw [List.mem_append, List.mem_singleton]
    exact ⟨fun h1 => h1.elim id fun h1 => absurd h1 (by omega), .inl⟩
  rw [decide_eq_decide.2 this]
theorem zsb (T : List Kept) (i : Nat) : (farL T i).length ≤ T.length := by
  unfold farL bsT
  refine Nat.le_trans (List.length_filter_le _ _) ?_
  rw [List.length_map, List.length_take]; omega
theorem zkf (T : List Kept) (i : Nat) {b : Int} (h : 600 < b) : b ∈ farL T i ↔ b ∈ bsT T i := by
  unfold farL; rw [List.mem_filter]; simp [h]
section
variable {s : State}
theorem ztl (hT : SrtK s.things) (nT : s.things.length ≤ 600) (hR : ∀ k ∈ s.things, k.thing.refs.length ≤ 30) : Lqd (some 20) [.i 0, .i s.width, .i s.now, .i s.given, .i s.births, .l (encK s.things), .l (encP s.pins), .l (encL s.leases)]
    = if (∀ j, 0 ≤ j → j < s.things.length → ∀ i, 0 ≤ i → i < (nth K0 s.things j).thing.refs.length → refIn s.things (nth K0 s.things j).born (nth .empty (nth K0 s.things j).thing.refs i)) then some [.b true] else some [.b false] := by
  refine zq (f := fun i : Nat => Lqd (some 20) [.i (i : Int), .i s.width, .i s.now, .i s.given, .i s.births, .l (encK s.things), .l (encP s.pins), .l (encL s.leases)]) (P := fun j => ∀ i, 0 ≤ i → i < (nth K0 s.things j).thing.refs.length → refIn s.things (nth K0 s.things j).born (nth .empty (nth K0 s.things j).thing.refs i)) (fun i hi => ?_) ?_ 0 (Nat.zero_le _)
  · have hr := hR _ (zi (d := K0) hi)
    have inner := zq (f := fun j : Nat => Lqd (some 23) [.i (i : Int), .i (j : Int), .i s.width, .i s.now, .i s.given, .i s.births, .l (encK s.things), .l (encP s.pins), .l (encL s.leases)])
      (P := fun j => refIn s.things (nth K0 s.things i).born (nth .empty (nth K0 s.things i).thing.refs j)) (n := (nth K0 s.things i).thing.refs.length) (T := Lqd (some 20) [.i ((i + 1 : Nat) : Int), .i s.width, .i s.now, .i s.given, .i s.births, .l (encK s.things), .l (encP s.pins), .l (encL s.leases)]) (F := some [.b false])
      (fun j hj => by
        show (_ → Lqd _ _ = Lqd _ _) ∧ (_ → Lqd _ _ = _)
        rw [eqd_23]
        have hf := zbi (T := s.things) (x := nth .empty (nth K0 s.things i).thing.refs j)
        simp (disch := omega) only [push_cast, zcn s.width s.now s.given s.births s.things (encP s.pins) (encL s.leases) (nth .empty (nth K0 s.things i).thing.refs j) hT (by omega)]
        by_cases c1 : hasT s.things (nth .empty (nth K0 s.things i).thing.refs j)
        rotate_left; · exact ⟨fun h => absurd h.1 c1, fun _ => by have := hf.2 c1; simp (disch := omega) only [push_cast]⟩
        have hl := ((zbs hT _).1 c1).1
        have hfi : findT s.things (nth .empty (nth K0 s.things i).thing.refs j) = (lb (qK (nth .empty (nth K0 s.things i).thing.refs j)) s.things : Int) := if_pos c1
        rw [hfi]
        by_cases c2 : (nth K0 s.things (lb (qK (nth .empty (nth K0 s.things i).thing.refs j)) s.things)).born < (nth K0 s.things i).born
        rotate_left; · exact ⟨fun h => absurd h.2 c2, fun _ => by simp (disch := omega) only [push_cast]⟩
        exact ⟨fun _ => by simp (disch := omega) only [push_cast] <;> rfl, fun h => absurd ⟨c1, c2⟩ h⟩)
      (by show Lqd _ _ = Lqd _ _; rw [eqd_23]; simp (disch := omega) only [push_cast] <;> rfl) 0 (Nat.zero_le _)
    show (_ → Lqd _ _ = Lqd _ _) ∧ (_ → Lqd _ _ = _)
    rw [eqd_20]
    simp (disch := omega) only [push_cast]
    have inner' : Lqd (some 23) [.i (i : Int), .i 0, .i s.width, .i s.now, .i s.given, .i s.births, .l (encK s.things), .l (encP s.pins), .l (encL s.leases)] = _ := inner
    rw [inner']
    exact ⟨fun h => if_pos h, fun h => if_neg h⟩
  · show Lqd _ _ = _
    rw [eqd_20]; simp (disch := omega) only [push_cast]
theorem znj (nT : s.things.length ≤ 600) (i : Nat) (hi : i < s.things.length) (l : List Int) (hl : l.length ≤ 1000000) (nrw : Rw) (b : Int) (x y : Bs) (z : Rw) :
    Lqd (some 14) [.i (i : Int), .i 0, .i s.width, .i s.now, .i s.given, .i s.births, .l (encK s.things), .l (encP s.pins), .l (encL s.leases), .l nrw, .l (encN l), .s x, .i b, .s y, .l z] =
      if b ∈ l then some [.b false] else Lqd (some 4) [.i ((i + 1 : Nat) : Int), .i s.width, .i s.now, .i s.given, .i s.births, .l (encK s.things), .l (encP s.pins), .l (encL s.leases), .l nrw, .l (encN (l ++ [b]))] := by
  have := zbx (f := fun j : Nat => Lqd (some 14) [.i (i : Int), .i (j : Int), .i s.width, .i s.now, .i s.given, .i s.births, .l (encK s.things), .l (encP s.pins), .l (encL s.leases), .l nrw, .l (encN l), .s x, .i b, .s y, .l z]) (0 : Int) (l := l) (p := fun r => r = b) (T := some [.b false])
    (E := Lqd (some 4) [.i ((i + 1 : Nat) : Int), .i s.width, .i s.now, .i s.given, .i s.births, .l (encK s.things), .l (encP s.pins), .l (encL s.leases), .l nrw, .l (encN (l ++ [b]))]) (fun j hj => by
    show Lqd _ _ = cond _ _ (Lqd _ _)
    rw [eqd_14, mostE]; simp (disch := omega) only [push_cast]) (by
    show Lqd _ _ = Lqd _ _
    have : encN (l ++ [b]) = encN l ++ [[.i b]] := by simp [encN]
    rw [eqd_14, mostE, this]; simp (disch := omega) only [push_cast])
  refine Eq.trans this ?_
  by_cases h : b ∈ l
  · rw [if_pos h, if_pos ⟨b, h, rfl⟩]
  · rw [if_neg h, if_neg (by rintro ⟨r, hr, rfl⟩; exact h hr)]
theorem sto_4 (nT : s.things.length ≤ 600) (hb : 0 ≤ s.births ∧ s.births ≤ 1000000000) : Lqd (some 4) [.i 0, .i s.width, .i s.now, .i s.given, .i s.births, .l (encK s.things), .l (encP s.pins), .l (encL s.leases), .l (near s.things 0), .l (encN (farL s.things 0))]
    = if (∀ j, 0 ≤ j → j < s.things.length → tP s.width s.births s.things j) then Lqd (some 20) [.i 0, .i s.width, .i s.now, .i s.given, .i s.births, .l (encK s.things), .l (encP s.pins), .l (encL s.leases)] else some [.b false] := by
  refine zq (f := fun i : Nat => Lqd (some 4) [.i (i : Int), .i s.width, .i s.now, .i s.given, .i s.births, .l (encK s.things), .l (encP s.pins), .l (encL s.leases), .l (near s.things i), .l (encN (farL s.things i))]) (fun i hi => ?_) ?_ 0 (Nat.zero_le _)
  · show (_ → Lqd _ _ = Lqd _ _) ∧ (_ → Lqd _ _ = _)
    have hfl := zsb s.things i
    rw [eqd_4]
    by_cases c1 : ThingOk (nth K0 s.things i).thing s.width
    rotate_left
    · refine ⟨fun h => absurd h.ok c1, fun _ => ?_⟩
      have : zz (nth K0 s.things i).thing s.width = false := decide_eq_false c1
      simp (disch := omega) only [push_cast, zcs, this]
    have ht : zz (nth K0 s.things i).thing s.width = true := decide_eq_true c1
    have hz : (formM (nth K0 s.things i).thing).size ≤ 1099511627776 := by
      rw [zbh]; have := zbe c1; omega
    have hft : formT (nth K0 s.things i).thing s.width = formM (nth K0 s.things i).thing := if_pos ht
    by_cases c2 : (nth K0 s.things i).sum = sumM (formM (nth K0 s.things i).thing) s.width
    rotate_left
    · refine ⟨fun h => absurd h.sum c2, fun _ => ?_⟩
      simp (disch := omega) only [push_cast, zcs, ht, zcq, hft, zb4 _ s.width hz]
    have tail : ∀ X : Option Lv, X = (Lqu none [.i (nth K0 s.things i).born, .i 1, .i s.births]).bind (fun y4 =>
         cond (!(g y4 0).bool) (some [.b false]) (
         cond (decide ((nth K0 s.things i).born ≤ 600)) (
          cond (inb ((nth K0 s.things i).born) (near s.things i).length) (
           cond ((rd (near s.things i) (((nth K0 s.things i).born).toNat) 0).bool) (some [.b false]) (
            cond (inb ((nth K0 s.things i).born) (near s.things i).length) (
             Lqd (some 4) [.i ((i + 1 : Nat) : Int), .i s.width, .i s.now, .i s.given, .i s.births, .l (encK s.things), .l (encP s.pins), .l (encL s.leases), .l (wrs (near s.things i) (((nth K0 s.things i).born).toNat) 0 ([.b true] : List C)), .l (encN (farL s.things i))]) (none))) (none)) (
          Lqd (some 14) [.i (i : Int), .i 0, .i s.width, .i s.now, .i s.given, .i s.births, .l (encK s.things), .l (encP s.pins), .l (encL s.leases), .l (near s.things i), .l (encN (farL s.things i)), .s (nth K0 s.things i).sum, .i (nth K0 s.things i).born, .s (nth K0 s.things i).thing.text, .l (encS (nth K0 s.things i).thing.refs)]))) →
        (0 < i → slt (nth K0 s.things (i - 1)).sum (nth K0 s.things i).sum = true) →
        (tP s.width s.births s.things i → X = Lqd (some 4) [.i ((i + 1 : Nat) : Int), .i s.width, .i s.now, .i s.given, .i s.births, .l (encK s.things), .l (encP s.pins), .l (encL s.leases), .l (near s.things (i + 1)), .l (encN (farL s.things (i + 1)))]) ∧ (¬ tP s.width s.births s.things i → X = some [.b false]) := by
      rintro X rfl hadj
      by_cases c3 : 1 ≤ (nth K0 s.things i).born ∧ (nth K0 s.things i).born ≤ s.births
      rotate_left; · exact ⟨fun h => absurd ⟨h.lo, h.hi⟩ c3, fun _ => by simp (disch := omega) only [push_cast, zl]⟩
      by_cases c5 : (nth K0 s.things i).born ≤ 600
      · obtain ⟨b, hbb⟩ : ∃ b : Nat, (nth K0 s.things i).born = b := ⟨((nth K0 s.things i).born).toNat, by omega⟩
        have hrd := zpf s.things i b (by omega)
        by_cases c6 : (nth K0 s.things i).born ∈ bsT s.things i
        · refine ⟨fun h => absurd c6 h.new, fun _ => ?_⟩
          rw [hbb] at c6
          simp (disch := omega) only [push_cast, zl, hbb, hrd, decide_eq_true c6]
        · refine ⟨fun _ => ?_, fun h => absurd ⟨hadj, c1, c2, c3.1, c3.2, c6⟩ h⟩
          have hw := zrw s.things i b hi (by omega) hbb
          rw [far_S _ _ hi, if_neg (by omega), List.append_nil]
          rw [hbb] at c6
          simp (disch := omega) only [push_cast, zl, hbb, hrd, decide_eq_false c6, hw]
      · have h14 := znj nT i hi (farL s.things i) (by omega) (near s.things i) (nth K0 s.things i).born (nth K0 s.things i).sum (nth K0 s.things i).thing.text (encS (nth K0 s.things i).thing.refs)
        by_cases c6 : (nth K0 s.things i).born ∈ bsT s.things i
        · refine ⟨fun h => absurd c6 h.new, fun _ => ?_⟩
          rw [if_pos ((zkf _ _ (by omega)).2 c6)] at h14
          simp (disch := omega) only [push_cast, zl]
          exact h14
        · refine ⟨fun _ => ?_, fun h => absurd ⟨hadj, c1, c2, c3.1, c3.2, c6⟩ h⟩
          rw [if_neg (fun h => c6 ((zkf _ _ (by omega)).1 h))] at h14
          rw [far_S _ _ hi, if_pos (by omega), zsp _ _ hi (by omega)]
          simp (disch := omega) only [push_cast, zl]
          exact h14
    by_cases c0 : 0 < i
    · cases c4 : slt (nth K0 s.things (i - 1)).sum (nth K0 s.things i).sum
      · exact ⟨fun h => absurd (h.adj c0) (by simp [c4]), fun _ => by simp (disch := omega) only [push_cast, zcs, ht, zcq, hft, zb4 _ s.width hz, ← c2, c4]⟩
      · refine tail _ ?_ (fun _ => c4)
        simp (disch := omega) only [push_cast, zcs, ht, zcq, hft, zb4 _ s.width hz, ← c2, c4]
    · refine tail _ ?_ (fun h => absurd h c0)
      simp (disch := omega) only [push_cast, zcs, ht, zcq, hft, zb4 _ s.width hz, ← c2]
  · show Lqd _ _ = _
    rw [eqd_4]; simp (disch := omega) only [push_cast]
theorem zn4 (hn : 0 ≤ s.now ∧ s.now ≤ 1000000000) (hT : SrtK s.things) (nT : s.things.length ≤ 600) (nL : s.leases.length ≤ 200) : Lqw (some 11) [.i 0, .i s.width, .i s.now, .i s.given, .i s.births, .l (encK s.things), .l (encP s.pins), .l (encL s.leases)]
    = if (∀ j, 0 ≤ j → j < s.leases.length → lP s.now s.given s.things s.leases j) then some [.b true] else some [.b false] := by
  refine zq (f := fun i : Nat => Lqw (some 11) [.i (i : Int), .i s.width, .i s.now, .i s.given, .i s.births, .l (encK s.things), .l (encP s.pins), .l (encL s.leases)]) (fun i hi => ?_) ?_ 0 (Nat.zero_le _)
  · show (_ → Lqw _ _ = Lqw _ _) ∧ (_ → Lqw _ _ = _)
    rw [eqw_11]
    have hf := zbi (T := s.things) (x := (nth L0 s.leases i).sum)
    have hfe := zcn s.width s.now s.given s.births s.things (encP s.pins) (encL s.leases) (nth L0 s.leases i).sum hT (by omega)
    by_cases c2 : 1 ≤ (nth L0 s.leases i).number ∧ (nth L0 s.leases i).number ≤ s.given
    rotate_left; · exact ⟨fun h => absurd ⟨h.lo, h.hi⟩ c2, fun _ => by simp (disch := omega) only [push_cast, zl]⟩
    by_cases c0 : 0 < i
    · by_cases c4 : (nth L0 s.leases (i - 1)).number < (nth L0 s.leases i).number
      rotate_left; · exact ⟨fun h => absurd (h.adj c0) c4, fun _ => by simp (disch := omega) only [push_cast, zl]⟩
      by_cases c1 : hasT s.things (nth L0 s.leases i).sum
      rotate_left; · exact ⟨fun h => absurd h.has c1, fun _ => by have := hf.2 c1; simp (disch := omega) only [push_cast, zl, hfe]⟩
      have c1' : ¬ findT s.things (nth L0 s.leases i).sum < 0 := fun h => hf.1 h c1
      by_cases c5 : s.now < (nth L0 s.leases i).till
      rotate_left; · exact ⟨fun h => absurd h.t1 c5, fun _ => by simp (disch := omega) only [push_cast, zl, hfe]⟩
      by_cases c6 : (nth L0 s.leases i).till ≤ s.now + 100000
      rotate_left; · exact ⟨fun h => absurd h.t2 c6, fun _ => by simp (disch := omega) only [push_cast, zl, hfe]⟩
      exact ⟨fun _ => by simp (disch := omega) only [push_cast, zl, hfe] <;> rfl, fun h => absurd ⟨c1, c2.1, c2.2, fun _ => c4, c5, c6⟩ h⟩
    · by_cases c1 : hasT s.things (nth L0 s.leases i).sum
      rotate_left; · exact ⟨fun h => absurd h.has c1, fun _ => by have := hf.2 c1; simp (disch := omega) only [push_cast, zl, hfe]⟩
      have c1' : ¬ findT s.things (nth L0 s.leases i).sum < 0 := fun h => hf.1 h c1
      by_cases c5 : s.now < (nth L0 s.leases i).till
      rotate_left; · exact ⟨fun h => absurd h.t1 c5, fun _ => by simp (disch := omega) only [push_cast, zl, hfe]⟩
      by_cases c6 : (nth L0 s.leases i).till ≤ s.now + 100000
      rotate_left; · exact ⟨fun h => absurd h.t2 c6, fun _ => by simp (disch := omega) only [push_cast, zl, hfe]⟩
      exact ⟨fun _ => by simp (disch := omega) only [push_cast, zl, hfe] <;> rfl, fun h => absurd ⟨c1, c2.1, c2.2, fun h => absurd h c0, c5, c6⟩ h⟩
  · show Lqw _ _ = _
    rw [eqw_11]; simp (disch := omega) only [push_cast]
theorem svs_6 (hT : SrtK s.things) (nT : s.things.length ≤ 600) (nP : s.pins.length ≤ 100) (hN : ∀ p ∈ s.pins, p.name.size ≤ 4611686018427387904) : Lqw (some 6) [.i 0, .i s.width, .i s.now, .i s.given, .i s.births, .l (encK s.things), .l (encP s.pins), .l (encL s.leases)]
    = if (∀ j, 0 ≤ j → j < s.pins.length → pP s.things s.pins j) then Lqw (some 11) [.i 0, .i s.width, .i s.now, .i s.given, .i s.births, .l (encK s.things), .l (encP s.pins), .l (encL s.leases)] else some [.b false] := by
  refine zq (f := fun i : Nat => Lqw (some 6) [.i (i : Int), .i s.width, .i s.now, .i s.given, .i s.births, .l (encK s.things), .l (encP s.pins), .l (encL s.leases)]) (fun i hi => ?_) ?_ 0 (Nat.zero_le _)
  · show (_ → Lqw _ _ = Lqw _ _) ∧ (_ → Lqw _ _ = _)
    rw [eqw_6]
    have hf := zbi (T := s.things) (x := (nth P0 s.pins i).sum)
    have hfe := zcn s.width s.now s.given s.births s.things (encP s.pins) (encL s.leases) (nth P0 s.pins i).sum hT (by omega)
    have hne := zi1 (nth P0 s.pins i).name (hN _ (zi hi))
    unfold nameB at hne
    by_cases c2 : NameOk (nth P0 s.pins i).name
    rotate_left; · exact ⟨fun h => absurd h.nm c2, fun _ => by simp (disch := omega) only [push_cast, hne]⟩
    by_cases c0 : 0 < i
    · cases c4 : slt (nth P0 s.pins (i - 1)).name (nth P0 s.pins i).name
      · exact ⟨fun h => absurd (h.adj c0) (by simp [c4]), fun _ => by simp (disch := omega) only [push_cast, hne, c4]⟩
      · by_cases c1 : hasT s.things (nth P0 s.pins i).sum
        rotate_left; · exact ⟨fun h => absurd h.has c1, fun _ => by have := hf.2 c1; simp (disch := omega) only [push_cast, hne, c4, hfe]⟩
        have c1' : ¬ findT s.things (nth P0 s.pins i).sum < 0 := fun h => hf.1 h c1
        exact ⟨fun _ => by simp (disch := omega) only [push_cast, hne, c4, hfe] <;> rfl, fun h => absurd ⟨c1, c2, fun _ => c4⟩ h⟩
    · by_cases c1 : hasT s.things (nth P0 s.pins i).sum
      rotate_left; · exact ⟨fun h => absurd h.has c1, fun _ => by have := hf.2 c1; simp (disch := omega) only [push_cast, hne, hfe]⟩
      have c1' : ¬ findT s.things (nth P0 s.pins i).sum < 0 := fun h => hf.1 h c1
      exact ⟨fun _ => by simp (disch := omega) only [push_cast, hne, hfe] <;> rfl, fun h => absurd ⟨c1, c2, fun h => absurd h c0⟩ h⟩
  · show Lqw _ _ = _
    rw [eqw_6]; simp (disch := omega) only [push_cast]
theorem zmr (T : List Kept) : List.replicate 601 ([.b false] : List C) = near T 0 := by
  unfold near bsT
  simp only [List.take_zero, List.map_nil, List.not_mem_nil, decide_false]
  rw [List.map_const', List.length_range]
theorem zms (s : State) (hN : ∀ p ∈ s.pins, p.name.size ≤ 4611686018427387904) : Lqw none (encSt s) = some [.b (decide (VS s))] := by
  unfold encSt
  rw [eqw_i]
  have hv := zjf s
  by_cases h1 : 1 ≤ s.width ∧ s.width ≤ 8
  rotate_left; · rw [decide_eq_false fun V : VS s => h1 V.wd]; have : zj s.width = false := by cases h : zj s.width; { rfl }; { exact absurd (zw.1 h) h1 }
                 simp (disch := omega) only [push_cast, zt, this]
  have hw : zj s.width = true := zw.2 h1
  by_cases h2 : 0 ≤ s.now ∧ s.now ≤ 1000000000
  rotate_left; · rw [decide_eq_false fun V : VS s => h2 V.now]; simp (disch := omega) only [push_cast, zt, hw, zl]
  by_cases h3 : 0 ≤ s.given ∧ s.given ≤ 1000000000
  rotate_left; · rw [decide_eq_false fun V : VS s => h3 V.given]; simp (disch := omega) only [push_cast, zt, hw, zl]
  by_cases h4 : 0 ≤ s.births ∧ s.births ≤ 1000000000
  rotate_left; · rw [decide_eq_false fun V : VS s => h4 V.births]; simp (disch := omega) only [push_cast, zt, hw, zl]
  by_cases h5 : s.things.length ≤ 600
  rotate_left; · rw [decide_eq_false fun V : VS s => h5 V.nT]; simp (disch := omega) only [push_cast, zt, hw, zl]
  by_cases h6 : s.pins.length ≤ 100
  rotate_left; · rw [decide_eq_false fun V : VS s => h6 V.nP]; simp (disch := omega) only [push_cast, zt, hw, zl]
  by_cases h7 : s.leases.length ≤ 200
  rotate_left; · rw [decide_eq_false fun V : VS s => h7 V.nL]; simp (disch := omega) only [push_cast, zt, hw, zl]
  have hto : Lqd none [.i s.width, .i s.now, .i s.given, .i s.births, .l (encK s.things), .l (encP s.pins), .l (encL s.leases)] = _ := (eqd_i _ _ _ _ _ _ _).trans ((by rw [zmr s.things]; rfl : _ = Lqd (some 4) [.i 0, .i s.width, .i s.now, .i s.given, .i s.births, .l (encK s.things), .l (encP s.pins), .l (encL s.leases), .l (near s.things 0), .l (encN (farL s.things 0))]).trans (sto_4 h5 h4))
  by_cases h8 : ∀ j, 0 ≤ j → j < s.things.length → tP s.width s.births s.things j
  rotate_left; · rw [if_neg h8] at hto; rw [decide_eq_false fun V : VS s => h8 (hv.1 V).2.2.2.2.2.2.2.1]; simp (disch := omega) only [push_cast, zt, hw, zl, hto]
  have hs := (zgq _ _ _).1 h8
  rw [if_pos h8, ztl hs.1 h5 fun k hk => (hs.2.1 k hk).1.refs] at hto
  by_cases h9 : ∀ j, 0 ≤ j → j < s.things.length → ∀ i, 0 ≤ i → i < (nth K0 s.things j).thing.refs.length → refIn s.things (nth K0 s.things j).born (nth .empty (nth K0 s.things j).thing.refs i)
  rotate_left; · rw [if_neg h9] at hto; rw [decide_eq_false fun V : VS s => h9 (hv.1 V).2.2.2.2.2.2.2.2.1]; simp (disch := omega) only [push_cast, zt, hw, zl, hto]
  rw [if_pos h9] at hto
  simp (disch := omega) only [push_cast, zt, hw, zl, hto, svs_6 hs.1 h5 h6 hN]
  by_cases h10 : ∀ j, 0 ≤ j → j < s.pins.length → pP s.things s.pins j
  rotate_left; · rw [if_neg h10, decide_eq_false fun V : VS s => h10 (hv.1 V).2.2.2.2.2.2.2.2.2.1]
  rw [if_pos h10, zn4 h2 hs.1 h5 h7]
  by_cases h11 : ∀ j, 0 ≤ j → j < s.leases.length → lP s.now s.given s.things s.leases j
  rotate_left; · rw [if_neg h11, decide_eq_false fun V : VS s => h11 (hv.1 V).2.2.2.2.2.2.2.2.2.2]
  rw [if_pos h11, decide_eq_true (hv.2 ⟨h1, h2, h3, h4, h5, h6, h7, h8, h9, h10, h11⟩)]
end
end KV
end
section
namespace KV
open Go Go.Eng
open Classical
theorem zkv {α : Type} : ∀ (l m : List α), l.Nodup → (∀ x ∈ l, x ∈ m) → l.length ≤ m.length
  | [], m, _, _ => Nat.zero_le _
  | a :: l, m, h, hs => by
    rw [List.nodup_cons] at h
    have ha := hs a (by simp)
    have h1 := zkv l (m.erase a) h.2 fun x hx => by
      have hne : x ≠ a := fun e => h.1 (e ▸ hx)
      exact (List.mem_erase_of_ne hne).2 (hs x (by simp [hx]))
    rw [List.length_erase_of_mem ha] at h1
    have : 0 < m.length := List.length_pos_of_mem ha
    rw [List.length_cons]; omega
structure RI (N : Int) (v : Vault) : Prop where
  vv : VV v
  sub : ∀ x ∈ v.rd.marked, hasT v.st.things x
  q : v.rd.queue.length ≤ 300 + 30 * v.rd.marked.length + (v.safe.length + v.loose.length)
  cnt : ((v.safe.length + v.loose.length : Nat) : Int) + v.rd.rounds ≤ N
  t1 : v.rd.phase ≠ 0 → ∀ x, held v.st x → x ∈ v.rd.marked ∨ x ∈ v.rd.queue
  t2 : v.rd.phase ≠ 0 → ∀ k ∈ v.st.things, k.sum ∈ v.rd.marked → ∀ r ∈ k.thing.refs, r ∈ v.rd.marked ∨ r ∈ v.rd.queue
  t3 : v.rd.phase ≠ 0 → ∀ k ∈ v.st.things, v.rd.at_ ≤ k.born → k.sum ∈ v.rd.marked ∨ k.sum ∈ v.rd.queue
end KV
end
section
namespace KV
open Go Go.Eng
open Classical
inductive Rch (T : List Kept) (F : List Bs) : Bs → Prop where
  | base (x : Bs) (h : x ∈ F) : Rch T F x
  | ref (k : Kept) (x : Bs) (hk : k ∈ T) (h : Rch T F k.sum) (hx : x ∈ k.thing.refs) : Rch T F x
def Liv (s : State) (x : Bs) : Prop := Rch s.things (zb6 s) x
end KV
end
section
namespace KV
open Go Go.Eng
open Classical
noncomputable def sumU (m : List Bs) : List Kept → Nat
  | [] => 0
  | k :: l => (if k.sum ∈ m then 0 else k.thing.refs.length) + sumU m l
theorem zhs {m m' : List Bs} (h : ∀ x ∈ m, x ∈ m') : ∀ l, sumU m' l ≤ sumU m l
  | [] => Nat.le_refl _
  | k :: l => by
    have := zhs h l
    simp only [sumU]
    by_cases c : k.sum ∈ m
    · rw [if_pos c, if_pos (h _ c)]; omega
    · rw [if_neg c]; split <;> omega
theorem zh9 {m : List Bs} {x : Bs} (hx : x ∉ m) : ∀ (l : List Kept) (k : Kept), k ∈ l → k.sum = x → sumU (m ++ [x]) l + k.thing.refs.length ≤ sumU m l
  | a :: l, k, hk, hs => by
    have hm := zhs (m := m) (m' := m ++ [x]) (fun y hy => List.mem_append.2 (.inl hy)) l
    simp only [sumU]
    rcases List.mem_cons.1 hk with rfl | hk
    · rw [if_pos (by rw [hs]; simp), if_neg (by rw [hs]; exact hx)]; omega
    · have := zh9 hx l k hk hs
      by_cases c : a.sum ∈ m
      · rw [if_pos (List.mem_append.2 (.inl c)), if_pos c]; omega
      · rw [if_neg c]; split <;> omega
theorem zlk (m : List Bs) : ∀ (l : List Kept), (∀ k ∈ l, k.thing.refs.length ≤ 30) → sumU m l ≤ 30 * l.length
  | [], _ => Nat.zero_le _
  | k :: l, h => by
    have h1 := zlk m l fun j hj => h j (by simp [hj])
    have h2 := h k (by simp)
    simp only [sumU, List.length_cons]
    split <;> omega
theorem zr4 {x : Bs} {l : List Kept} (h : hasT l x) : (delK x l).length + 1 ≤ l.length := by
  obtain ⟨k, hk, he⟩ := h
  have : (delK x l).length < l.length := by
    unfold delK
    rw [List.length_filter_lt_length_iff_exists]
    exact ⟨k, hk, by simp [he]⟩
  omega
noncomputable def junk (s : State) (r : Round) : Nat := (r.marked.filter fun x => !decide (hasT s.things x)).length
structure CL (s : State) (r : Round) : Prop where
  vs : VS s
  rok : RoundOk s.width s.births r
  jk : junk s r + s.things.length ≤ 600
  qq : r.phase ≠ 0 → r.queue.length + sumU r.marked s.things ≤ 23200
theorem VS.rl {s : State} (V : VS s) : ∀ k ∈ s.things, k.thing.refs.length ≤ 30 := fun k hk => (V.okT k hk).1.refs
theorem zoo {s : State} (V : VS s) {a b : Kept} (ha : a ∈ s.things) (hb : b ∈ s.things) (h : a.sum = b.sum) : a = b := by
  obtain ⟨i, hi, rfl⟩ := zbb K0 ha
  obtain ⟨j, hj, rfl⟩ := zbb K0 hb
  have h1 := zcj K0 V.srtT (kp (nth K0 s.things j).sum) (kR (nth K0 s.things j).sum) hi h
  have h2 := zcj K0 V.srtT (kp (nth K0 s.things j).sum) (kR (nth K0 s.things j).sum) hj rfl
  rw [h1, ← h2]
structure UK (s s' : State) : Prop where
  ints : s'.width = s.width ∧ s'.births = s.births ∧ s'.now = s.now ∧ s'.given = s.given
  pins : s'.pins = s.pins
  leases : s'.leases = s.leases
  sub : s'.things.Sublist s.things
  liv : ∀ x, Liv s' x ↔ Liv s x
theorem UK.refl (s : State) : UK s s := ⟨⟨rfl, rfl, rfl, rfl⟩, rfl, rfl, List.Sublist.refl _, fun _ => Iff.rfl⟩
theorem UK.trans {a b c : State} (h : UK a b) (k : UK b c) : UK a c := by
  obtain ⟨a1, a2, a3, a4⟩ := h.ints
  obtain ⟨b1, b2, b3, b4⟩ := k.ints
  exact ⟨⟨b1.trans a1, b2.trans a2, b3.trans a3, b4.trans a4⟩, k.pins.trans h.pins, k.leases.trans h.leases, k.sub.trans h.sub, fun x => (k.liv x).trans (h.liv x)⟩
end KV
end
section
namespace KV
open Go Go.Eng
open Classical
structure BR (r : Round) : Prop where
  q : r.queue.length ≤ 24000
  m : r.marked.length ≤ 1000
  ints : (-1 ≤ r.phase ∧ r.phase ≤ 5) ∧ (-1 ≤ r.top ∧ r.top ≤ 1000000001) ∧ (-1 ≤ r.at_ ∧ r.at_ ≤ 1000000003) ∧ (-1 ≤ r.rounds ∧ r.rounds ≤ 1000000001)
structure IR (r : Round) : Prop where
  q : r.queue.length ≤ 23200
  m : r.marked.length ≤ 600
  ints : (0 ≤ r.phase ∧ r.phase ≤ 2) ∧ (0 ≤ r.top ∧ r.top ≤ 1000000000) ∧ (0 ≤ r.at_ ∧ r.at_ ≤ 1000000001) ∧ (0 ≤ r.rounds ∧ r.rounds ≤ 1000000000)
theorem IR.br {r : Round} (h : IR r) : BR r := by
  obtain ⟨a, b, c, d⟩ := h.ints
  exact ⟨by have := h.q; omega, by have := h.m; omega, by omega, by omega, by omega, by omega⟩
end KV
end
section
namespace KV
open Go Go.Eng
open Classical
structure SI (s : State) (F ks todo : List Bs) : Prop where
  nd : ks.Nodup
  has : ∀ x ∈ ks, hasT s.things x
  hasQ : ∀ x ∈ todo, hasT s.things x
  base : ∀ x ∈ F, x ∈ ks ∨ x ∈ todo
  rch : ∀ x ∈ ks, Rch s.things F x
  rchQ : ∀ x ∈ todo, Rch s.things F x
  cl : ∀ k ∈ s.things, k.sum ∈ ks → ∀ r ∈ k.thing.refs, r ∈ ks ∨ r ∈ todo
theorem zqv {s : State} (V : VS s) (F : List Bs) : ∀ (m : Nat) (ks todo : List Bs), m ≤ 1000000 → todo.length + sumU ks s.things ≤ m → SI s F ks todo →
    ∃ ks' : List Bs, Lqbh (some 3) [.i s.width, .i s.now, .i s.given, .i s.births, .l (encK s.things), .l (encP s.pins), .l (encL s.leases), .m (setM ks), .l (encS todo)] = some [.m (setM ks')] ∧ ks'.Nodup ∧ ∀ x, x ∈ ks' ↔ Rch s.things F x := by
  intro m
  have n1 := V.nT
  have fin : ∀ ks : List Bs, SI s F ks [] → ∃ ks' : List Bs, Lqbh (some 3) [.i s.width, .i s.now, .i s.given, .i s.births, .l (encK s.things), .l (encP s.pins), .l (encL s.leases), .m (setM ks), .l (encS [])] = some [.m (setM ks')] ∧ ks'.Nodup ∧ ∀ x, x ∈ ks' ↔ Rch s.things F x := by
    intro ks h
    refine ⟨ks, ?_, h.nd, fun x => ⟨h.rch x, fun hx => ?_⟩⟩
    · rw [eqbh_3]; simp (disch := omega) only [push_cast]
    · induction hx with
      | base x hx => exact (h.base x hx).resolve_right (fun h => nomatch h)
      | ref k x hk hks hx ih => exact (h.cl k hk ih x hx).resolve_right (fun h => nomatch h)
  induction m with
  | zero =>
    intro ks todo hm hl h
    have : todo = [] := List.eq_nil_of_length_eq_zero (by omega)
    subst this
    exact fin ks h
  | succ m ih =>
    intro ks todo hm hl h
    rcases List.eq_nil_or_concat todo with rfl | ⟨t, x, rfl⟩
    · exact fin ks h
    rw [List.concat_eq_append] at hl h ⊢
    rw [List.length_append] at hl
    simp only [List.length_cons, List.length_nil] at hl
    have hxT := h.hasQ x (by simp)
    have hxi := (zbs V.srtT x).1 hxT
    obtain ⟨k, hk⟩ : ∃ k, nth K0 s.things (lb (qK x) s.things) = k := ⟨_, rfl⟩
    have hkm : k ∈ s.things := by rw [← hk]; exact zi hxi.1
    have hks : k.sum = x := by rw [← hk]; exact hxi.2
    have hrl := V.rl k hkm
    have hlen : (encS (t ++ [x])).length = t.length + 1 := by rw [zbk]; simp
    have hlast : nth .empty (t ++ [x]) t.length = x := by
      rw [zk _ _ _ (by simp)]; simp
    have hsub : Eng.sub (encS (t ++ [x])) 0 t.length = encS t := by
      rw [zdh]; simp
    have hth := zbo s.width s.now s.given s.births s.things (encP s.pins) (encL s.leases) x V.srtT (by omega)
    have e2 : ((t.length : Int) + 1 - 1).toNat = t.length := by omega
    rw [eqbh_3, mostE, hlen]
    by_cases hin : x ∈ ks
    · obtain ⟨ks', e, r⟩ := ih ks t (by omega) (by omega) ⟨h.nd, h.has, fun y hy => h.hasQ y (by simp [hy]), fun y hy => by
        rcases h.base y hy with h1 | h1
        · exact .inl h1
        · rcases List.mem_append.1 h1 with h2 | h2
          · exact .inr h2
          · rw [List.mem_singleton] at h2; rw [h2]; exact .inl hin, h.rch, fun y hy => h.rchQ y (by simp [hy]), fun j hj hjk r hr => by
        rcases h.cl j hj hjk r hr with h1 | h1
        · exact .inl h1
        · rcases List.mem_append.1 h1 with h2 | h2
          · exact .inr h2
          · rw [List.mem_singleton] at h2; rw [h2]; exact .inl hin⟩
      refine ⟨ks', ?_, r⟩
      simp (disch := omega) only [push_cast, e2, hlast, hth, decide_eq_true hxT, inM, decide_eq_true hin, hsub]
      exact e
    · have hmk := zh9 hin s.things k hkm hks
      obtain ⟨ks', e, r⟩ := ih (ks ++ [x]) (t ++ k.thing.refs) (by omega) (by rw [List.length_append]; omega) ⟨by
          rw [List.nodup_append]
          refine ⟨h.nd, by simp, fun a ha b hb => ?_⟩
          rw [List.mem_singleton] at hb
          rintro rfl
          rw [hb] at ha; exact hin ha, fun y hy => by
          rcases List.mem_append.1 hy with h1 | h1
          · exact h.has y h1
          · rw [List.mem_singleton] at h1; rw [h1]; exact hxT, fun y hy => by
          rcases List.mem_append.1 hy with h1 | h1
          · exact h.hasQ y (by simp [h1])
          · obtain ⟨j, hj, e, _⟩ := V.refs k hkm y h1; exact ⟨j, hj, e⟩, fun y hy => by
          rcases h.base y hy with h1 | h1
          · exact .inl (List.mem_append.2 (.inl h1))
          · rcases List.mem_append.1 h1 with h2 | h2
            · exact .inr (List.mem_append.2 (.inl h2))
            · exact .inl (List.mem_append.2 (.inr h2)), fun y hy => by
          rcases List.mem_append.1 hy with h1 | h1
          · exact h.rch y h1
          · rw [List.mem_singleton] at h1; rw [h1]; exact h.rchQ x (by simp), fun y hy => by
          rcases List.mem_append.1 hy with h1 | h1
          · exact h.rchQ y (by simp [h1])
          · exact .ref k y hkm (by rw [hks]; exact h.rchQ x (by simp)) h1, fun j hj hjk r hr => by
          rcases List.mem_append.1 hjk with h1 | h1
          · rcases h.cl j hj h1 r hr with h2 | h2
            · exact .inl (List.mem_append.2 (.inl h2))
            · rcases List.mem_append.1 h2 with h3 | h3
              · exact .inr (List.mem_append.2 (.inl h3))
              · exact .inl (List.mem_append.2 (.inr h3))
          · rw [List.mem_singleton] at h1
            obtain rfl := zoo V hj hkm (h1.trans hks.symm)
            exact .inr (List.mem_append.2 (.inr hr))⟩
      refine ⟨ks', ?_, r⟩
      rw [← zu] at e
      simp (disch := omega) only [push_cast, e2, hlast, hth, decide_eq_true hxT, inM, decide_eq_false hin, hsub, hk, zjo x ks hin]
      exact e
theorem zlq {s : State} (V : VS s) (F : List Bs) (hF : ∀ x ∈ F, hasT s.things x) (hl : F.length ≤ 100000) : ∃ ks : List Bs, Lqbh none [.l (encS F), .i s.width, .i s.now, .i s.given, .i s.births, .l (encK s.things), .l (encP s.pins), .l (encL s.leases)] = some [.m (setM ks)] ∧ ks.Nodup ∧ ∀ x, x ∈ ks ↔ Rch s.things F x := by
  have n1 := V.nT
  have h1 := zlk [] s.things V.rl
  obtain ⟨ks, e, r⟩ := zqv V F (F.length + sumU [] s.things) [] F (by omega) (Nat.le_refl _) ⟨List.nodup_nil, fun x hx => (nomatch hx), hF, fun x hx => .inr hx, fun x hx => (nomatch hx), fun x hx => .base x hx, fun k hk h => nomatch h⟩
  refine ⟨ks, ?_, r⟩
  rw [eqbh_i]
  simp (disch := omega) only [push_cast, zf0 (encS F) (by rw [zbk]; omega)]
  exact e
end KV
end
section
namespace KV
open Go Go.Eng
open Classical
theorem GS.names {s : State} (h : GS s) : ∀ p ∈ s.pins, p.name.size ≤ 4611686018427387904 := h.bs.names
end KV
end
section
namespace KV
open Go Go.Eng
open Classical
theorem RI.mono {N M : Int} {v : Vault} (h : RI N v) (hM : N ≤ M) : RI M v := ⟨h.vv, h.sub, h.q, by have := h.cnt; omega, h.t1, h.t2, h.t3⟩
def A0 : Act := ⟨0, E0, 0, E0, 0, 0⟩
def cA (a : Act) : List C := [.i a.kind, .s a.text, .i a.refs, .s a.name, .i a.pick, .i a.ticks]
def encAs (l : List Act) : Rw := l.map cA
@[push_cast] theorem ztp (l : List Act) : (encAs l).length = l.length := by simp [encAs]
@[push_cast] theorem ztx (l : List Act) (i : Nat) : (rd (encAs l) i 0).int = (nth A0 l i).kind := zbf cA A0 l i 0 C.int rfl
@[push_cast] theorem ztv (l : List Act) (i : Nat) : (rd (encAs l) i 1).str = (nth A0 l i).text := zbf cA A0 l i 1 C.str rfl
@[push_cast] theorem zt3 (l : List Act) (i : Nat) : (rd (encAs l) i 2).int = (nth A0 l i).refs := zbf cA A0 l i 2 C.int rfl
@[push_cast] theorem ztu (l : List Act) (i : Nat) : (rd (encAs l) i 3).str = (nth A0 l i).name := zbf cA A0 l i 3 C.str rfl
@[push_cast] theorem ztz (l : List Act) (i : Nat) : (rd (encAs l) i 4).int = (nth A0 l i).pick := zbf cA A0 l i 4 C.int rfl
@[push_cast] theorem zt1 (l : List Act) (i : Nat) : (rd (encAs l) i 5).int = (nth A0 l i).ticks := zbf cA A0 l i 5 C.int rfl
end KV
end
section
namespace KV
open Go Go.Eng
open Classical
abbrev Put := Bs × Thing
def encQ (l : List Put) : Rw := l.map fun q => [.s q.1, .s q.2.text, .l (encS q.2.refs)]
def encSs (l : List State) : Rw := l.map fun s => [.i s.width, .i s.now, .i s.given, .i s.births, .l (encK s.things), .l (encP s.pins), .l (encL s.leases)]
@[push_cast] theorem ztr (l : List Put) : (encQ l).length = l.length := by simp [encQ]
@[push_cast] theorem zt2 (l : List State) : (encSs l).length = l.length := by simp [encSs]
def PI (put : List Put) (w : Int) (l : List Bs) : Prop := ∀ n s, runL w (empty w) (l.take n) 0 = .inl s → ∀ k ∈ s.things, (k.sum, k.thing) ∈ put
def QI (past : List State) (w : Int) (a b : List Bs) : Prop := ∀ n s, runL w (empty w) (a ++ b.take n) 0 = .inl s → s ∈ past
theorem PI.mono {p q : List Put} {w : Int} {l : List Bs} (h : PI p w l) (hs : ∀ x ∈ p, x ∈ q) : PI q w l := fun n s hr k hk => hs _ (h n s hr k hk)
theorem QI.mono {p q : List State} {w : Int} {a b : List Bs} (h : QI p w a b) (hs : ∀ x ∈ p, x ∈ q) : QI q w a b := fun n s hr => hs _ (h n s hr)
end KV
end
section
namespace KV
open Go Go.Eng
open Classical
def TX (w : Int) (l : List Bs) : Prop := ∀ n s, runL w (empty w) (l.take n) 0 = .inl s → ∀ k ∈ s.things, k.thing.text.size ≤ 20
theorem TX.nil (w : Int) : TX w [] := fun n s hn k hk => by
  rw [List.take_nil] at hn
  simp only [runL] at hn
  cases hn; cases hk
structure AV (v : Vault) : Prop where
  bs : BS v.st
  br : BR v.rd
  ns : v.safe.length + v.loose.length ≤ 4010
  sz : ∀ x ∈ v.safe ++ v.loose, x.size ≤ 5000
  ints : (-1 ≤ v.width ∧ v.width ≤ 10) ∧ (-1 ≤ v.limit ∧ v.limit ≤ 1000001)
  cut : CutV v
  tx : VV v → v.safe.length + v.loose.length ≤ 1000 → ∀ k ∈ v.st.things, k.thing.text.size ≤ 20
theorem AV.small {v : Vault} (h : AV v) : SmallV v := by
  have h1 := h.ns; have h2 := h.br.q; have h3 := h.br.m; have h4 := h.bs.nT
  exact ⟨⟨by omega, fun x hx => by have := h.sz x (List.mem_append.2 (.inl hx)); omega⟩, ⟨by omega, fun x hx => by have := h.sz x (List.mem_append.2 (.inr hx)); omega⟩, by omega, h.bs.small, by omega, by omega, by omega⟩
theorem GS.uni {s : State} (h : GS s) : ∃ a : Nat, ∀ k ∈ s.things, ∀ r ∈ k.thing.refs, r.size = a := by
  rcases h with h | rfl
  · exact ⟨_, h.uni⟩
  · exact ⟨0, fun k hk => nomatch hk⟩
end KV
end
section
namespace KV
open Go Go.Eng
open Classical
theorem zoq {t u : Thing} {w : Int} (ht : ThingOk t w) (hu : ThingOk u w) (h : formM t = formM u) : t = u := by
  have h1 := zhg ht
  rw [h, zhg hu] at h1
  cases h1; rfl
theorem zrt {s : State} (V : VS s) {e : Entry} (hk : e.kind = 1) (he : zh e s.width = true) (h : (chg s e).code = 0) : ∃ k ∈ (chg s e).st.things, k.sum = (chg s e).sum ∧ k.thing = e.thing := by
  have hc : chg s e = putS s e := by unfold chg; rw [if_pos hk]
  have ht := EntryOk.thing he hk
  rw [hc] at h ⊢
  rw [zj6 h]
  unfold putS at h ⊢
  split at h
  · cases h
  · rename_i a1
    rw [if_neg a1]
    split at h
    · rename_i a2
      rw [if_pos a2]
      split at h
      · rename_i a3
        rw [if_pos a3]
        split at h
        · rename_i a4
          rw [if_pos a4]
          have hi := (zbs V.srtT _).1 a2
          have hm := zi (d := K0) hi.1
          exact ⟨_, hm, hi.2, zoq (V.okT _ hm).1 ht a3⟩
        · cases h
      · cases h
    · rename_i a2
      rw [if_neg a2]
      split at h
      · rename_i a3
        rw [if_pos a3]
        exact ⟨_, zdd.2 (.inl rfl), rfl, rfl⟩
      · cases h
end KV
end
section

end
section
namespace KV
open Go Go.Eng
open Classical
theorem bl_lt : ∀ (x y : List UInt8), Op.bytesLess x y = true → x < y
  | [], [] => by simp [Op.bytesLess]
  | _ :: _, [] => by simp [Op.bytesLess]
  | [], _ :: _ => by simp [Op.bytesLess]
  | a :: x, b :: y => by
    intro h
    rw [Op.bytesLess] at h
    rw [List.cons_lt_cons_iff]
    simp only [Bool.or_eq_true, Bool.and_eq_true, decide_eq_true_eq, beq_iff_eq] at h
    rcases h with h | ⟨h, h2⟩
    · exact .inl h
    · exact .inr ⟨h, bl_lt x y h2⟩
theorem zmt (l : List Bs) : strs (encS l) = l.map (·.data.toList) := by
  induction l with
  | nil => rfl
  | cons x l ih =>
    show _ :: strs (encS l) = _
    rw [ih]; rfl
theorem zp7 {l : List Bs} (h : Asc l) : sortRw (encS l) = encS l := by
  unfold sortRw
  rw [zmt, zm9]
  · rw [List.map_map]; rfl
  · rw [List.pairwise_map]
    exact h.imp fun {a b} hab => by
      have hlt := bl_lt _ _ hab
      rw [Lib.toList_data, Lib.toList_data] at hlt
      exact List.le_of_lt hlt
theorem zrm {l : List Bs} (h : Asc l) (hl : l.length ≤ 1000000) : Lqdd none [.l (encS l)] = some [.l (encS l)] := by
  rw [eqdd_i, zp7 h, mostE, zbk, decide_eq_true (by omega)]; rfl
def encI (l : List Int) : Rw := l.map fun n => [.i n]
theorem ze5 (l : List Int) : (encI l).length = l.length := by simp [encI]
theorem zng (l : List Int) (n : Int) : encI (l ++ [n]) = encI l ++ [[.i n]] := by simp [encI]
noncomputable def zbt (s : State) (x : Bs) : List Bs := (s.pins.filter fun p => decide (Rch s.things [p.sum] x)).map (·.name)
noncomputable def numsM (s : State) (x : Bs) : List Int := (s.leases.filter fun l => decide (Rch s.things [l.sum] x)).map (·.number)
theorem zsc {s : State} (V : VS s) (x : Bs) : Asc (zbt s x) := by
  unfold zbt Asc
  rw [List.pairwise_map]
  exact V.srtP.sublist List.filter_sublist
theorem zgw (s : State) (x : Bs) : (zbt s x).length ≤ s.pins.length := by
  unfold zbt; rw [List.length_map]; exact List.length_filter_le _ _
theorem zlh (s : State) (x : Bs) : (numsM s x).length ≤ s.leases.length := by
  unfold numsM; rw [List.length_map]; exact List.length_filter_le _ _
theorem zop {s : State} (V : VS s) (x : Bs) : Lqy (some 15) [.s x, .l (encL s.leases), .i (s.leases.length : Int), .i 0, .i s.width, .i s.now, .i s.given, .i s.births, .l (encK s.things), .l (encP s.pins), .l (encL s.leases), .l (encS (zbt s x)), .l (encI [])] = some [.l (encS (zbt s x)), .l (encI (numsM s x))] := by
  have n2 := V.nP; have n3 := V.nL
  have hnl := zgw s x
  exact zbc (f := fun (i : Nat) (a : List Int) => Lqy (some 15) [.s x, .l (encL s.leases), .i (s.leases.length : Int), .i (i : Int), .i s.width, .i s.now, .i s.given, .i s.births, .l (encK s.things), .l (encP s.pins), .l (encL s.leases), .l (encS (zbt s x)), .l (encI a)]) (n := s.leases.length)
    (I := fun i a => a = ((s.leases.take i).filter fun l => decide (Rch s.things [l.sum] x)).map (·.number)) (fun i a hi hI => ⟨a ++ (if decide (Rch s.things [(nth L0 s.leases i).sum] x) = true then [(nth L0 s.leases i).number] else []), by
      show Lqy _ _ = Lqy _ _
      have hl : a.length ≤ i := by
        rw [hI, List.length_map]
        have := List.length_filter_le (fun l : Lease => decide (Rch s.things [l.sum] x)) (s.leases.take i)
        rw [List.length_take] at this; omega
      obtain ⟨ks, e, _, hm⟩ := zlq V [(nth L0 s.leases i).sum] (fun y hy => by
        rw [List.mem_singleton] at hy; rw [hy]; exact (V.okL _ (zi hi)).2.2.1) (by simp)
      have e' : Lqbh none [.l [[.s (nth L0 s.leases i).sum]], .i s.width, .i s.now, .i s.given, .i s.births, .l (encK s.things), .l (encP s.pins), .l (encL s.leases)] = some [.m (setM ks)] := e
      rw [eqy_15, mostE]
      by_cases hx : Rch s.things [(nth L0 s.leases i).sum] x
      · rw [decide_eq_true hx, if_pos rfl, zng]
        simp (disch := omega) only [push_cast, e', inM, decide_eq_true ((hm x).2 hx), ze5] <;> rfl
      · rw [decide_eq_false hx, if_neg (by simp), List.append_nil]
        simp (disch := omega) only [push_cast, e', inM, decide_eq_false (fun h => hx ((hm x).1 h))] <;> rfl, by
      show a ++ _ = _
      rw [zba L0 hi, List.filter_append, List.map_append, ← hI]
      congr 1
      rw [List.filter_cons, List.filter_nil]
      split <;> rfl⟩) (fun a hI => by
      show Lqy _ _ = _
      have hs := zrm (zsc V x) (by omega)
      rw [eqy_15]
      rw [List.take_length] at hI
      simp (disch := omega) only [push_cast, hs]
      rw [hI]; rfl) 0 [] (Nat.zero_le _) rfl
theorem zn3 {s : State} (V : VS s) (x : Bs) : Lqy (some 9) [.s x, .l (encP s.pins), .i (s.pins.length : Int), .i 0, .i s.width, .i s.now, .i s.given, .i s.births, .l (encK s.things), .l (encP s.pins), .l (encL s.leases), .l (encS []), .l (encI [])] = some [.l (encS (zbt s x)), .l (encI (numsM s x))] := by
  have n2 := V.nP; have n3 := V.nL
  exact zbc (f := fun (i : Nat) (a : List Bs) => Lqy (some 9) [.s x, .l (encP s.pins), .i (s.pins.length : Int), .i (i : Int), .i s.width, .i s.now, .i s.given, .i s.births, .l (encK s.things), .l (encP s.pins), .l (encL s.leases), .l (encS a), .l (encI [])]) (n := s.pins.length)
    (I := fun i a => a = ((s.pins.take i).filter fun p => decide (Rch s.things [p.sum] x)).map (·.name)) (fun i a hi hI => ⟨a ++ (if decide (Rch s.things [(nth P0 s.pins i).sum] x) = true then [(nth P0 s.pins i).name] else []), by
      show Lqy _ _ = Lqy _ _
      have hl : a.length ≤ i := by
        rw [hI, List.length_map]
        have := List.length_filter_le (fun l : Pin => decide (Rch s.things [l.sum] x)) (s.pins.take i)
        rw [List.length_take] at this; omega
      obtain ⟨ks, e, _, hm⟩ := zlq V [(nth P0 s.pins i).sum] (fun y hy => by
        rw [List.mem_singleton] at hy; rw [hy]; exact (V.okP _ (zi hi)).2) (by simp)
      have e' : Lqbh none [.l [[.s (nth P0 s.pins i).sum]], .i s.width, .i s.now, .i s.given, .i s.births, .l (encK s.things), .l (encP s.pins), .l (encL s.leases)] = some [.m (setM ks)] := e
      rw [eqy_9, mostE]
      by_cases hx : Rch s.things [(nth P0 s.pins i).sum] x
      · rw [decide_eq_true hx, if_pos rfl, ← zu]
        simp (disch := omega) only [push_cast, e', inM, decide_eq_true ((hm x).2 hx)] <;> rfl
      · rw [decide_eq_false hx, if_neg (by simp), List.append_nil]
        simp (disch := omega) only [push_cast, e', inM, decide_eq_false (fun h => hx ((hm x).1 h))] <;> rfl, by
      show a ++ _ = _
      rw [zba P0 hi, List.filter_append, List.map_append, ← hI]
      congr 1
      rw [List.filter_cons, List.filter_nil]
      split <;> rfl⟩) (fun a hI => by
      show Lqy _ _ = _
      rw [eqy_9]
      rw [List.take_length] at hI
      obtain rfl : a = zbt s x := hI
      have := zop V x
      simp (disch := omega) only [push_cast]
      exact this) 0 [] (Nat.zero_le _) rfl
theorem zgs {s : State} (V : VS s) {x : Bs} (hx : hasT s.things x) : Lqy none [.i s.width, .i s.now, .i s.given, .i s.births, .l (encK s.things), .l (encP s.pins), .l (encL s.leases), .s x] = some [.l (encS (zbt s x)), .l (encI (numsM s x))] := by
  have n1 := V.nT
  have hv := zga s V.names
  unfold encSt at hv
  rw [decide_eq_true V] at hv
  have ht := zbo s.width s.now s.given s.births s.things (encP s.pins) (encL s.leases) x V.srtT (by omega)
  have := zn3 V x
  rw [eqy_i]
  simp (disch := omega) only [push_cast, hv, ht, decide_eq_true hx]
  exact this
end KV
end
section
namespace KV
open Go Go.Eng
open Classical
def Zs : State := ⟨0, 0, 0, 0, [], [], []⟩
noncomputable def zp (s : State) (e : Entry) : Out := if VS s ∧ zh e s.width = true then chg s e else fail Zs 1
def stA (o : Out) : State := if o.code = 0 then o.st else Zs
theorem znc {s : State} (hN : ∀ p ∈ s.pins, p.name.size ≤ 4611686018427387904) (e : Entry) (hn : e.name.size ≤ 4611686018427387904) :
    Lqc3 none [.i s.width, .i s.now, .i s.given, .i s.births, .l (encK s.things), .l (encP s.pins), .l (encL s.leases), .i e.kind, .s e.sum, .s e.name, .i e.number, .s e.thing.text, .l (encS e.thing.refs)] = some [.i (zp s e).code, .i (stA (zp s e)).width, .i (stA (zp s e)).now, .i (stA (zp s e)).given, .i (stA (zp s e)).births, .l (encK (stA (zp s e)).things), .l (encP (stA (zp s e)).pins), .l (encL (stA (zp s e)).leases), .s (zp s e).sum, .i (zp s e).lease, .s (zp s e).a, .s (zp s e).b] := by
  have hv := zga s hN
  have he := zpd e s.width hn
  have he' : Lqh none [.i e.kind, .s e.sum, .s e.name, .i e.number, .s e.thing.text, .l (encS e.thing.refs), .i s.width] = _ := he
  unfold encSt at hv
  rw [eqc3_i]
  unfold zp
  by_cases V : VS s
  rotate_left
  · rw [decide_eq_false V] at hv
    rw [if_neg fun h => V h.1]
    simp (disch := omega) only [push_cast, hv]; rfl
  rw [decide_eq_true V] at hv
  by_cases c : zh e s.width = true
  rotate_left
  · rw [if_neg fun h => c h.2]
    rw [Bool.not_eq_true] at c
    rw [c] at he'
    simp (disch := omega) only [push_cast, hv, he']; rfl
  rw [if_pos ⟨V, c⟩]
  rw [c] at he'
  have n1 := V.nT; have n2 := V.nP; have n3 := V.nL
  have hcs := zql s.width s.now s.given s.births s.things (encP s.pins) (encL s.leases) (by omega) (fun k hk => by have := (V.okT k hk).1.refs; omega) (by rw [zbw]; omega) (by rw [zb8]; omega)
  have hch : Lqa none [.i e.kind, .s e.sum, .s e.name, .i e.number, .s e.thing.text, .l (encS e.thing.refs), .i s.width, .i s.now, .i s.given, .i s.births, .l (encK s.things), .l (encP s.pins), .l (encL s.leases)] = some (z6 (chg s e)) := zqr V c
  unfold z6 encSt at hch
  simp only [List.cons_append, List.nil_append] at hch
  by_cases h0 : (chg s e).code = 0
  · have : stA (chg s e) = (chg s e).st := if_pos h0
    rw [this]
    simp (disch := omega) only [push_cast, hv, he', hcs, hch]
  · have : stA (chg s e) = Zs := if_neg h0
    rw [this]
    simp (disch := omega) only [push_cast, hv, he', hcs, hch]; rfl
theorem zok {s : State} (hN : ∀ p ∈ s.pins, p.name.size ≤ 4611686018427387904) (e : Entry) (hn : e.name.size ≤ 4611686018427387904) :
    Lqc9 none [.i s.width, .i s.now, .i s.given, .i s.births, .l (encK s.things), .l (encP s.pins), .l (encL s.leases), .i e.kind, .s e.sum, .s e.name, .i e.number, .s e.thing.text, .l (encS e.thing.refs)] = some [.i (zp s e).code, .i (stA (zp s e)).width, .i (stA (zp s e)).now, .i (stA (zp s e)).given, .i (stA (zp s e)).births, .s (zp s e).sum, .i (zp s e).lease, .s (zp s e).a, .s (zp s e).b, .l (encK (stA (zp s e)).things), .l (encP (stA (zp s e)).pins), .l (encL (stA (zp s e)).leases)] := by
  have hv := zms s hN
  have he := zey e s.width hn
  have he' : Lqn none [.i e.kind, .s e.sum, .s e.name, .i e.number, .s e.thing.text, .l (encS e.thing.refs), .i s.width] = _ := he
  unfold encSt at hv
  rw [eqc9_i]
  unfold zp
  by_cases V : VS s
  rotate_left
  · rw [decide_eq_false V] at hv
    rw [if_neg fun h => V h.1]
    simp (disch := omega) only [push_cast, hv]; rfl
  rw [decide_eq_true V] at hv
  by_cases c : zh e s.width = true
  rotate_left
  · rw [if_neg fun h => c h.2]
    rw [Bool.not_eq_true] at c
    rw [c] at he'
    simp (disch := omega) only [push_cast, hv, he']; rfl
  rw [if_pos ⟨V, c⟩]
  rw [c] at he'
  have n1 := V.nT; have n2 := V.nP; have n3 := V.nL
  have hcs := zce s.width s.now s.given s.births s.things (encP s.pins) (encL s.leases) (by omega) (fun k hk => by have := (V.okT k hk).1.refs; omega) (by rw [zbw]; omega) (by rw [zb8]; omega)
  have hch := zgl V c
  unfold zb3 at hch
  by_cases h0 : (chg s e).code = 0
  · have hst : stA (chg s e) = (chg s e).st := if_pos h0
    have V' := zcm V c h0
    have m1 := V'.nT; have m2 := V'.nP; have m3 := V'.nL
    have hcs2 := zce (chg s e).st.width (chg s e).st.now (chg s e).st.given (chg s e).st.births (chg s e).st.things (encP (chg s e).st.pins) (encL (chg s e).st.leases) (by omega) (fun k hk => by have := (V'.okT k hk).1.refs; omega) (by rw [zbw]; omega) (by rw [zb8]; omega)
    rw [zlo h0] at hch
    rw [hst]
    simp (disch := omega) only [push_cast, hv, he', hcs, hch, hcs2, h0]
  · have hst : stA (chg s e) = Zs := if_neg h0
    have hcs2 := zce 0 0 0 0 [] [] [] (Nat.zero_le _) (fun k hk => nomatch hk) (Nat.zero_le _) (Nat.zero_le _)
    have c1 : (encK ([] : List Kept)) = [] := rfl
    rw [c1] at hcs2
    rw [zi5 h0] at hch
    rw [hst]
    simp (disch := omega) only [push_cast, hv, he', hcs, hch, hcs2]; rfl
def SmE (e : Entry) : Prop := e.name.size ≤ 100
theorem zps (a : Act) (s : State) (ha : ActOk a) (hB : BS s) : ∃ x : Bs, Lqb2 none [.i a.kind, .s a.text, .i a.refs, .s a.name, .i a.pick, .i a.ticks, .i s.width, .i s.now, .i s.given, .i s.births, .l (encK s.things), .l (encP s.pins), .l (encL s.leases)] = some [.s x] ∧ x.size ≤ 1000 := by
  rw [eqb2_i]
  have hp := ha.pick
  have hn := hB.nT
  by_cases h : s.things.length = 0
  · refine ⟨sumM ⟨#[110, 111, 110, 101]⟩ s.width, ?_, ?_⟩
    · simp (disch := omega) only [push_cast, zb4 (⟨#[110, 111, 110, 101]⟩ : ByteArray) s.width (by show (4 : Nat) ≤ 1099511627776; omega)]
    · cases hw : zj s.width with
      | true =>
        have := zfb (s := ⟨#[110, 111, 110, 101]⟩) hw
        have := hB.ints; omega
      | false => unfold sumM; rw [hw]; exact Nat.zero_le _
  · have ht := zcr (a := a.pick) (n := (s.things.length : Int)) (by omega) (by omega)
    obtain ⟨j, hj⟩ : ∃ j : Nat, a.pick.tmod (s.things.length : Int) = j := ⟨(a.pick.tmod (s.things.length : Int)).toNat, by omega⟩
    have hz := (hB.t _ (zi (d := K0) (show j < s.things.length by omega))).2.2.2
    exact ⟨(nth K0 s.things j).sum, by simp (disch := omega) only [push_cast, hj], by omega⟩
theorem zmz {b : Rw} (hb : RB b) (e : Entry) (h : SmE e) (ht : e.thing.refs.length ≤ 1000 ∧ e.thing.text.size ≤ 1000) (hs : e.sum.size ≤ 1000) (p : Int) (hp : 0 ≤ p ∧ p ≤ 999990000) :
    ∃ (e' : Entry) (p' : Int), Lqc8 none [.i e.kind, .s e.sum, .s e.name, .i e.number, .s e.thing.text, .l (encS e.thing.refs), .l b, .i p] = some [.i e'.kind, .s e'.sum, .s e'.name, .i e'.number, .s e'.thing.text, .l (encS e'.thing.refs), .l b, .i p'] ∧ SmE e' := by
  obtain ⟨x, hx, hx0, hx1⟩ := zm hb 6 (by omega) p (by omega)
  rw [eqc8_i, mostE]
  by_cases c0 : x = 0
  · obtain ⟨y, hy, hy0, hy1⟩ := zm hb 10 (by omega) (p + 1) (by omega)
    exact ⟨{ e with kind := y - 1 }, _, by simp (disch := omega) only [push_cast, hx, hy]; rfl, h⟩
  by_cases c1 : x = 1
  · obtain ⟨y, hy, hy0, hy1⟩ := zm hb 6 (by omega) (p + 1) (by omega)
    have hin : inb y (([[.i 0], [.i (-1)], [.i 100001], [.i 1000000000], [.i 1000000001], [.i 4294967297]] : Rw).length) = true := by
      unfold inb; rw [decide_eq_true hy0, decide_eq_true (by show y < 6; omega)]; rfl
    exact ⟨{ e with number := (rd ([[.i 0], [.i (-1)], [.i 100001], [.i 1000000000], [.i 1000000001], [.i 4294967297]] : Rw) y.toNat 0).int }, _, by simp (disch := omega) only [push_cast, hx, hy, hin]; rfl, h⟩
  by_cases c2 : x = 2
  · obtain ⟨y, hy, hy0, hy1⟩ := zm hb 3 (by omega) (p + 1) (by omega)
    obtain ⟨r, hr, hr2⟩ := zk3 ⟨#[110]⟩ 41 (by omega) rfl
    obtain ⟨T, hT⟩ : ∃ T : Rw, ([[.s (⟨#[]⟩ : ByteArray)], [.s (⟨#[97, 32, 98]⟩ : ByteArray)], [.s r]] : Rw) = T := ⟨_, rfl⟩
    have hin : inb y T.length = true := by
      rw [← hT]
      unfold inb; rw [decide_eq_true hy0, decide_eq_true (by show y < 3; omega)]; rfl
    refine ⟨{ e with name := (rd T y.toNat 0).str }, p + 1 + 1, by simp (disch := omega) only [push_cast, hx, hr, hy, hT, hin], ?_⟩
    show (rd T y.toNat 0).str.size ≤ 100
    rw [← hT]
    match y.toNat with
    | 0 => exact Nat.zero_le _
    | 1 => show 3 ≤ 100; omega
    | 2 => show r.size ≤ 100; omega
    | n + 3 => exact Nat.zero_le _
  by_cases c3 : x = 3
  · have : (⟨#[120]⟩ : Bs).size = 1 := rfl
    exact ⟨{ e with sum := e.sum ++ ⟨#[120]⟩ }, _, by simp (disch := omega) only [push_cast, hx, this]; rfl, h⟩
  by_cases c4 : x = 4
  · obtain ⟨t', p', ht', _, _, _⟩ := zin hb e.thing (by omega) (p + 1) (by omega)
    exact ⟨{ e with thing := t' }, _, by simp (disch := omega) only [push_cast, hx, ht']; rfl, h⟩
  · exact ⟨{ e with thing := ⟨⟨#[116]⟩, e.thing.refs⟩ }, _, by simp (disch := omega) only [push_cast, hx]; rfl, h⟩
theorem zjn {b : Rw} (hb : RB b) (s : State) (e : Entry) (h : SmE e) (ht : e.thing.refs.length ≤ 1000 ∧ e.thing.text.size ≤ 1000) (hs : e.sum.size ≤ 1000) (p : Int) (hp : 0 ≤ p ∧ p ≤ 999980000) (i0 i1 i2 i3 i4 i7 : Int) (s5 s6 s8 : Bs) (l23 l24 l25 l26 : Rw) :
    ∃ e' : Entry, Lqt (some 18) [.i i0, .i i1, .i i2, .i i3, .i i4, .s s5, .s s6, .i i7, .s s8, .l b, .i p, .i s.width, .i s.now, .i s.given, .i s.births, .l (encK s.things), .l (encP s.pins), .l (encL s.leases), .i e.kind, .s e.sum, .s e.name, .i e.number, .s e.thing.text, .l l23, .l l24, .l l25, .l l26, .l (encS e.thing.refs)] = some [.i s.width, .i s.now, .i s.given, .i s.births, .l (encK s.things), .l (encP s.pins), .l (encL s.leases), .i e'.kind, .s e'.sum, .s e'.name, .i e'.number, .s e'.thing.text, .l (encS e'.thing.refs)] ∧ SmE e' := by
  obtain ⟨x, hx, hx0, hx1⟩ := zm hb 8 (by omega) p (by omega)
  rw [eqt_18]
  by_cases c0 : x = 0
  · obtain ⟨e', p', he, hS⟩ := zmz hb e h ht hs (p + 1) (by omega)
    exact ⟨e', by simp (disch := omega) only [push_cast, hx, he], hS⟩
  · exact ⟨e, by simp (disch := omega) only [push_cast, hx], h⟩
theorem zhm {b : Rw} (hb : RB b) (s : State) (hn : s.things.length ≤ 1000000) (a : Act) (ha : ActOk a) (e : Entry) (h : SmE e) (ht : e.thing = ⟨E0, []⟩) (hs : e.sum.size ≤ 1000) (f : Bool) (p : Int) (hp : 0 ≤ p ∧ p ≤ 999970000) (i0 i1 i2 i3 i4 i7 : Int) (s5 s6 s8 : Bs) (l23 l24 l25 l26 : Rw) :
    ∃ e' : Entry, Lqt (some 14) [.b f, .i i0, .i i1, .i i2, .i i3, .i i4, .s s5, .s s6, .i i7, .s s8, .l b, .i p, .i s.width, .i s.now, .i s.given, .i s.births, .l (encK s.things), .l (encP s.pins), .l (encL s.leases), .i a.kind, .s a.text, .i a.refs, .s a.name, .i a.pick, .i a.ticks, .i e.kind, .s e.sum, .s e.name, .i e.number, .s E0, .l l23, .l l24, .l l25, .l l26, .l []] = some [.i s.width, .i s.now, .i s.given, .i s.births, .l (encK s.things), .l (encP s.pins), .l (encL s.leases), .i e'.kind, .s e'.sum, .s e'.name, .i e'.number, .s e'.thing.text, .l (encS e'.thing.refs)] ∧ SmE e' := by
  cases f with
  | false =>
    obtain ⟨e', he, hS⟩ := zjn hb s e h (by rw [ht]; exact ⟨Nat.zero_le _, Nat.zero_le _⟩) hs p (by omega) i0 i1 i2 i3 i4 i7 s5 s6 s8 l23 l24 l25 l26
    rw [ht] at he
    refine ⟨e', ?_, hS⟩
    rw [eqt_14]
    simp (disch := omega) only [push_cast]
    exact he
  | true =>
    obtain ⟨l, hl, l1, l2, l3⟩ := zis a s ha hn
    unfold encA encSt at hl
    simp only [List.cons_append, List.nil_append] at hl
    obtain ⟨x, hx, hx0, hx1⟩ := zm hb 5 (by omega) p (by omega)
    have hat := ha.text
    have go : ∀ l' : List Bs, l'.length ≤ 1000 → ∃ e' : Entry, Lqt (some 18) [.i i0, .i i1, .i i2, .i i3, .i i4, .s s5, .s s6, .i i7, .s s8, .l b, .i (p + 1), .i s.width, .i s.now, .i s.given, .i s.births, .l (encK s.things), .l (encP s.pins), .l (encL s.leases), .i e.kind, .s e.sum, .s e.name, .i e.number, .s a.text, .l l23, .l l24, .l l25, .l l26, .l (encS l')] = some [.i s.width, .i s.now, .i s.given, .i s.births, .l (encK s.things), .l (encP s.pins), .l (encL s.leases), .i e'.kind, .s e'.sum, .s e'.name, .i e'.number, .s e'.thing.text, .l (encS e'.thing.refs)] ∧ SmE e' := fun l' hl' =>
      zjn hb s { e with thing := ⟨a.text, l'⟩ } h ⟨hl', by show a.text.size ≤ 1000; omega⟩ hs (p + 1) (by omega) i0 i1 i2 i3 i4 i7 s5 s6 s8 l23 l24 l25 l26
    rw [eqt_14, mostE]
    by_cases c0 : x = 0
    · have hw := zt s.width
      cases hwb : zj s.width with
      | true =>
        rw [hwb] at hw
        have h4 : (⟨#[110, 111, 110, 101]⟩ : Bs).size = 4 := rfl
        obtain ⟨e', he, hS⟩ := go [sumM (⟨#[110, 111, 110, 101]⟩ ++ a.text) s.width] (by show 1 ≤ 1000; omega)
        refine ⟨e', ?_, hS⟩
        have hsm := zb4 (⟨#[110, 111, 110, 101]⟩ ++ a.text) s.width (by rw [zy, h4]; omega)
        simp (disch := omega) only [push_cast, hl, hx, hw, h4, hsm]
        exact he
      | false =>
        rw [hwb] at hw
        obtain ⟨e', he, hS⟩ := go l (by omega)
        refine ⟨e', ?_, hS⟩
        simp (disch := omega) only [push_cast, hl, hx, hw]
        exact he
    · obtain ⟨e', he, hS⟩ := go l (by omega)
      refine ⟨e', ?_, hS⟩
      simp (disch := omega) only [push_cast, hl, hx]
      exact he
theorem zog {b : Rw} (hb : RB b) (s : State) (hn : s.things.length ≤ 1000000 ∧ s.leases.length ≤ 1000000) (a : Act) (ha : ActOk a) (u : Int) (k : Int) (sm nm : Bs) (num : Int) (h : nm.size ≤ 100) (hs : sm.size ≤ 1000) (f : Bool) (p : Int) (hp : 0 ≤ p ∧ p ≤ 999970000) (i0 i1 i2 i3 i4 i7 : Int) (s5 s6 s8 : Bs) (l23 l24 l25 l26 : Rw) :
    ∃ e' : Entry, Lqt (some 12) [.i u, .b f, .i i0, .i i1, .i i2, .i i3, .i i4, .s s5, .s s6, .i i7, .s s8, .l b, .i p, .i s.width, .i s.now, .i s.given, .i s.births, .l (encK s.things), .l (encP s.pins), .l (encL s.leases), .i a.kind, .s a.text, .i a.refs, .s a.name, .i a.pick, .i a.ticks, .i k, .s sm, .s nm, .i num, .s E0, .l l23, .l l24, .l l25, .l l26, .l []] = some [.i s.width, .i s.now, .i s.given, .i s.births, .l (encK s.things), .l (encP s.pins), .l (encL s.leases), .i e'.kind, .s e'.sum, .s e'.name, .i e'.number, .s e'.thing.text, .l (encS e'.thing.refs)] ∧ SmE e' := by
  rw [eqt_12]
  by_cases c : u = 2
  · obtain ⟨x, hx⟩ := zkz a s ha hn.2
    unfold encA encSt at hx
    simp only [List.cons_append, List.nil_append] at hx
    obtain ⟨e', he, hS⟩ := zhm hb s hn.1 a ha ⟨k, sm, nm, x, ⟨E0, []⟩⟩ h rfl hs f p hp i0 i1 i2 i3 i4 i7 s5 s6 s8 l23 l24 l25 l26
    refine ⟨e', ?_, hS⟩
    simp (disch := omega) only [push_cast, hx]
    exact he
  · obtain ⟨e', he, hS⟩ := zhm hb s hn.1 a ha ⟨k, sm, nm, num, ⟨E0, []⟩⟩ h rfl hs f p hp i0 i1 i2 i3 i4 i7 s5 s6 s8 l23 l24 l25 l26
    refine ⟨e', ?_, hS⟩
    simp (disch := omega) only [push_cast]
    exact he
theorem zmy {c : Rw} (hc : ∀ i, 0 ≤ (rd c i 0).int ∧ (rd c i 0).int ≤ 255) : ∃ (s : State) (e : Entry), Lqt none [.l c] = some [.i s.width, .i s.now, .i s.given, .i s.births, .l (encK s.things), .l (encP s.pins), .l (encL s.leases), .i e.kind, .s e.sum, .s e.name, .i e.number, .s e.thing.text, .l (encS e.thing.refs)] ∧ BS s ∧ SmE e := by
  obtain ⟨b, hop, hb⟩ := zsq hc
  obtain ⟨s, p1, e1, h1, h2, hB⟩ := zpt hb 0 (by omega)
  obtain ⟨a, p2, e2, h3, h4, ha⟩ := zij hb p1 (by omega)
  obtain ⟨k, e3, k0, k1⟩ := zm hb 7 (by omega) p2 (by omega)
  have hu := zhq (1 + k) (by omega)
  obtain ⟨x, e4, hx⟩ := zps a s ha hB
  have n1 := hB.nT; have n3 := hB.nL
  have hnm := ha.name
  unfold anO at e1
  unfold encA at e2
  simp only [List.cons_append, List.nil_append] at e2
  have go := fun (u : Int) (sm nm : Bs) (num : Int) (f : Bool) (h1 : nm.size ≤ 100) (h2 : sm.size ≤ 1000) => zog hb s ⟨by omega, by omega⟩ a ha u (1 + k) sm nm num h1 h2 f (p2 + 1) (by omega) 0 0 0 0 0 0 E0 E0 E0 [] [] [] []
  rw [eqt_i]
  obtain ⟨U, hU⟩ : ∃ U, nU (1 + k) = U := ⟨_, rfl⟩
  obtain ⟨F, hF⟩ : ∃ F, decide (1 + k = 1) = F := ⟨_, rfl⟩
  rw [hU, hF] at hu
  cases hs : uS (1 + k) <;> cases hn : uN (1 + k) <;> rw [hs, hn] at hu
  · by_cases c : U = 1
    · obtain ⟨e, he, hS⟩ := go U E0 E0 a.ticks F (Nat.zero_le _) (Nat.zero_le _)
      exact ⟨s, e, by simp (disch := omega) only [push_cast, hop, e1, e2, e3, hu, e4]; exact he, hB, hS⟩
    · obtain ⟨e, he, hS⟩ := go U E0 E0 0 F (Nat.zero_le _) (Nat.zero_le _)
      exact ⟨s, e, by simp (disch := omega) only [push_cast, hop, e1, e2, e3, hu, e4]; exact he, hB, hS⟩
  · by_cases c : U = 1
    · obtain ⟨e, he, hS⟩ := go U E0 a.name a.ticks F (by omega) (Nat.zero_le _)
      exact ⟨s, e, by simp (disch := omega) only [push_cast, hop, e1, e2, e3, hu, e4]; exact he, hB, hS⟩
    · obtain ⟨e, he, hS⟩ := go U E0 a.name 0 F (by omega) (Nat.zero_le _)
      exact ⟨s, e, by simp (disch := omega) only [push_cast, hop, e1, e2, e3, hu, e4]; exact he, hB, hS⟩
  · by_cases c : U = 1
    · obtain ⟨e, he, hS⟩ := go U x E0 a.ticks F (Nat.zero_le _) hx
      exact ⟨s, e, by simp (disch := omega) only [push_cast, hop, e1, e2, e3, hu, e4]; exact he, hB, hS⟩
    · obtain ⟨e, he, hS⟩ := go U x E0 0 F (Nat.zero_le _) hx
      exact ⟨s, e, by simp (disch := omega) only [push_cast, hop, e1, e2, e3, hu, e4]; exact he, hB, hS⟩
  · by_cases c : U = 1
    · obtain ⟨e, he, hS⟩ := go U x a.name a.ticks F (by omega) hx
      exact ⟨s, e, by simp (disch := omega) only [push_cast, hop, e1, e2, e3, hu, e4]; exact he, hB, hS⟩
    · obtain ⟨e, he, hS⟩ := go U x a.name 0 F (by omega) hx
      exact ⟨s, e, by simp (disch := omega) only [push_cast, hop, e1, e2, e3, hu, e4]; exact he, hB, hS⟩
end KV
end
section
namespace KV
open Go Go.Eng
open Classical
noncomputable def bornL (x : Bs) : List Kept → Int
  | [] => 0
  | k :: r => if k.sum = x then k.born else bornL x r
theorem zg9 {x : Bs} : ∀ {l : List Kept}, hasT l x → ∃ k ∈ l, k.sum = x ∧ bornL x l = k.born
  | [], h => by obtain ⟨k, hk, _⟩ := h; cases hk
  | k :: r, h => by
    unfold bornL
    by_cases c : k.sum = x
    · exact ⟨k, by simp, c, if_pos c⟩
    · rw [if_neg c]
      obtain ⟨j, hj, e⟩ := h
      rcases List.mem_cons.1 hj with h1 | h1
      · rw [h1] at e; exact absurd e c
      · obtain ⟨i, hi, e2, e3⟩ := zg9 ⟨j, h1, e⟩
        exact ⟨i, by simp [hi], e2, e3⟩
theorem zi8 {x : Bs} : ∀ {l : List Kept}, ¬ hasT l x → bornL x l = 0
  | [], h => rfl
  | k :: r, h => by
    unfold bornL
    rw [if_neg fun c => h ⟨k, by simp, c⟩]
    exact zi8 fun ⟨j, hj, e⟩ => h ⟨j, by simp [hj], e⟩
theorem zf4 (s : State) (x : Bs) (hn : s.things.length ≤ 1000000) : Lqb7 none [.i s.width, .i s.now, .i s.given, .i s.births, .l (encK s.things), .l (encP s.pins), .l (encL s.leases), .s x] = some [.i (bornL x s.things)] := by
  have lp : ∀ m i : Nat, s.things.length - i = m → i ≤ s.things.length → Lqb7 (some 2) [.s x, .i (i : Int), .i s.width, .i s.now, .i s.given, .i s.births, .l (encK s.things), .l (encP s.pins), .l (encL s.leases)] = some [.i (bornL x (s.things.drop i))] := by
    intro m
    induction m with
    | zero =>
      intro i hm hi
      obtain rfl : i = s.things.length := by omega
      rw [List.drop_length, eqb7_2]
      simp (disch := omega) only [push_cast]; rfl
    | succ m ih =>
      intro i hm hi
      have hlt : i < s.things.length := by omega
      have hd : s.things.drop i = nth K0 s.things i :: s.things.drop (i + 1) := by
        rw [zk K0 _ _ hlt]; exact List.drop_eq_getElem_cons hlt
      rw [hd, eqb7_2]
      unfold bornL
      by_cases c : (nth K0 s.things i).sum = x
      · rw [if_pos c]; simp (disch := omega) only [push_cast, c]
      · rw [if_neg c, ← ih (i + 1) (by omega) (by omega)]; simp (disch := omega) only [push_cast, c]
  rw [eqb7_i]
  exact lp _ 0 rfl (Nat.zero_le _)
theorem znd (x : Bs) : x ++ E0 = x := by
  apply ByteArray.ext; simp [E0]
theorem znn (x : Bs) : E0 ++ x = x := by
  apply ByteArray.ext; simp [E0]
theorem zq3 {s : State} {x : Bs} {l : List Lease} {n t : Int} (h : s.leases = l ++ [⟨n, x, t⟩]) : ∃ r : List Int, numsM s x = r ++ [n] := by
  refine ⟨((l.filter fun l => decide (Rch s.things [l.sum] x)).map (·.number)), ?_⟩
  unfold numsM
  rw [h, List.filter_append, List.map_append]
  congr 1
  rw [List.filter_cons, List.filter_nil, if_pos (decide_eq_true (.base x (by simp)))]
  rfl
theorem zny (r : List Int) (n : Int) : (rd (encI (r ++ [n])) r.length 0).int = n := by
  have h : (encI (r ++ [n])).getD r.length [] = [.i n] := by
    unfold encI
    rw [List.getD_eq_getElem?_getD, List.getElem?_map, List.getElem?_append_right (Nat.le_refl _), Nat.sub_self]
    rfl
  unfold rd
  rw [h]; rfl
theorem zr7 {s : State} (V : VS s) {x : Bs} (h : hasT s.things x) : (delK x s.things).length + 1 = s.things.length := by
  have h1 := zr4 h
  have h2 := zkv (s.things.map (·.sum)) (x :: (delK x s.things).map (·.sum)) (by
    rw [List.Nodup, List.pairwise_map]
    exact V.srtT.imp fun {a b} hab e => by rw [e, zdg] at hab; cases hab) fun y hy => by
    obtain ⟨k, hk, rfl⟩ := List.mem_map.1 hy
    by_cases c : k.sum = x
    · rw [c]; simp
    · exact List.mem_cons_of_mem _ (List.mem_map.2 ⟨k, zc6.2 ⟨hk, c⟩, rfl⟩)
  rw [List.length_map, List.length_cons, List.length_map] at h2
  omega
theorem zro {s : State} {e : Entry} (V : VS s) (he : zh e s.width = true) (hk : e.kind = 1 ∨ e.kind = 4) (h : (chg s e).code = 0) :
    hasT (chg s e).st.things (e.sum ++ (chg s e).sum) ∧ (e.sum ++ (chg s e).sum).size ≤ 1000000 ∧ e.sum.size + (chg s e).sum.size ≤ 1000000 ∧ ∃ l t, (chg s e).st.leases = l ++ [⟨(chg s e).lease, e.sum ++ (chg s e).sum, t⟩] := by
  have hs := zsn he
  have hw := V.wd
  rcases hk with hk | hk
  · have h0 : e.sum = E0 := by rw [hk] at hs; exact hs
    obtain ⟨k, k1, k2, k3⟩ := zrt V hk he h
    have hc : chg s e = putS s e := if_pos hk
    have hsz : ((chg s e).sum.size : Int) = s.width := by
      rw [hc] at h ⊢
      rw [zj6 h]; exact zd8 V.wd
    rw [h0, znn]
    have z : (E0 : Bs).size = 0 := rfl
    refine ⟨⟨k, k1, k2⟩, by omega, by omega, ?_⟩
    rw [hc] at h ⊢
    unfold putS at h ⊢
    split at h
    · cases h
    · rename_i a1
      rw [if_neg a1]
      split at h
      · rename_i a2
        rw [if_pos a2]
        split at h
        · rename_i a3
          rw [if_pos a3]
          split at h
          · rename_i a4
            rw [if_pos a4]
            exact ⟨_, _, rfl⟩
          · cases h
        · cases h
      · rename_i a2
        rw [if_neg a2]
        split at h
        · rename_i a3
          rw [if_pos a3]
          exact ⟨_, _, rfl⟩
        · cases h
  · have hz : (e.sum.size : Int) = s.width := by rw [hk] at hs; exact hs
    have n1 : ¬ e.kind = 1 := by omega
    have n2 : ¬ e.kind = 2 := by omega
    have n3 : ¬ e.kind = 3 := by omega
    unfold chg at h ⊢
    rw [if_neg n1, if_neg n2, if_neg n3, if_pos hk] at h ⊢
    split at h
    · rename_i a1
      rw [if_pos a1]
      split at h
      · rename_i a2
        rw [if_pos a2]
        have z : (E0 : Bs).size = 0 := rfl
        show hasT s.things (e.sum ++ E0) ∧ (e.sum ++ E0).size ≤ 1000000 ∧ e.sum.size + E0.size ≤ 1000000 ∧ ∃ l t, s.leases ++ [⟨s.given + 1, e.sum, s.now + e.number⟩] = l ++ [⟨s.given + 1, e.sum ++ E0, t⟩]
        rw [znd]
        exact ⟨a1, by omega, by omega, _, _, rfl⟩
      · cases h
    · cases h
theorem zlu {s : State} {e : Entry} (V : VS s) (he : zh e s.width = true) (hk : e.kind = 1 ∨ e.kind = 4) (h : (chg s e).code = 0) (c : Int) :
    Lqca (some 20) [.i e.kind, .s e.sum, .s e.name, .i e.number, .s e.thing.text, .l (encS e.thing.refs), .i c, .i (chg s e).st.width, .i (chg s e).st.now, .i (chg s e).st.given, .i (chg s e).st.births, .l (encK (chg s e).st.things), .l (encP (chg s e).st.pins), .l (encL (chg s e).st.leases), .s (chg s e).sum, .i (chg s e).lease, .s (chg s e).a, .s (chg s e).b] = some [.b true] := by
  obtain ⟨h1, h2, h3, l, t, h4⟩ := zro V he hk h
  have V' := zcm V he h
  obtain ⟨o, ho⟩ : ∃ o, chg s e = o := ⟨_, rfl⟩
  rw [ho] at h1 h2 h3 h4 V' ⊢
  obtain ⟨r, hr⟩ := zq3 h4
  have hH := zgs V' h1
  have hB := zf4 o.st (e.sum ++ o.sum) (by have := V'.nT; omega)
  obtain ⟨k, k1, k2, k3⟩ := zg9 h1
  have hb := (V'.okT k k1).2.2.1
  rw [k3] at hB
  rw [hr] at hH
  have hl : (encI (r ++ [o.lease])).length = r.length + 1 := by rw [ze5]; simp
  have hrl : r.length ≤ 200 := by
    have := zlh o.st (e.sum ++ o.sum)
    rw [hr] at this
    simp at this
    have := V'.nL
    omega
  have hlast := zny r o.lease
  have ht : ((r.length : Int) + 1 - 1).toNat = r.length := by omega
  rw [eqca_20, mostE]
  simp (disch := omega) only [push_cast, hH, hB, hl, hlast, ht]
theorem zr5 {s : State} {e : Entry} (V : VS s) (he : zh e s.width = true) (h : (chg s e).code = 0) (c : Int) :
    Lqca (some 23) [.i e.kind, .i s.width, .i s.now, .i s.given, .i s.births, .l (encK s.things), .l (encP s.pins), .l (encL s.leases), .i e.kind, .s e.sum, .s e.name, .i e.number, .s e.thing.text, .l (encS e.thing.refs), .i c, .i (chg s e).st.width, .i (chg s e).st.now, .i (chg s e).st.given, .i (chg s e).st.births, .l (encK (chg s e).st.things), .l (encP (chg s e).st.pins), .l (encL (chg s e).st.leases), .s (chg s e).sum, .i (chg s e).lease, .s (chg s e).a, .s (chg s e).b] = some [.b true] := by
  have V' := zcm V he h
  have m1 := V'.nT; have m2 := V'.nP
  rw [eqca_23]
  by_cases k2 : e.kind = 2
  · have hp : hasT (chg s e).st.things e.sum ∧ ⟨e.name, e.sum⟩ ∈ (chg s e).st.pins := by
      have n1 : ¬ e.kind = 1 := by omega
      unfold chg at h ⊢
      rw [if_neg n1, if_pos k2] at h ⊢
      split at h
      · rename_i a1
        rw [if_pos a1]
        split at h
        · rename_i a2
          rw [if_pos a2]
          refine ⟨a1, ?_⟩
          show (⟨e.name, e.sum⟩ : Pin) ∈ putP e.name e.sum s.pins
          unfold putP
          split
          · rename_i a3
            have := ((zcz V.srtP e.name).1 a3).1
            exact List.mem_set this _
          · simp
        · cases h
      · cases h
    have hH := zgs V' hp.1
    have hm : e.name ∈ zbt (chg s e).st e.sum := List.mem_map.2 ⟨_, List.mem_filter.2 ⟨hp.2, decide_eq_true (.base _ (by simp))⟩, rfl⟩
    have hl := zgw (chg s e).st e.sum
    have hw := zra (zbt (chg s e).st e.sum) e.name (by omega)
    rw [decide_eq_true hm] at hw
    simp (disch := omega) only [push_cast, k2, hH, hw]
  by_cases k7 : e.kind = 7
  · have hp : hasT s.things e.sum ∧ (chg s e).st.things = delK e.sum s.things := by
      have n1 : ¬ e.kind = 1 := by omega
      have n3 : ¬ e.kind = 3 := by omega
      have n4 : ¬ e.kind = 4 := by omega
      have n5 : ¬ e.kind = 5 := by omega
      have n6 : ¬ e.kind = 6 := by omega
      unfold chg at h ⊢
      rw [if_neg n1, if_neg k2, if_neg n3, if_neg n4, if_neg n5, if_neg n6] at h ⊢
      split at h
      · rename_i a1
        rw [if_pos a1]
        split at h
        · cases h
        · rename_i a2
          rw [if_neg a2]
          exact ⟨a1, rfl⟩
      · cases h
    have hB := zf4 (chg s e).st e.sum (by omega)
    have h0 : bornL e.sum (chg s e).st.things = 0 := zi8 fun ⟨k, hk, e1⟩ => by
      rw [hp.2] at hk
      exact (zc6.1 hk).2 e1
    rw [h0] at hB
    have hd := zr7 V hp.1
    rw [← hp.2] at hd
    have n0 := V.nT
    simp (disch := omega) only [push_cast, k7, hB]
    congr 3
    rw [decide_eq_true_iff]
    omega
  · simp (disch := omega) only [push_cast]
theorem chg_3 {s : State} {e : Entry} (V : VS s) (he : zh e s.width = true) (h : (chg s e).code = 3) : (chg s e).a ≠ (chg s e).b ∧ sumM (chg s e).a s.width = sumM (chg s e).b s.width ∧ (chg s e).a.size ≤ 1000000 ∧ (chg s e).b.size ≤ 1000000 := by
  unfold chg at h ⊢
  split at h
  · rename_i k1
    rw [if_pos k1]
    have ht := EntryOk.thing he k1
    unfold putS at h ⊢
    split at h
    · cases h
    · rename_i a1
      rw [if_neg a1]
      split at h
      · rename_i a2
        rw [if_pos a2]
        split at h
        · split at h <;> cases h
        · rename_i a3
          rw [if_neg a3]
          have hi := (zbs V.srtT _).1 a2
          have hm := zi (d := K0) hi.1
          have hok := V.okT _ hm
          have z1 := zbh (nth K0 s.things (lb (qK (sumM (formM e.thing) s.width)) s.things)).thing
          have z2 := zbh e.thing
          have z3 := zbe hok.1
          have z4 := zbe ht
          refine ⟨a3, ?_, ?_, ?_⟩
          · show sumM (formM _) s.width = sumM (formM e.thing) s.width
            rw [← hok.2.1]; exact hi.2
          · show (formM _).size ≤ 1000000
            omega
          · show (formM e.thing).size ≤ 1000000
            omega
      · split at h <;> cases h
  · split at h
    · split at h <;> (try split at h) <;> cases h
    · split at h
      · split at h <;> cases h
      · split at h
        · split at h <;> (try split at h) <;> cases h
        · split at h
          · split at h <;> cases h
          · split at h
            · split at h <;> cases h
            · split at h <;> (try split at h) <;> cases h
theorem chg_6 {s : State} {e : Entry} (h : (chg s e).code = 6) : hasT s.things e.sum := by
  unfold chg at h
  split at h
  · unfold putS at h
    split at h
    · cases h
    · split at h
      · split at h
        · split at h <;> cases h
        · cases h
      · split at h <;> cases h
  · split at h
    · split at h <;> (try split at h) <;> cases h
    · split at h
      · split at h <;> cases h
      · split at h
        · split at h <;> (try split at h) <;> cases h
        · split at h
          · split at h <;> cases h
          · split at h
            · split at h <;> cases h
            · split at h
              · assumption
              · cases h
theorem zgg : Small1 Zs := ⟨Nat.zero_le _, Nat.zero_le _, Nat.zero_le _, fun k hk => nomatch hk⟩
theorem zs9 {c : Rw} (hc : ∀ i, 0 ≤ (rd c i 0).int ∧ (rd c i 0).int ≤ 255) : Lqca none [.l c] = some [.b true] := by
  rw [eqca_i]
  by_cases hbig : (1048576 : Int) < (c.length : Int)
  · simp (disch := omega) only [push_cast]
  obtain ⟨s, e, hd, hB, hE⟩ := zmy hc
  have hen : e.name.size ≤ 4611686018427387904 := by unfold SmE at hE; omega
  have A1 := znc hB.names e hen
  have A2 := zok hB.names e hen
  by_cases cv : VS s ∧ zh e s.width = true
  rotate_left
  · have h0 : zp s e = fail Zs 1 := if_neg cv
    have W : Lqg none [.i Zs.width, .i Zs.now, .i Zs.given, .i Zs.births, .l (encK Zs.things), .l (encP Zs.pins), .l (encL Zs.leases), .i Zs.width, .i Zs.now, .i Zs.given, .i Zs.births, .l (encK Zs.things), .l (encP Zs.pins), .l (encL Zs.leases)] = some [.b (decide (Zs = Zs))] := zla zgg zgg
    rw [decide_eq_true (rfl : Zs = Zs)] at W
    rw [h0] at A1 A2
    have hz : stA (fail Zs 1) = Zs := rfl
    rw [hz] at A1 A2
    simp (disch := omega) only [push_cast, hd, A1, A2, W, zco]
    simp only [fail]; rfl
  have h0 : zp s e = chg s e := if_pos cv
  obtain ⟨V, he⟩ := cv
  rw [h0] at A1 A2
  have W : ∀ x : State, Small1 x → Lqg none [.i x.width, .i x.now, .i x.given, .i x.births, .l (encK x.things), .l (encP x.pins), .l (encL x.leases), .i x.width, .i x.now, .i x.given, .i x.births, .l (encK x.things), .l (encP x.pins), .l (encL x.leases)] = some [.b true] := fun x hx => by
    have := zla hx hx
    rw [decide_eq_true (rfl : x = x)] at this
    exact this
  by_cases c0 : (chg s e).code = 0
  · have V' := zcm V he c0
    have hz : stA (chg s e) = (chg s e).st := if_pos c0
    have W' := W _ V'.small
    have hv := zga (chg s e).st V'.names
    rw [decide_eq_true V'] at hv
    unfold encSt at hv
    rw [hz] at A1 A2
    rw [c0] at A1 A2
    by_cases k1 : e.kind = 1
    · have := zlu V he (.inl k1) c0 0
      rw [k1] at this A1 A2 hd
      simp (disch := omega) only [push_cast, hd, A1, A2, W', hv, zco]
      exact this
    · by_cases k4 : e.kind = 4
      · have := zlu V he (.inr k4) c0 0
        rw [k4] at this A1 A2 hd
        simp (disch := omega) only [push_cast, hd, A1, A2, W', hv, zco]
        exact this
      · have := zr5 V he c0 0
        simp (disch := omega) only [push_cast, hd, A1, A2, W', hv, zco]
        exact this
  have hz : stA (chg s e) = Zs := if_neg c0
  have W' := W _ zgg
  rw [hz] at A1 A2
  by_cases c3 : (chg s e).code = 3
  · obtain ⟨x1, x2, x3, x4⟩ := chg_3 V he c3
    have s1 := zbl (chg s e).a s.width (by omega)
    have s2 := zbl (chg s e).b s.width (by omega)
    rw [x2] at s1
    simp (disch := omega) only [push_cast, hd, A1, A2, W', zco, c3, s1, s2, x1]
  by_cases c6 : (chg s e).code = 6
  · have hT := chg_6 c6
    have hH := zgs V hT
    have n1 := V.nT
    have hb := zf4 s e.sum (by omega)
    obtain ⟨k, y1, y2, y3⟩ := zg9 hT
    have hbk := (V.okT k y1).2.2.1
    rw [y3] at hb
    have hnl := zgw s e.sum
    have hml := zlh s e.sum
    have m2 := V.nP; have m3 := V.nL
    by_cases hp : (0 : Int) < ((zbt s e.sum).length : Int) + ((numsM s e.sum).length : Int)
    · simp (disch := omega) only [push_cast, hd, A1, A2, W', zco, c6, hH, ze5]
    · have hpos : decide (0 < k.born) = true := decide_eq_true (by omega)
      simp (disch := omega) only [push_cast, hd, A1, A2, W', zco, c6, hH, ze5, hb, hpos]
  · simp (disch := omega) only [push_cast, hd, A1, A2, W', zco]
end KV
end
