/- Plain laws over the walks' closed forms. -/
import Derived.Lib.Strings
import Derived.Test.YtbgmclgeikflaaaGreatM1
import Derived.Test.YtbgmclgeikflaaaGreatM2
import Derived.Test.YtbgmclgeikflaaaGreatM3
import Derived.Test.YtbgmclgeikflaaaGreatM4
set_option linter.unusedSimpArgs false
set_option linter.unusedVariables false
set_option linter.unusedSectionVars false
section
namespace KV
open Go Go.Eng
open Classical
structure Act where
  kind : Int
  text : Bs
  refs : Int
  name : Bs
  pick : Int
  ticks : Int
def encA (a : Act) : Lv := [.i a.kind, .s a.text, .i a.refs, .s a.name, .i a.pick, .i a.ticks]
structure ActOk (a : Act) : Prop where
  kind : (1 ≤ a.kind ∧ a.kind ≤ 6) ∨ a.kind = 8 ∨ a.kind = 9 ∨ a.kind = 10
  text : a.text.size ≤ 4
  refs : 0 ≤ a.refs ∧ a.refs < 8
  name : a.name.size ≤ 1
  pick : 0 ≤ a.pick ∧ a.pick < 40
  ticks : 1 ≤ a.ticks ∧ a.ticks ≤ 200
def nameL : Rw := [[.s (⟨#[112]⟩ : ByteArray)], [.s (⟨#[113]⟩ : ByteArray)], [.s (⟨#[114]⟩ : ByteArray)]]
def tickL : Rw := [[.i 1], [.i 3], [.i 10], [.i 40], [.i 200]]
theorem zos (i : Nat) : ((rd nameL i 0).str).size ≤ 1 := by
  match i with
  | 0 => exact Nat.le_refl _
  | 1 => exact Nat.le_refl _
  | 2 => exact Nat.le_refl _
  | n + 3 => exact Nat.zero_le _
theorem zmp (i : Nat) (h : i < 5) : 1 ≤ (rd tickL i 0).int ∧ (rd tickL i 0).int ≤ 200 := by
  match i, h with
  | 0, _ => exact ⟨Int.le_refl _, by show (1 : Int) ≤ 200; omega⟩
  | 1, _ => exact ⟨by show (1 : Int) ≤ 3; omega, by show (3 : Int) ≤ 200; omega⟩
  | 2, _ => exact ⟨by show (1 : Int) ≤ 10; omega, by show (10 : Int) ≤ 200; omega⟩
  | 3, _ => exact ⟨by show (1 : Int) ≤ 40; omega, by show (40 : Int) ≤ 200; omega⟩
  | 4, _ => exact ⟨by show (1 : Int) ≤ 200; omega, Int.le_refl _⟩
theorem zqb {b : Rw} (hb : RB b) (p : Int) (hp : 0 ≤ p ∧ p ≤ 999998000) : ∃ (a : Act) (p' : Int), Lqcs none [.l b, .i p] = some (encA a ++ [.l b, .i p']) ∧ p ≤ p' ∧ p' ≤ p + 20 ∧ ActOk a := by
  obtain ⟨s, p1, h1, h2, h3, hs⟩ := zp8 hb p (by omega)
  obtain ⟨x2, e2, r2, s2⟩ := zm hb 8 (by omega) p1 (by omega)
  obtain ⟨x3, e3, r3, s3⟩ := zm hb 3 (by omega) (p1 + 1) (by omega)
  obtain ⟨x4, e4, r4, s4⟩ := zm hb 40 (by omega) (p1 + 1 + 1) (by omega)
  obtain ⟨x5, e5, r5, s5⟩ := zm hb 5 (by omega) (p1 + 1 + 1 + 1) (by omega)
  obtain ⟨x6, e6, r6, s6⟩ := zm hb 20 (by omega) (p1 + 1 + 1 + 1 + 1) (by omega)
  have ht := zmp x5.toNat (by omega)
  have hnm := zos x3.toNat
  refine ⟨⟨if x6 < 7 then 1 else if x6 < 10 then 2 else if x6 = 10 then 3 else if x6 = 11 then 4 else if x6 = 12 then 5 else if x6 < 15 then 6 else if x6 = 15 then 8 else if x6 = 16 then 9 else 10, s, x2, (rd nameL x3.toNat 0).str, x4, (rd tickL x5.toNat 0).int⟩, p1 + 1 + 1 + 1 + 1 + 1, ?_, by omega, by omega, ?_⟩
  · rw [eqcs_i, h1]
    simp (disch := omega) only [push_cast, e2, e3, e4, e5, e6]
    by_cases c1 : x6 < 7
    · rw [if_pos c1]; simp (disch := omega) only [push_cast]; rfl
    rw [if_neg c1]
    by_cases c2 : x6 < 10
    · rw [if_pos c2]; simp (disch := omega) only [push_cast]; rfl
    rw [if_neg c2]
    by_cases c3 : x6 = 10
    · rw [if_pos c3]; simp (disch := omega) only [push_cast]; rfl
    rw [if_neg c3]
    by_cases c4 : x6 = 11
    · rw [if_pos c4]; simp (disch := omega) only [push_cast]; rfl
    rw [if_neg c4]
    by_cases c5 : x6 = 12
    · rw [if_pos c5]; simp (disch := omega) only [push_cast]; rfl
    rw [if_neg c5]
    by_cases c6 : x6 < 15
    · rw [if_pos c6]; simp (disch := omega) only [push_cast]; rfl
    rw [if_neg c6]
    by_cases c7 : x6 = 15
    · rw [if_pos c7]; simp (disch := omega) only [push_cast]; rfl
    rw [if_neg c7]
    by_cases c8 : x6 = 16
    · rw [if_pos c8]; simp (disch := omega) only [push_cast]; rfl
    rw [if_neg c8]; simp (disch := omega) only [push_cast]; rfl
  · refine ⟨?_, hs, by simp only; omega, hnm, by simp only; omega, ht⟩
    show (1 ≤ (if x6 < 7 then (1 : Int) else _) ∧ _) ∨ _
    simp only
    repeat' split
    all_goals omega
theorem znd (a : Act) (s : State) (ha : ActOk a) (hT : 0 < s.things.length) (hn : s.things.length ≤ 1000000) : ∀ (m k : Nat) (acc : List Bs), 4 - k = m → k ≤ 4 → acc.length ≤ k → (∀ r ∈ acc, hasT s.things r) →
    ∃ l : List Bs, Lqbt (some 5) [.i (k : Int), .i a.kind, .s a.text, .i a.refs, .s a.name, .i a.pick, .i a.ticks, .i s.width, .i s.now, .i s.given, .i s.births, .l (encK s.things), .l (encP s.pins), .l (encL s.leases), .s E0, .s a.text, .l (encS acc), .l [], .l []] = some [.s a.text, .l (encS l)] ∧ l.length ≤ 4 ∧ Asc l ∧ ∀ r ∈ l, hasT s.things r := by
  intro m
  have fin : ∀ acc : List Bs, acc.length ≤ 4 → (∀ r ∈ acc, hasT s.things r) → ∃ l : List Bs, (Lqf none [.l (encS acc)]).bind (fun y1 => some ([.s a.text, .l ((g y1 0).list)] : Lv)) = some ([.s a.text, .l (encS l)] : Lv) ∧ l.length ≤ 4 ∧ Asc l ∧ ∀ r ∈ l, hasT s.things r := by
    intro acc h1 h2
    obtain ⟨out, e, h3, h4, h5⟩ := zf5 acc (by omega)
    exact ⟨out, by rw [e]; rfl, by omega, h3, fun r hr => h2 r ((h4 r).1 hr)⟩
  have hr := ha.refs
  have hp := ha.pick
  have hd : 0 ≤ a.refs.tdiv 2 ∧ a.refs.tdiv 2 ≤ 3 := by rw [Int.tdiv_eq_ediv_of_nonneg hr.1]; omega
  induction m with
  | zero =>
    intro k acc hm hk hl hh
    have : k = 4 := by omega
    subst this
    obtain ⟨l, e, r⟩ := fin acc (by omega) hh
    refine ⟨l, ?_, r⟩
    rw [eqbt_5]
    simp (disch := omega) only [push_cast]
    exact e
  | succ m ih =>
    intro k acc hm hk hl hh
    by_cases c : (k : Int) < a.refs.tdiv 2
    · have ht := zcp (a := a.pick + 5 * (k : Int)) (n := (s.things.length : Int)) (by omega) (by omega)
      obtain ⟨j, hj⟩ : ∃ j : Nat, (a.pick + 5 * (k : Int)).tmod (s.things.length : Int) = j := ⟨((a.pick + 5 * (k : Int)).tmod (s.things.length : Int)).toNat, by omega⟩
      obtain ⟨l, e, r⟩ := ih (k + 1) (acc ++ [(nth K0 s.things j).sum]) (by omega) (by omega) (by simp; omega) (fun r hr => by
        rcases List.mem_append.1 hr with h | h
        · exact hh r h
        · rw [List.mem_singleton] at h; rw [h]; exact ⟨_, zh (by omega), rfl⟩)
      refine ⟨l, ?_, r⟩
      rw [eqbt_5, mostE]
      rw [← zp] at e
      simp (disch := omega) only [push_cast, hj]
      exact e
    · obtain ⟨l, e, r⟩ := fin acc (by omega) hh
      refine ⟨l, ?_, r⟩
      rw [eqbt_5]
      simp (disch := omega) only [push_cast]
      exact e
theorem zni (a : Act) (s : State) (ha : ActOk a) (hn : s.things.length ≤ 1000000) : ∃ l : List Bs, Lqbt none (encA a ++ encSt s) = some [.s a.text, .l (encS l)] ∧ l.length ≤ 4 ∧ Asc l ∧ ∀ r ∈ l, hasT s.things r := by
  show ∃ l : List Bs, Lqbt none [.i a.kind, .s a.text, .i a.refs, .s a.name, .i a.pick, .i a.ticks, .i s.width, .i s.now, .i s.given, .i s.births, .l (encK s.things), .l (encP s.pins), .l (encL s.leases)] = _ ∧ _
  rw [eqbt_i]
  by_cases h : 0 < s.things.length
  · obtain ⟨l, e, r⟩ := znd a s ha h hn 4 0 [] rfl (by omega) (Nat.le_refl _) (fun r hr => nomatch hr)
    exact ⟨l, by simp (disch := omega) only [push_cast]; exact e, r⟩
  · obtain ⟨out, e, h3, h4, h5⟩ := zf5 [] (Nat.zero_le _)
    have e' : Lqf none [.l []] = some [.l (encS out)] := e
    refine ⟨out, by simp (disch := omega) only [push_cast, e'], by have : out.length ≤ 0 := h5; omega, h3, fun r hr => nomatch (h4 r).1 hr⟩
theorem zk6 (a : Act) (s : State) (ha : ActOk a) (hn : s.things.length ≤ 1000000) : ∃ x : Bs, Lqca none (encA a ++ encSt s) = some [.s x] := by
  show ∃ x : Bs, Lqca none [.i a.kind, .s a.text, .i a.refs, .s a.name, .i a.pick, .i a.ticks, .i s.width, .i s.now, .i s.given, .i s.births, .l (encK s.things), .l (encP s.pins), .l (encL s.leases)] = _
  rw [eqca_i]
  have hp := ha.pick
  by_cases h : s.things.length = 0
  · refine ⟨sumM ⟨#[110, 111, 110, 101]⟩ s.width, ?_⟩
    simp (disch := omega) only [push_cast, zck (⟨#[110, 111, 110, 101]⟩ : ByteArray) s.width (by show (4 : Nat) ≤ 1099511627776; omega)]
  · have ht := zcp (a := a.pick) (n := (s.things.length : Int)) (by omega) (by omega)
    obtain ⟨j, hj⟩ : ∃ j : Nat, a.pick.tmod (s.things.length : Int) = j := ⟨(a.pick.tmod (s.things.length : Int)).toNat, by omega⟩
    exact ⟨(nth K0 s.things j).sum, by simp (disch := omega) only [push_cast, hj]⟩
theorem zmd (a : Act) (s : State) (ha : ActOk a) (hn : s.leases.length ≤ 1000000) : ∃ x : Int, Lqce none (encA a ++ encSt s) = some [.i x] := by
  show ∃ x : Int, Lqce none [.i a.kind, .s a.text, .i a.refs, .s a.name, .i a.pick, .i a.ticks, .i s.width, .i s.now, .i s.given, .i s.births, .l (encK s.things), .l (encP s.pins), .l (encL s.leases)] = _
  rw [eqce_i]
  have hp := ha.pick
  by_cases h : s.leases.length = 0
  · exact ⟨1 + a.pick, by simp (disch := omega) only [push_cast]⟩
  · have ht := zcp (a := a.pick) (n := (s.leases.length : Int)) (by omega) (by omega)
    obtain ⟨j, hj⟩ : ∃ j : Nat, a.pick.tmod (s.leases.length : Int) = j := ⟨(a.pick.tmod (s.leases.length : Int)).toNat, by omega⟩
    exact ⟨(nth L0 s.leases j).number, by simp (disch := omega) only [push_cast, hj]⟩
theorem zk1 : ∀ (n : Nat) (v : Vault) (d : List Bs) (u : Nat) (r : Vault × List Bs × Nat), VV v → clrS n v d u = some r → VV r.1
  | 0, v, d, u, r, V, h => by simp only [clrS] at h; cases h; exact V
  | n + 1, v, d, u, r, V, h => by
    simp only [clrS] at h
    split at h
    · cases h
    · rename_i hc
      have hlog := V.log.n
      split at h
      · cases h; exact V
      · rename_i hd
        have hs := zg2 V (by omega) (by by_cases h0 : (unitM v.st v.rd).2 = E0; { exact .inl h0 }; { exact .inr (by have : ¬ 4000 ≤ v.safe.length + v.loose.length := fun h => hd ⟨h0, h⟩; omega) })
        exact zk1 n _ _ _ _ (hs.vv (hs.rd (by show (unitM v.st v.rd).1.queue.length ≤ 23200; omega) (by show (unitM v.st v.rd).1.marked.length ≤ 600; omega))) h
def GV (v : Vault) : Prop := VV v ∨ v = V0
theorem GV.small {v : Vault} (h : GV v) : SmallV v := by
  rcases h with h | rfl
  · exact h.small
  · exact ⟨⟨Nat.zero_le _, fun x hx => nomatch hx⟩, ⟨Nat.zero_le _, fun x hx => nomatch hx⟩, Nat.zero_le _, ⟨Nat.zero_le _, Nat.zero_le _, Nat.zero_le _, fun x hx => nomatch hx⟩, Nat.zero_le _, Nat.zero_le _, Nat.zero_le _⟩
theorem GV.nT {v : Vault} (h : GV v) : v.st.things.length ≤ 1000000 ∧ v.st.leases.length ≤ 1000000 := by
  rcases h with h | rfl
  · have h1 := h.vs.1.nT; have h2 := h.vs.1.nL; omega
  · exact ⟨Nat.zero_le _, Nat.zero_le _⟩
def vA (v : Vault) : Lv := [.i v.width, .i v.limit, .l (encS v.safe), .i v.st.width, .i v.st.now, .i v.st.given, .i v.st.births, .l (encK v.st.things), .i v.rd.phase, .l (encS v.rd.queue), .l (encS v.rd.marked), .i v.rd.top, .i v.rd.at_, .i v.rd.rounds]
def vB (v : Vault) : Lv := [.l (encS v.loose), .l (encP v.st.pins), .l (encL v.st.leases)]
theorem zdk (v : Vault) (d : Did) : Lqba (some 21) (vA v ++ ([.i 0, .i 0, .i 0, .i 0, .i 0, .i 0, .i 0, .i 0, .i 0, .i 0] ++ (.i d.code :: (vI d.v ++ ([.s d.sum, .i d.lease, .s d.a, .s d.b] ++ (vB v ++ (vL d.v ++ [.l [], .l [], .l [], .l [], .l [], .l [], .l []]))))))) = some (vA (if d.code = 0 then d.v else v) ++ vB (if d.code = 0 then d.v else v)) := by
  show Lqba (some 21) [.i v.width, .i v.limit, .l (encS v.safe), .i v.st.width, .i v.st.now, .i v.st.given, .i v.st.births, .l (encK v.st.things), .i v.rd.phase, .l (encS v.rd.queue), .l (encS v.rd.marked), .i v.rd.top, .i v.rd.at_, .i v.rd.rounds,
    .i 0, .i 0, .i 0, .i 0, .i 0, .i 0, .i 0, .i 0, .i 0, .i 0, .i d.code, .i d.v.width, .i d.v.limit, .i d.v.st.width, .i d.v.st.now, .i d.v.st.given, .i d.v.st.births, .i d.v.rd.phase, .i d.v.rd.top, .i d.v.rd.at_, .i d.v.rd.rounds, .s d.sum, .i d.lease, .s d.a, .s d.b, .l (encS v.loose), .l (encP v.st.pins), .l (encL v.st.leases), .l (encS d.v.safe), .l (encS d.v.loose), .l (encK d.v.st.things), .l (encP d.v.st.pins), .l (encL d.v.st.leases), .l (encS d.v.rd.queue), .l (encS d.v.rd.marked), .l [], .l [], .l [], .l [], .l [], .l [], .l []] = _
  rw [eqba_21]
  by_cases h : d.code = 0
  · rw [if_pos h]; simp (disch := omega) only [push_cast]; rfl
  · rw [if_neg h]; simp (disch := omega) only [push_cast]; rfl
theorem zdq {v : Vault} (h : GV v) (e : Entry) : GV (if (doS v e).code = 0 then (doS v e).v else v) := by
  by_cases hc : (doS v e).code = 0
  · rw [if_pos hc]; exact .inl (zqq hc).2.2.2
  · rw [if_neg hc]; exact h
inductive Acted (v : Vault) : Vault → Prop where
  | did (e : Entry) (hk : 1 ≤ e.kind ∧ e.kind ≤ 6) (ht : e.thing.text.size ≤ 4) : Acted v (if (doS v e).code = 0 then (doS v e).v else v)
  | flush : Acted v (zcf v)
  | lose (k : Int) : Acted v (loseM v k)
  | clear (n : Nat) (v' : Vault) (d : List Bs) (u : Nat) (V : VV v) (h : clrS n v [] 0 = some (v', d, u)) : Acted v v'
  | none : Acted v V0
inductive Led : Vault → Prop where
  | new (v : Vault) (ha : v.safe = []) (hb : v.loose = []) : Led v
  | act (v v' : Vault) (h : Led v) (g : GV v) (a : Acted v v') : Led v'
theorem zov {v : Vault} (h : GV v) {a : Act} (ha : ActOk a) : ∃ v', Lqba none (vA v ++ (encA a ++ vB v)) = some (vA v' ++ vB v') ∧ GV v' ∧ Acted v v' := by
  show ∃ v', Lqba none [.i v.width, .i v.limit, .l (encS v.safe), .i v.st.width, .i v.st.now, .i v.st.given, .i v.st.births, .l (encK v.st.things), .i v.rd.phase, .l (encS v.rd.queue), .l (encS v.rd.marked), .i v.rd.top, .i v.rd.at_, .i v.rd.rounds, .i a.kind, .s a.text, .i a.refs, .s a.name, .i a.pick, .i a.ticks, .l (encS v.loose), .l (encP v.st.pins), .l (encL v.st.leases)] = _ ∧ _
  have hsm := h.small
  have hn := h.nT
  have hnm := ha.name
  rw [eqba_i]
  have hk := ha.kind
  have hp := ha.pick
  by_cases c1 : a.kind = 1
  · obtain ⟨l, e, h4, _⟩ := zni a v.st ha hn.1
    have e' : Lqbt none [.i a.kind, .s a.text, .i a.refs, .s a.name, .i a.pick, .i a.ticks, .i v.st.width, .i v.st.now, .i v.st.given, .i v.st.births, .l (encK v.st.things), .l (encP v.st.pins), .l (encL v.st.leases)] = _ := e
    have ep := znr hsm ⟨a.text, l⟩ a.ticks (by show l.length ≤ 1099511627776; omega)
    have ep' : Lqcg none [.i v.width, .i v.limit, .l (encS v.safe), .l (encS v.loose), .i v.st.width, .i v.st.now, .i v.st.given, .i v.st.births, .l (encK v.st.things), .l (encP v.st.pins), .l (encL v.st.leases), .i v.rd.phase, .l (encS v.rd.queue), .l (encS v.rd.marked), .i v.rd.top, .i v.rd.at_, .i v.rd.rounds, .s a.text, .l (encS l), .i a.ticks] = _ := ep
    refine ⟨_, ?_, zdq h (ePut ⟨a.text, l⟩ a.ticks), .did (ePut ⟨a.text, l⟩ a.ticks) (by show (1 : Int) ≤ 1 ∧ (1 : Int) ≤ 6; omega) ha.text⟩
    rw [← zdk]
    simp (disch := omega) only [push_cast, e', ep']
    rfl
  by_cases c2 : a.kind = 2
  · obtain ⟨x, e⟩ := zk6 a v.st ha hn.1
    have e' : Lqca none [.i a.kind, .s a.text, .i a.refs, .s a.name, .i a.pick, .i a.ticks, .i v.st.width, .i v.st.now, .i v.st.given, .i v.st.births, .l (encK v.st.things), .l (encP v.st.pins), .l (encL v.st.leases)] = _ := e
    have ep := zpm hsm a.name x (by omega)
    have ep' : Lqch none [.i v.width, .i v.limit, .l (encS v.safe), .l (encS v.loose), .i v.st.width, .i v.st.now, .i v.st.given, .i v.st.births, .l (encK v.st.things), .l (encP v.st.pins), .l (encL v.st.leases), .i v.rd.phase, .l (encS v.rd.queue), .l (encS v.rd.marked), .i v.rd.top, .i v.rd.at_, .i v.rd.rounds, .s a.name, .s x] = _ := ep
    refine ⟨_, ?_, zdq h (eHold a.name x), .did (eHold a.name x) (by show (1 : Int) ≤ 2 ∧ (2 : Int) ≤ 6; omega) (Nat.zero_le _)⟩
    rw [← zdk]
    simp (disch := omega) only [push_cast, e', ep']
    rfl
  by_cases c3 : a.kind = 3
  · have ep := zng hsm a.name (by omega)
    have ep' : Lqci none [.i v.width, .i v.limit, .l (encS v.safe), .l (encS v.loose), .i v.st.width, .i v.st.now, .i v.st.given, .i v.st.births, .l (encK v.st.things), .l (encP v.st.pins), .l (encL v.st.leases), .i v.rd.phase, .l (encS v.rd.queue), .l (encS v.rd.marked), .i v.rd.top, .i v.rd.at_, .i v.rd.rounds, .s a.name] = _ := ep
    refine ⟨_, ?_, zdq h (zeu a.name), .did (zeu a.name) (by show (1 : Int) ≤ 3 ∧ (3 : Int) ≤ 6; omega) (Nat.zero_le _)⟩
    rw [← zdk]
    simp (disch := omega) only [push_cast, ep']
    rfl
  by_cases c4 : a.kind = 4
  · obtain ⟨x, e⟩ := zk6 a v.st ha hn.1
    have e' : Lqca none [.i a.kind, .s a.text, .i a.refs, .s a.name, .i a.pick, .i a.ticks, .i v.st.width, .i v.st.now, .i v.st.given, .i v.st.births, .l (encK v.st.things), .l (encP v.st.pins), .l (encL v.st.leases)] = _ := e
    have ep := zsk hsm x a.ticks
    have ep' : Lqcj none [.i v.width, .i v.limit, .l (encS v.safe), .l (encS v.loose), .i v.st.width, .i v.st.now, .i v.st.given, .i v.st.births, .l (encK v.st.things), .l (encP v.st.pins), .l (encL v.st.leases), .i v.rd.phase, .l (encS v.rd.queue), .l (encS v.rd.marked), .i v.rd.top, .i v.rd.at_, .i v.rd.rounds, .s x, .i a.ticks] = _ := ep
    refine ⟨_, ?_, zdq h (zfn x a.ticks), .did (zfn x a.ticks) (by show (1 : Int) ≤ 4 ∧ (4 : Int) ≤ 6; omega) (Nat.zero_le _)⟩
    rw [← zdk]
    simp (disch := omega) only [push_cast, e', ep']
    rfl
  by_cases c5 : a.kind = 5
  · obtain ⟨x, e⟩ := zmd a v.st ha hn.2
    have e' : Lqce none [.i a.kind, .s a.text, .i a.refs, .s a.name, .i a.pick, .i a.ticks, .i v.st.width, .i v.st.now, .i v.st.given, .i v.st.births, .l (encK v.st.things), .l (encP v.st.pins), .l (encL v.st.leases)] = _ := e
    have ep := znl hsm x
    have ep' : Lqck none [.i v.width, .i v.limit, .l (encS v.safe), .l (encS v.loose), .i v.st.width, .i v.st.now, .i v.st.given, .i v.st.births, .l (encK v.st.things), .l (encP v.st.pins), .l (encL v.st.leases), .i v.rd.phase, .l (encS v.rd.queue), .l (encS v.rd.marked), .i v.rd.top, .i v.rd.at_, .i v.rd.rounds, .i x] = _ := ep
    refine ⟨_, ?_, zdq h (ze9 x), .did (ze9 x) (by show (1 : Int) ≤ 5 ∧ (5 : Int) ≤ 6; omega) (Nat.zero_le _)⟩
    rw [← zdk]
    simp (disch := omega) only [push_cast, e', ep']
    rfl
  by_cases c6 : a.kind = 6
  · have ep := zop hsm a.ticks
    have ep' : Lqcl none [.i v.width, .i v.limit, .l (encS v.safe), .l (encS v.loose), .i v.st.width, .i v.st.now, .i v.st.given, .i v.st.births, .l (encK v.st.things), .l (encP v.st.pins), .l (encL v.st.leases), .i v.rd.phase, .l (encS v.rd.queue), .l (encS v.rd.marked), .i v.rd.top, .i v.rd.at_, .i v.rd.rounds, .i a.ticks] = _ := ep
    refine ⟨_, ?_, zdq h (eWait a.ticks), .did (eWait a.ticks) (by show (1 : Int) ≤ 6 ∧ (6 : Int) ≤ 6; omega) (Nat.zero_le _)⟩
    rw [← zdk]
    simp (disch := omega) only [push_cast, ep']
    rfl
  by_cases c8 : a.kind = 8
  · have ep := zol hsm
    unfold encV at ep
    refine ⟨zcf v, ?_, ?_, .flush⟩
    · simp (disch := omega) only [push_cast, ep]; rfl
    · by_cases V : VV v
      · exact .inl (zrq V)
      · right; unfold zcf; rw [if_neg V]
  by_cases c9 : a.kind = 9
  · have ep := zls hsm (a.pick.tmod 6)
    have ep' : Lqcm none [.i v.width, .i v.limit, .l (encS v.safe), .l (encS v.loose), .i v.st.width, .i v.st.now, .i v.st.given, .i v.st.births, .l (encK v.st.things), .l (encP v.st.pins), .l (encL v.st.leases), .i v.rd.phase, .l (encS v.rd.queue), .l (encS v.rd.marked), .i v.rd.top, .i v.rd.at_, .i v.rd.rounds, .i (a.pick.tmod 6)] = _ := ep
    refine ⟨loseM v (a.pick.tmod 6), ?_, ?_, .lose _⟩
    · simp (disch := omega) only [push_cast, ep']; rfl
    · by_cases V : VV v
      · exact .inl (zml V _)
      · right; unfold loseM; rw [if_neg V]
  have c10 : a.kind = 10 := by omega
  have ep := zmn hsm a.pick
  have ep' : Lqbw none [.i v.width, .i v.limit, .l (encS v.safe), .l (encS v.loose), .i v.st.width, .i v.st.now, .i v.st.given, .i v.st.births, .l (encK v.st.things), .l (encP v.st.pins), .l (encL v.st.leases), .i v.rd.phase, .l (encS v.rd.queue), .l (encS v.rd.marked), .i v.rd.top, .i v.rd.at_, .i v.rd.rounds, .i a.pick] = _ := ep
  cases hr : (if VV v ∧ 0 ≤ a.pick ∧ a.pick ≤ 10000 then clrS a.pick.toNat v [] 0 else none) with
  | none =>
    rw [hr] at ep'
    refine ⟨V0, ?_, .inr rfl, .none⟩
    simp (disch := omega) only [push_cast, ep']; rfl
  | some r =>
    rw [hr] at ep'
    obtain ⟨v', d, u⟩ := r
    have hcv : VV v ∧ clrS a.pick.toNat v [] 0 = some (v', d, u) := by
      split at hr
      · rename_i hc; exact ⟨hc.1, hr⟩
      · cases hr
    refine ⟨v', ?_, .inl (zk1 _ _ _ _ _ hcv.1 hcv.2), .clear _ _ _ _ hcv.1 hcv.2⟩
    simp (disch := omega) only [push_cast, ep']; rfl
end KV
end
section
namespace KV
open Go Go.Eng
open Classical
def GL (v : Vault) : Prop := GV v ∧ Led v
theorem zk5 {b : Rw} (hb : RB b) : ∀ (n : Nat) (v : Vault) (p : Int), GL v → 0 ≤ p ∧ p + 20 * n ≤ 999998000 →
    ∃ (v' : Vault) (p' : Int), Lqbb (some 8) ([.i (n : Int), .l b, .i p, .i 0, .i 0, .i 0, .i 0, .i 0, .i 0, .i 0, .i 0, .i 0, .i 0] ++ (vA v ++ ([.l [], .l [], .l [], .l [], .l [], .l [], .l []] ++ vB v))) = some (vA v' ++ ([.l b, .i p'] ++ vB v')) ∧ p ≤ p' ∧ p' ≤ p + 20 * n ∧ GL v' := by
  intro n
  induction n with
  | zero =>
    intro v p hv hp
    refine ⟨v, p, ?_, by omega, by omega, hv⟩
    show Lqbb (some 8) [.i ((0 : Nat) : Int), .l b, .i p, .i 0, .i 0, .i 0, .i 0, .i 0, .i 0, .i 0, .i 0, .i 0, .i 0, .i v.width, .i v.limit, .l (encS v.safe), .i v.st.width, .i v.st.now, .i v.st.given, .i v.st.births, .l (encK v.st.things), .i v.rd.phase, .l (encS v.rd.queue), .l (encS v.rd.marked), .i v.rd.top, .i v.rd.at_, .i v.rd.rounds, .l [], .l [], .l [], .l [], .l [], .l [], .l [], .l (encS v.loose), .l (encP v.st.pins), .l (encL v.st.leases)] = _
    rw [eqbb_8]
    simp (disch := omega) only [push_cast]
    rfl
  | succ n ih =>
    intro v p hv hp
    obtain ⟨a, p1, ea, h1, h2, ha⟩ := zqb hb p (by omega)
    obtain ⟨v1, ed, hv1, ac⟩ := zov hv.1 ha
    obtain ⟨v2, p2, er, h3, h4, hv2⟩ := ih v1 p1 ⟨hv1, .act v v1 hv.2 hv.1 ac⟩ (by omega)
    refine ⟨v2, p2, ?_, by omega, by omega, hv2⟩
    show Lqbb (some 8) [.i ((n + 1 : Nat) : Int), .l b, .i p, .i 0, .i 0, .i 0, .i 0, .i 0, .i 0, .i 0, .i 0, .i 0, .i 0, .i v.width, .i v.limit, .l (encS v.safe), .i v.st.width, .i v.st.now, .i v.st.given, .i v.st.births, .l (encK v.st.things), .i v.rd.phase, .l (encS v.rd.queue), .l (encS v.rd.marked), .i v.rd.top, .i v.rd.at_, .i v.rd.rounds, .l [], .l [], .l [], .l [], .l [], .l [], .l [], .l (encS v.loose), .l (encP v.st.pins), .l (encL v.st.leases)] = _
    rw [eqbb_8, ea]
    have ed' : Lqba none [.i v.width, .i v.limit, .l (encS v.safe), .i v.st.width, .i v.st.now, .i v.st.given, .i v.st.births, .l (encK v.st.things), .i v.rd.phase, .l (encS v.rd.queue), .l (encS v.rd.marked), .i v.rd.top, .i v.rd.at_, .i v.rd.rounds, .i a.kind, .s a.text, .i a.refs, .s a.name, .i a.pick, .i a.ticks, .l (encS v.loose), .l (encP v.st.pins), .l (encL v.st.leases)] = _ := ed
    unfold encA
    simp only [List.cons_append, List.nil_append]
    simp (disch := omega) only [push_cast, ed']
    rw [show (n : Int) + 1 - 1 = (n : Int) by omega]
    exact er
theorem zoq (w lim : Int) (hw : w = 1 ∨ w = 2 ∨ w = 8) (hl : 0 ≤ lim ∧ lim ≤ 1000000) : ∃ v, Lqb3 none [.i w, .i lim, .l [], .l []] = some (encO (.inl v)) ∧ VV v ∧ v.rd = R0 ∧ v.safe = [] ∧ v.loose = [] := by
  have := zjp w lim [] [] ⟨Nat.zero_le _, fun x hx => nomatch hx⟩ ⟨Nat.zero_le _, fun x hx => nomatch hx⟩ (Nat.zero_le _)
  have hwb : zk w = true := zw.2 (by omega)
  have hlog : LogOk [] [] := ⟨(fun x hx => nomatch hx), (fun x hx => nomatch hx), Nat.zero_le _⟩
  have ho : openM w lim [] [] = .inl ⟨w, lim, [], [], empty w, R0⟩ := by
    unfold openM
    rw [if_pos ⟨hwb, hl, hlog⟩]
    simp [runL]
  rw [ho] at this
  refine ⟨_, this, ⟨hwb, hl, hlog, by simp [runL], ?_⟩, rfl, rfl, rfl⟩
  exact (show RoundOk w 0 R0 from ⟨⟨Int.le_refl _, (by show (0 : Int) ≤ 2; omega)⟩, ⟨Int.le_refl _, (by show (0 : Int) ≤ 1000000000; omega)⟩, Nat.zero_le _, Nat.zero_le _, (fun x hx => nomatch hx), List.nodup_nil, (fun x hx => nomatch hx), fun _ => ⟨rfl, rfl, rfl, rfl⟩, fun h => absurd rfl h⟩)
theorem zql {b : Rw} (hb : RB b) (p : Int) (hp : 0 ≤ p ∧ p ≤ 900000000) : ∃ (v : Vault) (p' : Int), Lqbb none [.l b, .i p] = some (vA v ++ ([.l b, .i p'] ++ vB v)) ∧ p ≤ p' ∧ p' ≤ p + 600 ∧ GL v := by
  obtain ⟨x1, e1, r1, s1⟩ := zm hb 6 (by omega) p (by omega)
  have go : ∀ (lim q : Int), 0 ≤ lim ∧ lim ≤ 1000000 → p ≤ q ∧ q ≤ p + 2 → ∃ (w : Int) (v0 : Vault) (x5 x6 : Int), Lqcd none [.l b, .i q] = some [.i w, .l b, .i (q + 1)] ∧ Lqb3 none [.i w, .i lim, .l [], .l []] = some (encO (.inl v0)) ∧ GL v0 ∧ v0.rd = R0 ∧
      Lqc none [.i 14, .l b, .i (q + 1)] = some [.i x5, .l b, .i (q + 1 + 1)] ∧ Lqc none [.i 6, .l b, .i (q + 1 + 1)] = some [.i x6, .l b, .i (q + 1 + 1 + 1)] ∧ 0 ≤ x5 ∧ x5 < 14 := by
    intro lim q hl hq
    obtain ⟨w, ew, hw⟩ := zsh hb q (by omega)
    obtain ⟨v0, eo, hv, hr, ha, hb'⟩ := zoq w lim hw hl
    obtain ⟨x5, e5, r5, s5⟩ := zm hb 14 (by omega) (q + 1) (by omega)
    obtain ⟨x6, e6, r6, s6⟩ := zm hb 6 (by omega) (q + 1 + 1) (by omega)
    exact ⟨w, v0, x5, x6, ew, eo, ⟨.inl hv, .new v0 ha hb'⟩, hr, e5, e6, by omega, by omega⟩
  have fin : ∀ (v0 : Vault) (x5 x6 q : Int), v0.rd = R0 → GL v0 → 0 ≤ x5 ∧ x5 < 14 → p ≤ q ∧ q ≤ p + 10 → ∃ (v : Vault) (p' : Int), p ≤ p' ∧ p' ≤ p + 600 ∧ GL v ∧ (cond (decide (x6 = 0)) (Lqbb (some 8) ([.i (x5 + 12), .l b, .i q, .i 0, .i 0, .i 0, .i 0, .i 0, .i 0, .i 0, .i 0, .i 0, .i 0] ++ (vA v0 ++ ([.l [], .l [], .l [], .l [], .l [], .l [], .l []] ++ vB v0)))) (Lqbb (some 8) ([.i x5, .l b, .i q, .i 0, .i 0, .i 0, .i 0, .i 0, .i 0, .i 0, .i 0, .i 0, .i 0] ++ (vA v0 ++ ([.l [], .l [], .l [], .l [], .l [], .l [], .l []] ++ vB v0))))) = some (vA v ++ ([.l b, .i p'] ++ vB v)) := by
    intro v0 x5 x6 q hr hg hx hq
    by_cases c : x6 = 0
    · obtain ⟨n, hn⟩ : ∃ n : Nat, x5 + 12 = n := ⟨(x5 + 12).toNat, by omega⟩
      obtain ⟨v, p', e, h1, h2, h3⟩ := zk5 hb n v0 q hg (by omega)
      refine ⟨v, p', by omega, by omega, h3, ?_⟩
      rw [decide_eq_true c, cond_true, hn]; exact e
    · obtain ⟨n, hn⟩ : ∃ n : Nat, x5 = n := ⟨x5.toNat, by omega⟩
      obtain ⟨v, p', e, h1, h2, h3⟩ := zk5 hb n v0 q hg (by omega)
      refine ⟨v, p', by omega, by omega, h3, ?_⟩
      rw [decide_eq_false c, cond_false, hn]; exact e
  rw [eqbb_i, e1]
  by_cases c : x1 = 0
  · obtain ⟨x2, e2, r2, s2⟩ := zm hb 60 (by omega) (p + 1) (by omega)
    obtain ⟨w, v0, x5, x6, ew, eo, hg, hr, e5, e6, h0, h14⟩ := go (20 + x2) (p + 1 + 1) (by omega) (by omega)
    obtain ⟨v, p', h1, h2, h3, e⟩ := fin v0 x5 x6 (p + 1 + 1 + 1 + 1 + 1) hr hg ⟨h0, h14⟩ (by omega)
    refine ⟨v, p', ?_, h1, h2, h3⟩
    unfold encO at eo
    unfold vA vB at e
    rw [hr] at e
    simp (disch := omega) only [push_cast, e2, ew, eo, e5, e6]
    exact e
  · obtain ⟨w, v0, x5, x6, ew, eo, hg, hr, e5, e6, h0, h14⟩ := go 1000000 (p + 1) (by omega) (by omega)
    obtain ⟨v, p', h1, h2, h3, e⟩ := fin v0 x5 x6 (p + 1 + 1 + 1 + 1) hr hg ⟨h0, h14⟩ (by omega)
    refine ⟨v, p', ?_, h1, h2, h3⟩
    unfold encO at eo
    unfold vA vB at e
    rw [hr] at e
    simp (disch := omega) only [push_cast, ew, eo, e5, e6]
    exact e
end KV
end
section
namespace KV
open Go Go.Eng
open Classical
theorem zeg (n : Int) : (bytesOf ([[.i n]] : Rw)).size = 1 := zb2 _
theorem dec_R : ∀ (k : Nat) (n : Int), n < 10 ^ (k + 1) → n ≤ 1000000000 → k ≤ 100 → ∃ s, Rqbf (k + 1) none [.i n] = some [.s s] ∧ 1 ≤ s.size ∧ s.size ≤ k + 1
  | 0, n, h, hn, hk => by
    have h10 : n < 10 := by simpa using h
    refine ⟨_, by rw [eqbf_i, cpos h10], ?_⟩
    rw [zeg]; omega
  | k + 1, n, h, hn, hk => by
    rw [eqbf_i]
    by_cases h10 : n < 10
    · refine ⟨_, by rw [cpos h10], ?_⟩
      rw [zeg]; omega
    · have hd : n.tdiv 10 < 10 ^ (k + 1) := by
        rw [Int.tdiv_eq_ediv_of_nonneg (by omega)]
        have : (10 : Int) ^ (k + 1 + 1) = 10 ^ (k + 1) * 10 := Int.pow_succ ..
        omega
      have h0 : 0 ≤ n.tdiv 10 ∧ n.tdiv 10 ≤ n := by rw [Int.tdiv_eq_ediv_of_nonneg (by omega)]; omega
      obtain ⟨s, e, h1, h2⟩ := dec_R k (n.tdiv 10) hd (by omega) (by omega)
      refine ⟨s ++ bytesOf ([[.i (IntKind.u8.wrap (IntKind.i64.wrap (48 + (n.tmod 10))))]] : Rw), ?_, ?_⟩
      · rw [cneg h10, w64 (n := n.tdiv 10) (by omega), e, mostE, Option.bind_some]
        show cond (decide (s.size + _ ≤ 1099511627776)) _ _ = _
        rw [cpos (by rw [zeg]; omega)]; rfl
      · rw [z7, zeg]; omega
theorem zp6 (n : Int) (h : n ≤ 1000000) : ∃ s, Lqbf none [.i n] = some [.s s] ∧ 1 ≤ s.size ∧ s.size ≤ 20 :=
  dec_R 19 n (by have : (10 : Int) ^ (19 + 1) = 100000000000000000000 := by decide
                 omega) (by omega) (by omega)
theorem zor (n i : Int) (ap : Bool) (last x : Bs) (refs : List Bs) (hi : 0 ≤ i ∧ i ≤ 1000000) (T : List Kept) (hT : T.length ≤ 100000) : ∀ (m k : Nat), T.length - k = m → k ≤ T.length →
    ∃ T' : List Kept, Lq0 (some 11) [.i n, .b ap, .s last, .i i, .i (k : Int), .i 0, .i 0, .i 0, .i 0, .i 8, .i 0, .i 0, .i n, .s x, .l [], .l [], .l [], .l (encK T), .l [], .l [], .l (encS refs)] =
      Lq0 (some 4) [.i n, .b ap, .s last, .i (i + 1), .i 0, .i 0, .i 0, .i 0, .i 8, .i 0, .i 0, .i n, .l [], .l [], .l [], .l (encK T'), .l [], .l []] ∧ T'.length = T.length + 1 ∧ ∀ k ∈ T', k ∈ T ∨ k = ⟨last, i, ⟨x, refs⟩⟩ := by
  intro m
  have ins : ∀ k : Nat, k ≤ T.length → ((([] : Rw) ++ (Eng.sub (encK T) 0 k)) ++ ([[.s last, .i i, .s x, .l (encS refs)]] : Rw)) ++ (Eng.sub (encK T) k T.length) = encK (T.take k ++ ⟨last, i, ⟨x, refs⟩⟩ :: T.drop k) := by
    intro k hk
    rw [zdu, zdu, zdp, List.nil_append, zbj, zbj, List.drop_zero, Nat.sub_zero, List.take_of_length_le (l := T.drop k) (by rw [List.length_drop]; exact Nat.le_refl _), List.append_assoc]; rfl
  have fin : ∀ k : Nat, k ≤ T.length → (T.take k ++ (⟨last, i, ⟨x, refs⟩⟩ : Kept) :: T.drop k).length = T.length + 1 ∧ ∀ y ∈ T.take k ++ (⟨last, i, ⟨x, refs⟩⟩ : Kept) :: T.drop k, y ∈ T ∨ y = ⟨last, i, ⟨x, refs⟩⟩ := by
    intro k hk
    refine ⟨by rw [List.length_append, List.length_cons, List.length_take, List.length_drop]; omega, fun y hy => ?_⟩
    rcases List.mem_append.1 hy with h | h
    · exact .inl (List.mem_of_mem_take h)
    · rcases List.mem_cons.1 h with h | h
      · exact .inr h
      · exact .inl (List.mem_of_mem_drop h)
  have l1 : ∀ k : Nat, k ≤ T.length → (Eng.sub (encK T) 0 k).length = k := fun k hk => by rw [zdu, zds, List.length_take, List.length_drop]; omega
  have l2 : ∀ k : Nat, k ≤ T.length → (Eng.sub (encK T) k T.length).length = T.length - k := fun k hk => by rw [zdu, zds, List.length_take, List.length_drop]; omega
  induction m with
  | zero =>
    intro k hm hk
    have : k = T.length := by omega
    subst this
    refine ⟨_, ?_, fin T.length (Nat.le_refl _)⟩
    have := ins T.length (Nat.le_refl _)
    have a1 := l1 T.length (Nat.le_refl _); have a2 := l2 T.length (Nat.le_refl _)
    rw [eq0_11, mostE]
    simp (disch := omega) only [push_cast, a1, a2, List.length_append, List.length_nil, ← this]
  | succ m ih =>
    intro k hm hk
    have hlt : k < T.length := by omega
    cases hs : slt (nth K0 T k).sum last
    · refine ⟨_, ?_, fin k hk⟩
      have := ins k hk
      have a1 := l1 k hk; have a2 := l2 k hk
      rw [eq0_11, mostE]
      simp (disch := omega) only [push_cast, hs, a1, a2, List.length_append, List.length_nil, ← this]
    · obtain ⟨T', e, r⟩ := ih (k + 1) (by omega) (by omega)
      refine ⟨T', ?_, r⟩
      rw [eq0_11]
      simp (disch := omega) only [push_cast, hs]
      exact e
structure MT (k : Kept) : Prop where
  text : k.thing.text.size ≤ 20
  refs : k.thing.refs.length ≤ 1
  size : ∀ r ∈ k.thing.refs, r.size = 8
  sm : k.sum.size = 8
theorem zpe (n : Nat) (hn : n ≤ 1000) (ap : Bool) : ∀ (m i : Nat) (last : Bs) (T : List Kept), n + 1 - i = m → 1 ≤ i → i ≤ n + 1 → T.length + 1 = i → (last = E0 ∨ last.size = 8) → (∀ k ∈ T, MT k) →
    ∃ T' : List Kept, Lq0 (some 4) [.i (n : Int), .b ap, .s last, .i (i : Int), .i 0, .i 0, .i 0, .i 0, .i 8, .i 0, .i 0, .i (n : Int), .l [], .l [], .l [], .l (encK T), .l [], .l []] = some [.i 8, .i 0, .i 0, .i (n : Int), .l (encK T'), .l [], .l []] ∧ T'.length = n ∧ ∀ k ∈ T', MT k := by
  intro m
  induction m with
  | zero =>
    intro i last T hm h1 hi hT hl hM
    refine ⟨T, ?_, by omega, hM⟩
    rw [eq0_4]; simp (disch := omega) only [push_cast]
  | succ m ih =>
    intro i last T hm h1 hi hT hl hM
    obtain ⟨x, ex, hx1, hx2⟩ := zp6 (i : Int) (by omega)
    have h8 : zk 8 = true := by rfl
    have go : ∀ refs : List Bs, refs.length ≤ 1 → (∀ r ∈ refs, r.size = 8) → ∃ T' : List Kept, Lq0 (some 11) [.i (n : Int), .b ap, .s (sumM (formT ⟨x, refs⟩ 8) 8), .i (i : Int), .i 0, .i 0, .i 0, .i 0, .i 0, .i 8, .i 0, .i 0, .i (n : Int), .s x, .l [], .l [], .l [], .l (encK T), .l [], .l [], .l (encS refs)] = some [.i 8, .i 0, .i 0, .i (n : Int), .l (encK T'), .l [], .l []] ∧ T'.length = n ∧ ∀ k ∈ T', MT k := by
      intro refs hr1 hr2
      obtain ⟨T1, e1, h3, h4⟩ := zor (n : Int) (i : Int) ap (sumM (formT ⟨x, refs⟩ 8) 8) x refs (by omega) T (by omega) T.length 0 (by omega) (Nat.zero_le _)
      have hz := zg4 (s := formT ⟨x, refs⟩ 8) h8
      obtain ⟨T2, e2, h5, h6⟩ := ih (i + 1) (sumM (formT ⟨x, refs⟩ 8) 8) T1 (by omega) (by omega) (by omega) (by omega) (.inr (by omega)) (fun k hk => by
        rcases h4 k hk with h | h
        · exact hM k h
        · rw [h]; exact ⟨hx2, hr1, hr2, by show (sumM (formT ⟨x, refs⟩ 8) 8).size = 8; omega⟩)
      exact ⟨T2, e1.trans e2, h5, h6⟩
    have hft : ∀ refs : List Bs, Lqh none [.s (formT ⟨x, refs⟩ 8), .i 8] = some [.s (sumM (formT ⟨x, refs⟩ 8) 8)] := fun refs => zck _ 8 (by have := zm0 ⟨x, refs⟩ 8; omega)
    have hfo : ∀ refs : List Bs, Lqm none [.s x, .l (encS refs), .i 8] = some [.s (formT ⟨x, refs⟩ 8)] := fun refs => zb8 ⟨x, refs⟩ 8
    have hf0 : Lqm none [.s x, .l [], .i 8] = some [.s (formT ⟨x, []⟩ 8)] := hfo []
    have hf1 : Lqm none [.s x, .l [[.s last]], .i 8] = some [.s (formT ⟨x, [last]⟩ 8)] := hfo [last]
    rw [eq0_4]
    cases ap
    · by_cases hE : last = E0
      · obtain ⟨T', e, r⟩ := go [] (by simp) (fun r hr => nomatch hr)
        refine ⟨T', ?_, r⟩
        simp (disch := omega) only [push_cast, ex, hf0, hft]
        exact e
      · obtain ⟨T', e, r⟩ := go [last] (by simp) (fun r hr => by rw [List.mem_singleton] at hr; rw [hr]; exact hl.resolve_left hE)
        refine ⟨T', ?_, r⟩
        simp (disch := omega) only [push_cast, ex, hf1, hft]
        exact e
    · obtain ⟨T', e, r⟩ := go [] (by simp) (fun r hr => nomatch hr)
      refine ⟨T', ?_, r⟩
      simp (disch := omega) only [push_cast, ex, hf0, hft]
      exact e
theorem zh2 (n : Nat) (hn : n ≤ 1000) (ap : Bool) : ∃ T' : List Kept, Lq0 none [.i (n : Int), .b ap] = some [.i 8, .i 0, .i 0, .i (n : Int), .l (encK T'), .l [], .l []] ∧ T'.length = n ∧ ∀ k ∈ T', MT k := by
  obtain ⟨T', e, r⟩ := zpe n hn ap n 1 E0 [] (by omega) (Nat.le_refl _) (by omega) rfl (.inl rfl) (fun k hk => nomatch hk)
  exact ⟨T', by rw [eq0_i]; exact e, r⟩
end KV
end
section
namespace KV
open Go Go.Eng
open Classical
def bl (s : Bs) : List UInt8 := s.data.toList
theorem zfw (x y : Bs) : bl (x ++ y) = bl x ++ bl y := by
  unfold bl; rw [ByteArray.data_append, Array.toList_append]
theorem znj {x y : Bs} (h : bl x = bl y) : x = y := Go.WideShapes.bytes_inj h
theorem zi6 (x : Bs) : (bl x).length = x.size := by unfold bl; rw [Array.length_toList]; rfl
theorem zhs (l : List Bs) : ∀ a, bl (cat a l) = bl a ++ l.flatMap bl := by
  induction l with
  | nil => intro a; simp [cat]
  | cons x l ih => intro a; show bl (cat (a ++ x) l) = _; rw [ih, zfw, List.flatMap_cons, List.append_assoc]
theorem zih {w : Nat} : ∀ (l m : List Bs), (∀ r ∈ l, r.size = w) → (∀ r ∈ m, r.size = w) → l.length = m.length → l.flatMap bl = m.flatMap bl → l = m
  | [], [], _, _, _, _ => rfl
  | [], _ :: _, _, _, h, _ => by simp at h
  | _ :: _, [], _, _, h, _ => by simp at h
  | x :: l, y :: m, h1, h2, h3, h4 => by
    rw [List.flatMap_cons, List.flatMap_cons] at h4
    have := List.append_inj h4 (by rw [zi6, zi6, h1 x (by simp), h2 y (by simp)])
    rw [znj this.1, zih l m (fun r hr => h1 r (by simp [hr])) (fun r hr => h2 r (by simp [hr])) (by simpa using h3) this.2]
theorem zfg {l : List Bs} {w : Nat} (h : ∀ r ∈ l, r.size = w) : szs l = l.length * w := by
  induction l with
  | nil => simp [szs]
  | cons a l ih => rw [zd4, List.length_cons, ih fun r hr => h r (by simp [hr]), h a (by simp), Nat.add_mul]; omega
theorem zh1 {t u : Thing} {a b : Nat} (ha : ∀ r ∈ t.refs, r.size = a) (hb : ∀ r ∈ u.refs, r.size = b) (ht : t.text = u.text) (hn : t.refs.length = u.refs.length) (hf : formM t = formM u) : t.refs = u.refs := by
  have h1 := congrArg ByteArray.size hf
  rw [zbo, zbo, ht, zfg ha, zfg hb, hn] at h1
  by_cases h0 : u.refs.length = 0
  · rw [List.eq_nil_of_length_eq_zero h0, List.eq_nil_of_length_eq_zero (hn.trans h0)]
  · have hab : a = b := Nat.eq_of_mul_eq_mul_left (by omega : 0 < u.refs.length) (by omega)
    subst hab
    have h2 := congrArg bl hf
    unfold formM at h2
    rw [zfw, zfw, zhs, zhs, ht, hn] at h2
    have h3 := List.append_cancel_right h2
    exact zih _ _ ha hb hn (List.append_cancel_left h3)
structure BS (s : State) : Prop where
  nT : s.things.length ≤ 1000
  nP : s.pins.length ≤ 1000
  nL : s.leases.length ≤ 1000
  t : ∀ k ∈ s.things, 1 + szs k.thing.refs + k.thing.text.size ≤ 1000000 ∧ k.thing.refs.length ≤ 40 ∧ k.thing.text.size ≤ 3000 ∧ k.sum.size ≤ 100
  nm : ∀ p ∈ s.pins, p.name.size ≤ 100
  ints : (-10 ≤ s.width ∧ s.width ≤ 100) ∧ (-1 ≤ s.now ∧ s.now ≤ 1000001000) ∧ (-1 ≤ s.given ∧ s.given ≤ 1000001000) ∧ (-1 ≤ s.births ∧ s.births ≤ 1000001000)
theorem BS.small {s : State} (h : BS s) : Small1 s := by
  have h1 := h.nT; have h2 := h.nP; have h3 := h.nL
  exact ⟨by omega, by omega, by omega, fun k hk => by have := h.t k hk; omega⟩
theorem BS.names {s : State} (h : BS s) : ∀ p ∈ s.pins, p.name.size ≤ 4611686018427387904 := fun p hp => by have := h.nm p hp; omega
theorem VS.bs {s : State} (V : VS s) : BS s := by
  have h1 := V.nT; have h2 := V.nP; have h3 := V.nL; have a := V.wd; have b := V.now; have c := V.given; have d := V.births
  exact ⟨by omega, by omega, by omega, fun k hk => by
    have := zbk (V.okT k hk).1; have := (V.okT k hk).1.text
    have hz : ((sumM (formM k.thing) s.width).size : Int) = s.width := zg4 (zw.2 V.wd)
    rw [← (V.okT k hk).2.1] at hz
    omega, fun p hp => by have := (V.okP p hp).1.hi; omega, by omega, by omega, by omega, by omega⟩
theorem Cut.same {s s' : State} (h : s'.things = s.things) : Cut s s' := fun i h1 h2 _ _ _ => by rw [h]
theorem Cut.uni {s s' : State} {a b : Nat} (ha : ∀ k ∈ s.things, ∀ r ∈ k.thing.refs, r.size = a) (hb : ∀ k ∈ s'.things, ∀ r ∈ k.thing.refs, r.size = b) : Cut s s' := fun i h1 h2 h3 h4 h5 =>
  zh1 (ha _ (zh h1)) (hb _ (zh h2)) h3 h4 h5
theorem VS.uni {s : State} (V : VS s) : ∀ k ∈ s.things, ∀ r ∈ k.thing.refs, r.size = s.width.toNat := fun k hk r hr => by
  have := (V.okT k hk).1.size r hr; omega
theorem Cut.spoil {s s' : State} (V : VS s) (j : Nat) (k : Kept) (hj : j < s.things.length) (h : s'.things = s.things.set j k) (hs : SpT (nth K0 s.things j).thing k.thing) : Cut s s' := by
  intro i h1 h2 h3 h4 h5
  by_cases hij : j = i
  · subst hij
    have e : nth K0 s'.things j = k := by
      rw [zj _ _ _ h2]; simp only [h]; rw [List.getElem_set_self]
    rw [e] at h3 h4 h5 ⊢
    cases hs with
    | text hr _ => rw [hr]
    | more r _ hr _ => rw [hr, List.length_append] at h4; simp at h4
    | ones ht hr hn => exact zh1 (V.uni _ (zh hj)) hr h3 h4 h5
  · have e : nth K0 s'.things i = nth K0 s.things i := by
      rw [zj _ _ _ h2, zj _ _ _ h1]; simp only [h]; rw [List.getElem_set_ne hij]
    rw [e]
end KV
end
section
namespace KV
open Go Go.Eng
open Classical
theorem wrK1 (l : List Kept) (i : Nat) (n : Int) (h : i < l.length) : wrs (encK l) i 1 [.i n] = encK (l.set i { nth K0 l i with born := n }) := by
  have : (l.map cK).getD i [] = cK (nth K0 l i) := by rw [zj K0 l i h, List.getD_eq_getElem?_getD]; simp [h]
  unfold wrs wrs wr encK
  rw [List.map_set, this]; rfl
theorem wrK2 (l : List Kept) (i : Nat) (x : Bs) (r : List Bs) (h : i < l.length) : wrs (encK l) i 2 [.s x, .l (encS r)] = encK (l.set i ⟨(nth K0 l i).sum, (nth K0 l i).born, ⟨x, r⟩⟩) := by
  have : (l.map cK).getD i [] = cK (nth K0 l i) := by rw [zj K0 l i h, List.getD_eq_getElem?_getD]; simp [h]
  unfold wrs wrs wrs wr encK
  rw [this, List.map_set, List.getD_eq_getElem?_getD, List.getElem?_set_self (by simpa using h), List.set_set]; rfl
theorem wrL (l : List Lease) (i o : Nat) (n : Int) (h : i < l.length) (L' : Lease) (he : setAt (cL (nth L0 l i)) o (.i n) = cL L') : wrs (encL l) i o [.i n] = encL (l.set i L') := by
  have : (l.map cL).getD i [] = cL (nth L0 l i) := by rw [zj L0 l i h, List.getD_eq_getElem?_getD]; simp [h]
  unfold wrs wrs wr encL
  rw [List.map_set, this, ← he]
def GS (s : State) : Prop := VS s ∨ s = ⟨0, 0, 0, 0, [], [], []⟩
theorem GS.bs {s : State} (h : GS s) : BS s := by
  rcases h with h | rfl
  · exact h.bs
  · exact ⟨Nat.zero_le _, Nat.zero_le _, Nat.zero_le _, (fun k hk => nomatch hk), (fun k hk => nomatch hk), by simp⟩
theorem GS.th {s : State} (h : GS s) : s.things.length ≤ 600 ∧ s.pins.length ≤ 100 ∧ s.leases.length ≤ 200 ∧ ∀ k ∈ s.things, 1 + szs k.thing.refs + k.thing.text.size ≤ 2241 ∧ k.thing.refs.length ≤ 30 ∧ k.thing.text.size ≤ 2000 ∧ ∀ r ∈ k.thing.refs, r.size ≤ 8 := by
  rcases h with h | rfl
  · refine ⟨h.nT, h.nP, h.nL, fun k hk => ?_⟩
    have h1 := (h.okT k hk).1; have h2 := zbk h1
    exact ⟨h2.1, h2.2, h1.text, fun r hr => by have := h1.size r hr; have := h.wd; omega⟩
  · exact ⟨Nat.zero_le _, Nat.zero_le _, Nat.zero_le _, fun k hk => nomatch hk⟩
theorem GS.now {s : State} (h : GS s) : (0 ≤ s.now ∧ s.now ≤ 1000000000) ∧ (0 ≤ s.given ∧ s.given ≤ 1000000000) ∧ (0 ≤ s.births ∧ s.births ≤ 1000000000) ∧ (0 ≤ s.width ∧ s.width ≤ 8) := by
  rcases h with h | rfl
  · have := h.wd; exact ⟨h.now, h.given, h.births, by omega⟩
  · simp
theorem MT.size' {k : Kept} (h : MT k) : 1 + szs k.thing.refs + k.thing.text.size ≤ 1000000 ∧ k.thing.refs.length ≤ 40 ∧ k.thing.text.size ≤ 3000 ∧ k.sum.size ≤ 100 := by
  have h0 := h.sm
  have h1 := zfg h.size; have h2 := h.refs; have h3 := h.text
  have : k.thing.refs.length * 8 ≤ 8 := by omega
  omega
def l3 : Rw := [[.i (-1)], [.i 1000000000], [.i 1000000001]]
def l5 : Rw := [[.i (-1)], [.i 0], [.i 1], [.i 1000000000], [.i 1000000001]]
def l4 : Rw := [[.i (-1)], [.i 0], [.i 1000000000], [.i 1000000001]]
theorem zod (n : Nat) (h : n < 3) : -1 ≤ (rd l3 n 0).int ∧ (rd l3 n 0).int ≤ 1000000001 := by
  match n, h with
  | 0, _ => exact ⟨by show (-1 : Int) ≤ -1; omega, by show (-1 : Int) ≤ 1000000001; omega⟩
  | 1, _ => exact ⟨by show (-1 : Int) ≤ 1000000000; omega, by show (1000000000 : Int) ≤ 1000000001; omega⟩
  | 2, _ => exact ⟨by show (-1 : Int) ≤ 1000000001; omega, by show (1000000001 : Int) ≤ 1000000001; omega⟩
theorem zqz (n : Nat) (h : n < 4) : -1 ≤ (rd l4 n 0).int ∧ (rd l4 n 0).int ≤ 1000000001 := by
  match n, h with
  | 0, _ => exact ⟨by show (-1 : Int) ≤ -1; omega, by show (-1 : Int) ≤ 1000000001; omega⟩
  | 1, _ => exact ⟨by show (-1 : Int) ≤ 0; omega, by show (0 : Int) ≤ 1000000001; omega⟩
  | 2, _ => exact ⟨by show (-1 : Int) ≤ 1000000000; omega, by show (1000000000 : Int) ≤ 1000000001; omega⟩
  | 3, _ => exact ⟨by show (-1 : Int) ≤ 1000000001; omega, by show (1000000001 : Int) ≤ 1000000001; omega⟩
theorem zn9 (n : Nat) (h : n < 5) : -1 ≤ (rd l5 n 0).int ∧ (rd l5 n 0).int ≤ 1000000001 := by
  match n, h with
  | 0, _ => exact ⟨by show (-1 : Int) ≤ -1; omega, by show (-1 : Int) ≤ 1000000001; omega⟩
  | 1, _ => exact ⟨by show (-1 : Int) ≤ 0; omega, by show (0 : Int) ≤ 1000000001; omega⟩
  | 2, _ => exact ⟨by show (-1 : Int) ≤ 1; omega, by show (1 : Int) ≤ 1000000001; omega⟩
  | 3, _ => exact ⟨by show (-1 : Int) ≤ 1000000000; omega, by show (1000000000 : Int) ≤ 1000000001; omega⟩
  | 4, _ => exact ⟨by show (-1 : Int) ≤ 1000000001; omega, by show (1000000001 : Int) ≤ 1000000001; omega⟩
end KV
end
section
namespace KV
open Go Go.Eng
open Classical
def nm4 : Rw := [[.s (⟨#[112]⟩ : ByteArray)], [.s (⟨#[122]⟩ : ByteArray)], [.s (⟨#[]⟩ : ByteArray)], [.s (⟨#[120, 32, 121]⟩ : ByteArray)]]
def nm2 : Rw := [[.s (⟨#[97]⟩ : ByteArray)], [.s (⟨#[122]⟩ : ByteArray)]]
def h4 : Rw := [[.i 0], [.i 1], [.i 100000], [.i 100001]]
theorem zrx (i : Nat) : ((rd nm4 i 0).str).size ≤ 3 := by
  match i with
  | 0 => exact (by show (1 : Nat) ≤ 3; omega)
  | 1 => exact (by show (1 : Nat) ≤ 3; omega)
  | 2 => exact Nat.zero_le _
  | 3 => exact Nat.le_refl _
  | n + 4 => exact Nat.zero_le _
theorem zqe (i : Nat) : ((rd nm2 i 0).str).size ≤ 3 := by
  match i with
  | 0 => exact (by show (1 : Nat) ≤ 3; omega)
  | 1 => exact (by show (1 : Nat) ≤ 3; omega)
  | n + 2 => exact Nat.zero_le _
theorem zrw (n : Nat) (h : n < 4) : 0 ≤ (rd h4 n 0).int ∧ (rd h4 n 0).int ≤ 100001 := by
  match n, h with
  | 0, _ => exact ⟨by show (0 : Int) ≤ 0; omega, by show (0 : Int) ≤ 100001; omega⟩
  | 1, _ => exact ⟨by show (0 : Int) ≤ 1; omega, by show (1 : Int) ≤ 100001; omega⟩
  | 2, _ => exact ⟨by show (0 : Int) ≤ 100000; omega, by show (100000 : Int) ≤ 100001; omega⟩
  | 3, _ => exact ⟨by show (0 : Int) ≤ 100001; omega, by show (100001 : Int) ≤ 100001; omega⟩
def spO (s : State) (b : Rw) (p : Int) : Lv := [.i s.width, .i s.now, .i s.given, .i s.births, .l b, .i p, .l (encK s.things), .l (encP s.pins), .l (encL s.leases)]
theorem zl1 {α : Type} {c c' : Bool} {a b : α} (h : c = c') : cond c a b = cond c' a b := by rw [h]
theorem zm6 {α β : Type} {x y : Option α} {f : α → Option β} (h : x = y) : x.bind f = y.bind f := by rw [h]
attribute [local congr] zl1 zm6
set_option maxHeartbeats 8000000 in
theorem zqj {b : Rw} (hb : RB b) {s : State} (h : GS s) (p : Int) (hp : 0 ≤ p ∧ p ≤ 900000000) : ∃ (s' : State) (p' : Int), Lqcn none (encSt s ++ [.l b, .i p]) = some (spO s' b p') ∧ p ≤ p' ∧ p' ≤ p + 30 ∧ BS s' ∧ (VS s → Cut s s') := by
  show ∃ (s' : State) (p' : Int), Lqcn none [.i s.width, .i s.now, .i s.given, .i s.births, .l (encK s.things), .l (encP s.pins), .l (encL s.leases), .l b, .i p] = _ ∧ _
  obtain ⟨n1, n2, n3, hk⟩ := h.th
  obtain ⟨i1, i2, i3, i4⟩ := h.now
  have B := h.bs
  have hcp := zdm s.width s.now s.given s.births s.things (encP s.pins) (encL s.leases) (by omega) (fun k hk2 => by have := hk k hk2; omega) (by rw [zdg]; omega) (by rw [zdn]; omega)
  obtain ⟨x, ex, rx, sx⟩ := zm hb (s.things.length : Int) (by omega) p (by omega)
  obtain ⟨c, ec, rc, sc⟩ := zm hb 12 (by omega) (p + 1) (by omega)
  rw [eqcn_i, hcp, mostE]
  by_cases c0 : c = 0
  · obtain ⟨y, ey, ry, sy⟩ := zm hb 11 (by omega) (p + 1 + 1) (by omega)
    refine ⟨{ s with width := y - 1 }, p + 1 + 1 + 1, ?_, by omega, by omega, ⟨B.nT, B.nP, B.nL, B.t, B.nm, ⟨by simp only; omega, B.ints.2⟩⟩, fun _ => Cut.same rfl⟩
    simp (disch := omega) only [push_cast, ex, ec, ey]; rfl
  by_cases c1 : c = 1
  · obtain ⟨y, ey, ry, sy⟩ := zm hb 3 (by omega) (p + 1 + 1) (by omega)
    have hr := zod y.toNat (by omega)
    refine ⟨{ s with now := (rd l3 y.toNat 0).int }, p + 1 + 1 + 1, ?_, by omega, by omega, ⟨B.nT, B.nP, B.nL, B.t, B.nm, ⟨B.ints.1, by simp only; omega, B.ints.2.2⟩⟩, fun _ => Cut.same rfl⟩
    simp (disch := omega) only [push_cast, ex, ec, ey]; rfl
  by_cases c2 : c = 2
  · obtain ⟨y, ey, ry, sy⟩ := zm hb 5 (by omega) (p + 1 + 1) (by omega)
    have hr := zn9 y.toNat (by omega)
    refine ⟨{ s with births := (rd l5 y.toNat 0).int }, p + 1 + 1 + 1, ?_, by omega, by omega, ⟨B.nT, B.nP, B.nL, B.t, B.nm, ⟨B.ints.1, B.ints.2.1, B.ints.2.2.1, by simp only; omega⟩⟩, fun _ => Cut.same rfl⟩
    simp (disch := omega) only [push_cast, ex, ec, ey]; rfl
  by_cases c3 : c = 3
  · obtain ⟨y, ey, ry, sy⟩ := zm hb 4 (by omega) (p + 1 + 1) (by omega)
    have hr := zqz y.toNat (by omega)
    refine ⟨{ s with given := (rd l4 y.toNat 0).int }, p + 1 + 1 + 1, ?_, by omega, by omega, ⟨B.nT, B.nP, B.nL, B.t, B.nm, ⟨B.ints.1, B.ints.2.1, by simp only; omega, B.ints.2.2.2⟩⟩, fun _ => Cut.same rfl⟩
    simp (disch := omega) only [push_cast, ex, ec, ey]; rfl
  have stay : ∃ (s' : State) (p' : Int), some (spO s b (p + 1 + 1)) = some (spO s' b p') ∧ p ≤ p' ∧ p' ≤ p + 30 ∧ BS s' ∧ (VS s → Cut s s') := ⟨s, p + 1 + 1, rfl, by omega, by omega, B, fun _ => Cut.refl s⟩
  by_cases c4 : c = 4
  · by_cases h0 : 0 < s.things.length
    rotate_left
    · refine ⟨s, p + 1 + 1, ?_, by omega, by omega, B, fun _ => Cut.refl s⟩
      simp (disch := omega) only [push_cast, ex, ec]; rfl
    obtain ⟨j, hj⟩ : ∃ j : Nat, x = j := ⟨x.toNat, by omega⟩
    have hjl : j < s.things.length := by omega
    have hkj := hk _ (zh (d := K0) hjl)
    have hkz := (B.t _ (zh (d := K0) hjl)).2.2.2
    obtain ⟨t', p', e, h1, h2, hs⟩ := zo8 hb (nth K0 s.things j).thing (by omega) (p + 1 + 1) (by omega)
    have hw := wrK2 s.things j t'.text t'.refs hjl
    refine ⟨{ s with things := s.things.set j ⟨(nth K0 s.things j).sum, (nth K0 s.things j).born, t'⟩ }, p', ?_, by omega, by omega, ⟨by simp only [List.length_set]; omega, B.nP, B.nL, fun k hk2 => ?_, B.nm, B.ints⟩, fun V => Cut.spoil V j ⟨(nth K0 s.things j).sum, (nth K0 s.things j).born, t'⟩ hjl rfl hs⟩
    · simp (disch := omega) only [push_cast, ex, ec, hj, e, hw]; rfl
    · rcases List.mem_or_eq_of_mem_set hk2 with h3 | h3
      · exact B.t k h3
      · rw [h3]
        cases hs with
        | text hr hz => simp only; rw [hr]; omega
        | more r ht hr hz =>
          have hrs : r.size ≤ 8 := by
            rcases hz with h | h
            · omega
            · exact hkj.2.2.2 r h
          have q1 : szs [r] = r.size := by simp [szs]
          have q2 : [r].length = 1 := rfl
          simp only; rw [ht, hr, zkp, List.length_append, q1, q2]; omega
        | ones ht hr hn => have := zfg hr; simp only; rw [ht]; omega
  by_cases c5 : c = 5
  · by_cases h0 : 1 < s.things.length
    rotate_left
    · refine ⟨s, p + 1 + 1, ?_, by omega, by omega, B, fun _ => Cut.refl s⟩
      simp (disch := omega) only [push_cast, ex, ec]; rfl
    have hw := wrK1 s.things 0 (nth K0 s.things 1).born (by omega)
    refine ⟨{ s with things := s.things.set 0 { nth K0 s.things 0 with born := (nth K0 s.things 1).born } }, p + 1 + 1, ?_, by omega, by omega, ⟨by simp only [List.length_set]; omega, B.nP, B.nL, fun k hk2 => ?_, B.nm, B.ints⟩, fun V => Cut.spoil V 0 { nth K0 s.things 0 with born := (nth K0 s.things 1).born } (by omega) rfl (.text rfl (.inr (Nat.le_succ _)))⟩
    · simp (disch := omega) only [push_cast, ex, ec, hw]; rfl
    · rcases List.mem_or_eq_of_mem_set hk2 with h3 | h3
      · exact B.t k h3
      · rw [h3]; exact B.t (nth K0 s.things 0) (zh (d := K0) (by omega))
  by_cases c6 : c = 6
  · by_cases h0 : 0 < s.things.length
    rotate_left
    · refine ⟨s, p + 1 + 1, ?_, by omega, by omega, B, fun _ => Cut.refl s⟩
      simp (disch := omega) only [push_cast, ex, ec]; rfl
    obtain ⟨j, hj⟩ : ∃ j : Nat, x = j := ⟨x.toNat, by omega⟩
    have hjl : j < s.things.length := by omega
    have a1 : Eng.sub (encK s.things) 0 j = encK (s.things.take j) := by rw [zdu]; simp
    have a2 : Eng.sub (encK s.things) (j + 1) s.things.length = encK (s.things.drop (j + 1)) := by rw [zdu, List.take_of_length_le (by rw [List.length_drop]; exact Nat.le_refl _)]
    have b1 : (s.things.take j).length = j := by rw [List.length_take]; omega
    have b2 : (s.things.drop (j + 1)).length = s.things.length - (j + 1) := List.length_drop
    have hin : ∀ k ∈ s.things.take j ++ s.things.drop (j + 1), k ∈ s.things := fun k hk2 => (List.mem_append.1 hk2).elim List.mem_of_mem_take List.mem_of_mem_drop
    refine ⟨{ s with things := s.things.take j ++ s.things.drop (j + 1) }, p + 1 + 1, ?_, by omega, by omega, ⟨by simp only [List.length_append]; omega, B.nP, B.nL, fun k hk2 => B.t k (hin k hk2), B.nm, B.ints⟩, fun V => Cut.uni V.uni fun k hk2 => V.uni k (hin k hk2)⟩
    have c1' : (encK (s.things.take j)).length = j := by rw [zds]; exact b1
    have c2' : (encK (s.things.drop (j + 1))).length = s.things.length - (j + 1) := by rw [zds]; exact b2
    simp (disch := omega) only [push_cast, ex, ec, hj, a1, a2, List.nil_append, c1', c2', List.length_append]
    rw [zbj]; rfl
  by_cases c7 : c = 7
  · obtain ⟨y, ey, ry, sy⟩ := zm hb 4 (by omega) (p + 1 + 1) (by omega)
    have hnm : ((rd nm4 y.toNat 0).str).size ≤ 3 := zrx _
    refine ⟨{ s with pins := s.pins ++ [⟨(rd nm4 y.toNat 0).str, sumM ⟨#[113]⟩ s.width⟩] }, p + 1 + 1 + 1, ?_, by omega, by omega, ⟨B.nT, by simp; omega, B.nL, B.t, fun q hq => ?_, B.ints⟩, fun _ => Cut.same rfl⟩
    · have hsu := zck (⟨#[113]⟩ : ByteArray) s.width (by show (1 : Nat) ≤ 1099511627776; omega)
      simp (disch := omega) only [push_cast, ex, ec, ey, hsu]
      rw [zez, zcm]; rfl
    · rcases List.mem_append.1 hq with h1 | h1
      · exact B.nm q h1
      · rw [List.mem_singleton] at h1; rw [h1]; simp only; omega
  by_cases c8 : c = 8
  · by_cases h0 : 0 < s.things.length
    rotate_left
    · refine ⟨s, p + 1 + 1, ?_, by omega, by omega, B, fun _ => Cut.refl s⟩
      simp (disch := omega) only [push_cast, ex, ec]; rfl
    obtain ⟨j, hj⟩ : ∃ j : Nat, x = j := ⟨x.toNat, by omega⟩
    have hjl : j < s.things.length := by omega
    obtain ⟨y, ey, ry, sy⟩ := zm hb 2 (by omega) (p + 1 + 1) (by omega)
    have hnm : ((rd nm2 y.toNat 0).str).size ≤ 3 := zqe _
    refine ⟨{ s with pins := s.pins ++ [⟨(rd nm2 y.toNat 0).str, (nth K0 s.things j).sum⟩] }, p + 1 + 1 + 1, ?_, by omega, by omega, ⟨B.nT, by simp; omega, B.nL, B.t, fun q hq => ?_, B.ints⟩, fun _ => Cut.same rfl⟩
    · simp (disch := omega) only [push_cast, ex, ec, ey, hj]
      rw [zez, zcm]; rfl
    · rcases List.mem_append.1 hq with h1 | h1
      · exact B.nm q h1
      · rw [List.mem_singleton] at h1; rw [h1]; simp only; omega
  by_cases c9 : c = 9
  · by_cases h0 : 0 < s.leases.length
    rotate_left
    · refine ⟨s, p + 1 + 1, ?_, by omega, by omega, B, fun _ => Cut.refl s⟩
      simp (disch := omega) only [push_cast, ex, ec]; rfl
    obtain ⟨y, ey, ry, sy⟩ := zm hb 4 (by omega) (p + 1 + 1) (by omega)
    have hr := zrw y.toNat (by omega)
    have hw := wrL s.leases 0 2 (s.now + (rd h4 y.toNat 0).int) h0 { nth L0 s.leases 0 with till := s.now + (rd h4 y.toNat 0).int } rfl
    refine ⟨{ s with leases := s.leases.set 0 { nth L0 s.leases 0 with till := s.now + (rd h4 y.toNat 0).int } }, p + 1 + 1 + 1, ?_, by omega, by omega, ⟨B.nT, B.nP, by simp; omega, B.t, B.nm, B.ints⟩, fun _ => Cut.same rfl⟩
    unfold h4 at hw hr ⊢
    simp (disch := omega) only [push_cast, ex, ec, ey, hw]; rfl
  by_cases c10 : c = 10
  · by_cases h0 : 0 < s.leases.length
    rotate_left
    · refine ⟨s, p + 1 + 1, ?_, by omega, by omega, B, fun _ => Cut.refl s⟩
      simp (disch := omega) only [push_cast, ex, ec]; rfl
    obtain ⟨y, ey, ry, sy⟩ := zm hb 3 (by omega) (p + 1 + 1) (by omega)
    have hw := wrL s.leases 0 0 (rd ([[.i 0], [.i s.given], [.i (s.given + 1)]] : Rw) y.toNat 0).int h0 { nth L0 s.leases 0 with number := (rd ([[.i 0], [.i s.given], [.i (s.given + 1)]] : Rw) y.toNat 0).int } rfl
    refine ⟨{ s with leases := s.leases.set 0 { nth L0 s.leases 0 with number := (rd ([[.i 0], [.i s.given], [.i (s.given + 1)]] : Rw) y.toNat 0).int } }, p + 1 + 1 + 1, ?_, by omega, by omega, ⟨B.nT, B.nP, by simp; omega, B.t, B.nm, B.ints⟩, fun _ => Cut.same rfl⟩
    simp (disch := omega) only [push_cast, ex, ec, ey, hw]; rfl
  · obtain ⟨y, ey, ry, sy⟩ := zm hb 2 (by omega) (p + 1 + 1) (by omega)
    obtain ⟨z, ez, rz, sz⟩ := zm hb 2 (by omega) (p + 1 + 1 + 1) (by omega)
    obtain ⟨n, hn⟩ : ∃ n : Nat, 600 + y = n := ⟨(600 + y).toNat, by omega⟩
    obtain ⟨T', e, h1, h2⟩ := zh2 n (by omega) (decide (z = 0))
    refine ⟨⟨8, 0, 0, (n : Int), T', [], []⟩, p + 1 + 1 + 1 + 1, ?_, by omega, by omega, ⟨by simp only; omega, Nat.zero_le _, Nat.zero_le _, fun k hk2 => (h2 k hk2).size', (fun q hq => nomatch hq), by simp only; omega⟩, fun V => Cut.uni V.uni fun k hk2 => (h2 k hk2).size⟩
    simp (disch := omega) only [push_cast, ex, ec, ey, ez, hn, e]; rfl
end KV
end
section
namespace KV
open Go Go.Eng
open Classical
theorem GV.gs {v : Vault} (h : GV v) : GS v.st := by
  rcases h with h | rfl
  · exact .inl h.vs.1
  · exact .inr rfl
def anO (s : State) (b : Rw) (p : Int) : Lv := [.i s.width, .i s.now, .i s.given, .i s.births, .l (encK s.things), .l (encP s.pins), .l (encL s.leases), .l b, .i p]
theorem zl4 {b : Rw} (p : Int) : ∀ (m : Nat) (s : State), 200 - s.leases.length = m → s.leases.length ≤ 200 → 0 < s.things.length → s.things.length ≤ 1000 → BS s → s.given + m ≤ 1000000900 → s.now ≤ 1000000900 →
    ∃ s' : State, Lq6 (some 13) [.l b, .i p, .i 0, .i 0, .i 0, .i 0, .i s.width, .i s.now, .i s.given, .i s.births, .l (encK s.things), .l [], .l [], .l [], .l (encP s.pins), .l (encL s.leases)] = some (anO s' b p) ∧ BS s' := by
  intro m
  induction m with
  | zero =>
    intro s hm hl h0 hT B hg hn
    refine ⟨s, ?_, B⟩
    rw [eq6_13]; simp (disch := omega) only [push_cast]; rfl
  | succ m ih =>
    intro s hm hl h0 hT B hg hn
    have hi := B.ints
    obtain ⟨s', e, hB⟩ := ih { s with given := s.given + 1, leases := s.leases ++ [⟨s.given + 1, (nth K0 s.things 0).sum, s.now + 5⟩] } (by simp; omega) (by simp; omega) h0 hT ⟨B.nT, B.nP, by simp; omega, B.t, B.nm, ⟨hi.1, hi.2.1, by simp only; omega, hi.2.2.2⟩⟩ (by simp only; omega) hn
    refine ⟨s', ?_, hB⟩
    simp only at e
    rw [← zfm] at e
    rw [eq6_13, mostE]
    simp (disch := omega) only [push_cast]
    exact e
theorem any_9 {b : Rw} (p : Int) : ∀ (m : Nat) (i : Nat) (s : State), 100 - s.pins.length = m → s.pins.length ≤ 100 → i ≤ s.pins.length → 0 < s.things.length → s.things.length ≤ 1000 → BS s →
    ∃ s' : State, Lq6 (some 9) [.i 4, .i (i : Int), .l b, .i p, .i 0, .i 0, .i 0, .i 0, .i s.width, .i s.now, .i s.given, .i s.births, .l (encK s.things), .l [], .l [], .l [], .l (encP s.pins), .l (encL s.leases)] = some (anO s' b p) ∧ BS s' := by
  intro m
  induction m with
  | zero =>
    intro i s hm hl hi h0 hT B
    refine ⟨s, ?_, B⟩
    rw [eq6_9]; simp (disch := omega) only [push_cast]; rfl
  | succ m ih =>
    intro i s hm hl hi h0 hT B
    obtain ⟨nm, hnm⟩ : ∃ nm : Bs, nm = (⟨#[122]⟩ : ByteArray) ++ (bytesOf ([[.i (IntKind.u8.wrap (IntKind.i64.wrap (48 + (IntKind.i64.wrap ((i : Int).tdiv 10)))))], [.i (IntKind.u8.wrap (IntKind.i64.wrap (48 + ((i : Int).tmod 10))))]] : Rw)) := ⟨_, rfl⟩
    have hz : nm.size = 3 := by rw [hnm, z7, zb2]; rfl
    have hz2 : (bytesOf ([[.i (IntKind.u8.wrap (IntKind.i64.wrap (48 + (IntKind.i64.wrap ((i : Int).tdiv 10)))))], [.i (IntKind.u8.wrap (IntKind.i64.wrap (48 + ((i : Int).tmod 10))))]] : Rw)).size = 2 := by rw [zb2]; rfl
    obtain ⟨s', e, hB⟩ := ih (i + 1) { s with pins := s.pins ++ [⟨nm, (nth K0 s.things 0).sum⟩] } (by simp; omega) (by simp; omega) (by simp; omega) h0 hT ⟨B.nT, by simp; omega, B.nL, B.t, fun q hq => by
      rcases List.mem_append.1 hq with h1 | h1
      · exact B.nm q h1
      · rw [List.mem_singleton] at h1; rw [h1]; simp only; omega, B.ints⟩
    refine ⟨s', ?_, hB⟩
    simp only at e
    rw [← zcm] at e
    have h1 : (⟨#[122]⟩ : ByteArray).size = 1 := rfl
    rw [eq6_9, mostE, ← hnm, hz2, h1]
    simp (disch := omega) only [push_cast]
    exact e
theorem zo3 {b : Rw} (hb : RB b) (p : Int) (hp : 0 ≤ p ∧ p ≤ 800000000) : ∃ (s : State) (p' : Int), Lq6 none [.l b, .i p] = some (anO s b p') ∧ p ≤ p' ∧ p' ≤ p + 1000 ∧ BS s := by
  obtain ⟨v, p1, e1, h1, h2, hg, _⟩ := zql hb p (by omega)
  obtain ⟨c, ec, rc, sc⟩ := zm hb 20 (by omega) p1 (by omega)
  have B := hg.gs.bs
  obtain ⟨n1, n2, n3, _⟩ := hg.gs.th
  obtain ⟨j1, j2, j3, j4⟩ := hg.gs.now
  unfold vA vB at e1
  simp only [List.cons_append, List.nil_append] at e1
  rw [eq6_i, e1]
  by_cases c0 : c < 3
  · obtain ⟨s', p', e, h3, h4, hB, _⟩ := zqj hb hg.gs (p1 + 1) (by omega)
    refine ⟨s', p', ?_, by omega, by omega, hB⟩
    have e' : Lqcn none [.i v.st.width, .i v.st.now, .i v.st.given, .i v.st.births, .l (encK v.st.things), .l (encP v.st.pins), .l (encL v.st.leases), .l b, .i (p1 + 1)] = _ := e
    unfold spO at e'
    simp (disch := omega) only [push_cast, ec, e']; rfl
  by_cases c3 : c = 3
  · obtain ⟨y, ey, ry, sy⟩ := zm hb 30 (by omega) (p1 + 1) (by omega)
    obtain ⟨z, ez, rz, sz⟩ := zm hb 2 (by omega) (p1 + 1 + 1) (by omega)
    obtain ⟨n, hn⟩ : ∃ n : Nat, 20 + y = n := ⟨(20 + y).toNat, by omega⟩
    obtain ⟨T', e, h3, h4⟩ := zh2 n (by omega) (decide (z = 0))
    refine ⟨⟨8, 0, 0, (n : Int), T', [], []⟩, p1 + 1 + 1 + 1, ?_, by omega, by omega, ⟨by simp only; omega, Nat.zero_le _, Nat.zero_le _, fun k hk2 => (h4 k hk2).size', (fun q hq => nomatch hq), by simp only; omega⟩⟩
    simp (disch := omega) only [push_cast, ec, ey, ez, hn, e]; rfl
  by_cases c4 : c = 4
  · by_cases h0 : 0 < v.st.things.length
    · obtain ⟨s', e, hB⟩ := any_9 (b := b) (p1 + 1) (100 - v.st.pins.length) 0 v.st rfl n2 (Nat.zero_le _) h0 (by omega) B
      refine ⟨s', p1 + 1, ?_, by omega, by omega, hB⟩
      rw [c4] at ec
      simp (disch := omega) only [push_cast, ec]
      exact e
    · refine ⟨v.st, p1 + 1, ?_, by omega, by omega, B⟩
      simp (disch := omega) only [push_cast, ec]; rfl
  by_cases c5 : c = 5
  · by_cases h0 : 0 < v.st.things.length
    · obtain ⟨s', e, hB⟩ := zl4 (b := b) (p1 + 1) (200 - v.st.leases.length) v.st rfl n3 h0 (by omega) B (by omega) (by omega)
      refine ⟨s', p1 + 1, ?_, by omega, by omega, hB⟩
      simp (disch := omega) only [push_cast, ec]
      exact e
    · refine ⟨v.st, p1 + 1, ?_, by omega, by omega, B⟩
      simp (disch := omega) only [push_cast, ec]; rfl
  · refine ⟨v.st, p1 + 1, ?_, by omega, by omega, B⟩
    simp (disch := omega) only [push_cast, ec]; rfl
theorem znu {c : Rw} (hc : ∀ i, 0 ≤ (rd c i 0).int ∧ (rd c i 0).int ≤ 255) : ∃ s : State, Lqcx none [.l c] = some (encSt s) ∧ BS s := by
  obtain ⟨b, hop, hb⟩ := znm hc
  obtain ⟨s, p', e, _, _, hB⟩ := zo3 hb 0 (by omega)
  refine ⟨s, ?_, hB⟩
  unfold anO at e
  rw [eqcx_i, hop]
  simp (disch := omega) only [push_cast, e]; rfl
end KV
end
section
namespace KV
open Go Go.Eng
open Classical
theorem zfr {α : Type} (d : α) {R : α → α → Prop} (tr : ∀ a b c, R a b → R b c → R a c) (l : List α) : l.Pairwise R ↔ ∀ j, 0 < j → j < l.length → R (nth d l (j - 1)) (nth d l j) := by
  constructor
  · intro h j h1 h2; exact zes d h (by omega) h2
  · intro h
    rw [List.pairwise_iff_getElem]
    intro i j hi hj hij
    rw [← zj d l i hi, ← zj d l j hj]
    have : ∀ k, i + k + 1 < l.length → R (nth d l i) (nth d l (i + k + 1)) := by
      intro k
      induction k with
      | zero => intro hk; have := h (i + 1) (by omega) hk; rwa [Nat.add_sub_cancel] at this
      | succ k ih => intro hk; exact tr _ _ _ (ih (by omega)) (by have := h (i + (k + 1) + 1) (by omega) hk; rwa [Nat.add_sub_cancel] at this)
    have := this (j - i - 1) (by omega)
    rwa [show i + (j - i - 1) + 1 = j by omega] at this
def setI (ks : List Int) : List (C × C) := ks.map fun k => (.i k, .b true)
theorem ceq_i (k : IntKind) (x y : Int) : ceq (.i k) (.i x) (.i y) = decide (x = y) := by
  show (x == y) = _
  by_cases h : x = y
  · subst h; simp
  · simp [h]
theorem zia (x : Int) : ∀ ks : List Int, mget (.i .i64) (.i x) (setI ks) = if x ∈ ks then some (.b true) else none
  | [] => by simp [setI, mget]
  | k :: ks => by
    show cond (ceq (.i .i64) (.i x) (.i k)) (some (.b true)) (mget (.i .i64) (.i x) (setI ks)) = _
    rw [ceq_i, zia x ks]
    by_cases h : x = k
    · subst h; simp
    · simp [h]
theorem zgd (x : Int) : ∀ ks : List Int, x ∉ ks → mput (.i .i64) (.i x) (.b true) (setI ks) = setI (ks ++ [x])
  | [], _ => by simp [setI, mput]
  | k :: ks, h => by
    show cond (ceq (.i .i64) (.i x) (.i k)) _ _ = _
    rw [ceq_i, decide_eq_false (fun e => h (by rw [e]; simp)), cond_false]
    show (C.i k, C.b true) :: mput (.i .i64) (.i x) (.b true) (setI ks) = _
    rw [zgd x ks (fun e => h (by simp [e]))]; rfl
theorem inI (x : Int) (ks : List Int) : (((mget (.i .i64) (.i x) (setI ks)).getD (.b false)).bool) = decide (x ∈ ks) := by
  rw [zia]
  by_cases h : x ∈ ks
  · rw [if_pos h, decide_eq_true h]; rfl
  · rw [if_neg h, decide_eq_false h]; rfl
def bsT (T : List Kept) (i : Nat) : List Int := (T.take i).map (·.born)
theorem bsT_S (T : List Kept) (i : Nat) (h : i < T.length) : bsT T (i + 1) = bsT T i ++ [(nth K0 T i).born] := by
  unfold bsT
  rw [zj K0 T i h, List.take_add_one, List.map_append, List.getElem?_eq_getElem h]; rfl
structure tP (w births : Int) (T : List Kept) (j : Nat) : Prop where
  adj : 0 < j → slt (nth K0 T (j - 1)).sum (nth K0 T j).sum = true
  ok : ThingOk (nth K0 T j).thing w
  sum : (nth K0 T j).sum = sumM (formM (nth K0 T j).thing) w
  lo : 1 ≤ (nth K0 T j).born
  hi : (nth K0 T j).born ≤ births
  new : (nth K0 T j).born ∉ bsT T j
theorem zpz (T : List Kept) : (T.map (·.born)).Nodup ↔ ∀ j, 0 ≤ j → j < T.length → (nth K0 T j).born ∉ bsT T j := by
  constructor
  · intro h j _ hj hm
    obtain ⟨a, ha, he⟩ := List.mem_map.1 hm
    obtain ⟨i, hi, rfl⟩ := List.mem_iff_getElem.1 ha
    rw [List.length_take] at hi
    rw [List.getElem_take] at he
    have := List.pairwise_iff_getElem.1 h i j (by rw [List.length_map]; omega) (by rw [List.length_map]; omega) (by omega)
    rw [List.getElem_map, List.getElem_map] at this
    rw [zj K0 T j hj] at he
    exact this he
  · intro h
    rw [List.Nodup, List.pairwise_iff_getElem]
    intro i j hi hj hij he
    rw [List.length_map] at hi hj
    rw [List.getElem_map, List.getElem_map] at he
    apply h j (Nat.zero_le _) hj
    rw [zj K0 T j hj, ← he]
    exact List.mem_map.2 ⟨_, List.mem_take_iff_getElem.2 ⟨i, by omega, rfl⟩, rfl⟩
theorem zgz (w births : Int) (T : List Kept) : (∀ j, 0 ≤ j → j < T.length → tP w births T j) ↔ SrtK T ∧ (∀ k ∈ T, ThingOk k.thing w ∧ k.sum = sumM (formM k.thing) w ∧ 1 ≤ k.born ∧ k.born ≤ births) ∧ (T.map (·.born)).Nodup := by
  rw [zpz, show SrtK T ↔ _ from zfr K0 (R := fun a b => slt a.sum b.sum = true) (fun a b c h1 h2 => zbh h1 h2) T]
  constructor
  · intro h
    refine ⟨fun j h1 h2 => (h j (by omega) h2).adj h1, fun k hk => ?_, fun j h1 h2 => (h j h1 h2).new⟩
    obtain ⟨j, hj, rfl⟩ := z8 K0 hk
    have := h j (Nat.zero_le _) hj
    exact ⟨this.ok, this.sum, this.lo, this.hi⟩
  · rintro ⟨h1, h2, h3⟩ j h4 h5
    have := h2 _ (zh (d := K0) h5)
    exact ⟨fun h => h1 j h h5, this.1, this.2.1, this.2.2.1, this.2.2.2, h3 j h4 h5⟩
def refIn (T : List Kept) (b : Int) (r : Bs) : Prop := hasT T r ∧ (nth K0 T (lb (qK r) T)).born < b
theorem zjy {T : List Kept} (h : SrtK T) (b : Int) (r : Bs) : refIn T b r ↔ ∃ j ∈ T, j.sum = r ∧ j.born < b := by
  constructor
  · rintro ⟨h1, h2⟩
    obtain ⟨h3, h4⟩ := (zbv h r).1 h1
    exact ⟨_, zh h3, h4, h2⟩
  · rintro ⟨k, hk, rfl, hb⟩
    obtain ⟨j, hj, rfl⟩ := z8 K0 hk
    have := zcx K0 h (kp (nth K0 T j).sum) (kR (nth K0 T j).sum) hj rfl
    refine ⟨⟨_, zh hj, rfl⟩, ?_⟩
    rw [← this]; exact hb
structure pP (T : List Kept) (P : List Pin) (j : Nat) : Prop where
  has : hasT T (nth P0 P j).sum
  nm : NameOk (nth P0 P j).name
  adj : 0 < j → slt (nth P0 P (j - 1)).name (nth P0 P j).name = true
theorem zo6 (T : List Kept) (P : List Pin) : (∀ j, 0 ≤ j → j < P.length → pP T P j) ↔ SrtP P ∧ ∀ p ∈ P, NameOk p.name ∧ hasT T p.sum := by
  rw [show SrtP P ↔ _ from zfr P0 (R := fun a b => slt a.name b.name = true) (fun a b c h1 h2 => zbh h1 h2) P]
  constructor
  · intro h
    refine ⟨fun j h1 h2 => (h j (by omega) h2).adj h1, fun k hk => ?_⟩
    obtain ⟨j, hj, rfl⟩ := z8 P0 hk
    have := h j (Nat.zero_le _) hj
    exact ⟨this.nm, this.has⟩
  · rintro ⟨h1, h2⟩ j h4 h5
    have := h2 _ (zh (d := P0) h5)
    exact ⟨this.2, this.1, fun h => h1 j h h5⟩
structure lP (now given : Int) (T : List Kept) (L : List Lease) (j : Nat) : Prop where
  has : hasT T (nth L0 L j).sum
  lo : 1 ≤ (nth L0 L j).number
  hi : (nth L0 L j).number ≤ given
  adj : 0 < j → (nth L0 L (j - 1)).number < (nth L0 L j).number
  t1 : now < (nth L0 L j).till
  t2 : (nth L0 L j).till ≤ now + 100000
theorem zr3 (now given : Int) (T : List Kept) (L : List Lease) : (∀ j, 0 ≤ j → j < L.length → lP now given T L j) ↔ SrtL L ∧ ∀ l ∈ L, 1 ≤ l.number ∧ l.number ≤ given ∧ hasT T l.sum ∧ now < l.till ∧ l.till ≤ now + 100000 := by
  rw [show SrtL L ↔ _ from zfr L0 (R := fun a b => a.number < b.number) (fun a b c h1 h2 => Int.lt_trans h1 h2) L]
  constructor
  · intro h
    refine ⟨fun j h1 h2 => (h j (by omega) h2).adj h1, fun k hk => ?_⟩
    obtain ⟨j, hj, rfl⟩ := z8 L0 hk
    have := h j (Nat.zero_le _) hj
    exact ⟨this.lo, this.hi, this.has, this.t1, this.t2⟩
  · rintro ⟨h1, h2⟩ j h4 h5
    have := h2 _ (zh (d := L0) h5)
    exact ⟨this.2.2.1, this.1, this.2.1, fun h => h1 j h h5, this.2.2.2.1, this.2.2.2.2⟩
theorem zkl (s : State) : VS s ↔ (1 ≤ s.width ∧ s.width ≤ 8) ∧ (0 ≤ s.now ∧ s.now ≤ 1000000000) ∧ (0 ≤ s.given ∧ s.given ≤ 1000000000) ∧ (0 ≤ s.births ∧ s.births ≤ 1000000000) ∧ s.things.length ≤ 600 ∧ s.pins.length ≤ 100 ∧ s.leases.length ≤ 200 ∧
    (∀ j, 0 ≤ j → j < s.things.length → tP s.width s.births s.things j) ∧ (∀ j, 0 ≤ j → j < s.things.length → ∀ i, 0 ≤ i → i < (nth K0 s.things j).thing.refs.length → refIn s.things (nth K0 s.things j).born (nth .empty (nth K0 s.things j).thing.refs i)) ∧
    (∀ j, 0 ≤ j → j < s.pins.length → pP s.things s.pins j) ∧ (∀ j, 0 ≤ j → j < s.leases.length → lP s.now s.given s.things s.leases j) := by
  rw [zgz, zo6, zr3]
  constructor
  · intro V
    refine ⟨V.wd, V.now, V.given, V.births, V.nT, V.nP, V.nL, ⟨V.srtT, V.okT, V.ndT⟩, fun j _ hj i _ hi => (zjy V.srtT _ _).2 (V.refs _ (zh hj) _ (zh hi)), ⟨V.srtP, V.okP⟩, ⟨V.srtL, V.okL⟩⟩
  · rintro ⟨a, b, c, d, e, f, g, ⟨h1, h2, h3⟩, i, ⟨j1, j2⟩, ⟨k1, k2⟩⟩
    refine ⟨a, b, c, d, e, f, g, h1, h2, h3, fun k hk r hr => ?_, j1, j2, k1, k2⟩
    obtain ⟨m, hm, rfl⟩ := z8 K0 hk
    obtain ⟨n, hn, rfl⟩ := z8 .empty hr
    exact (zjy h1 _ _).1 (i m (Nat.zero_le _) hm n (Nat.zero_le _) hn)
section
variable {s : State}
theorem zr7 (hn : 0 ≤ s.now ∧ s.now ≤ 1000000000) (hT : SrtK s.things) (nT : s.things.length ≤ 600) (nL : s.leases.length ≤ 200) : Lqa (some 30) [.l (encL s.leases), .i (s.leases.length : Int), .i 0, .i s.width, .i s.now, .i s.given, .i s.births, .l (encK s.things), .l (encP s.pins), .l (encL s.leases)]
    = if (∀ j, 0 ≤ j → j < s.leases.length → lP s.now s.given s.things s.leases j) then some [.b true] else some [.b false] := by
  refine zt (f := fun i : Nat => Lqa (some 30) [.l (encL s.leases), .i (s.leases.length : Int), .i (i : Int), .i s.width, .i s.now, .i s.given, .i s.births, .l (encK s.things), .l (encP s.pins), .l (encL s.leases)]) (fun i hi => ?_) ?_ 0 (Nat.zero_le _)
  · show (_ → Lqa _ _ = Lqa _ _) ∧ (_ → Lqa _ _ = _)
    rw [eqa_30]
    simp (disch := omega) only [push_cast, zd5 s.width s.now s.given s.births s.things (encP s.pins) (encL s.leases) (nth L0 s.leases i).sum hT (by omega)]
    by_cases c1 : hasT s.things (nth L0 s.leases i).sum
    rotate_left; · exact ⟨fun h => absurd h.has c1, fun _ => by simp (disch := omega) only [push_cast]⟩
    by_cases c2 : 1 ≤ (nth L0 s.leases i).number
    rotate_left; · exact ⟨fun h => absurd h.lo c2, fun _ => by simp (disch := omega) only [push_cast]⟩
    by_cases c3 : (nth L0 s.leases i).number ≤ s.given
    rotate_left; · exact ⟨fun h => absurd h.hi c3, fun _ => by simp (disch := omega) only [push_cast]⟩
    by_cases c0 : 0 < i
    · by_cases c4 : (nth L0 s.leases (i - 1)).number < (nth L0 s.leases i).number
      rotate_left; · exact ⟨fun h => absurd (h.adj c0) c4, fun _ => by simp (disch := omega) only [push_cast]⟩
      by_cases c5 : s.now < (nth L0 s.leases i).till
      rotate_left; · exact ⟨fun h => absurd h.t1 c5, fun _ => by simp (disch := omega) only [push_cast]⟩
      by_cases c6 : (nth L0 s.leases i).till ≤ s.now + 100000
      rotate_left; · exact ⟨fun h => absurd h.t2 c6, fun _ => by simp (disch := omega) only [push_cast]⟩
      exact ⟨fun _ => by simp (disch := omega) only [push_cast] <;> rfl, fun h => absurd ⟨c1, c2, c3, fun _ => c4, c5, c6⟩ h⟩
    · by_cases c5 : s.now < (nth L0 s.leases i).till
      rotate_left; · exact ⟨fun h => absurd h.t1 c5, fun _ => by simp (disch := omega) only [push_cast]⟩
      by_cases c6 : (nth L0 s.leases i).till ≤ s.now + 100000
      rotate_left; · exact ⟨fun h => absurd h.t2 c6, fun _ => by simp (disch := omega) only [push_cast]⟩
      exact ⟨fun _ => by simp (disch := omega) only [push_cast] <;> rfl, fun h => absurd ⟨c1, c2, c3, fun h => absurd h c0, c5, c6⟩ h⟩
  · show Lqa _ _ = _
    rw [eqa_30]; simp (disch := omega) only [push_cast]
theorem zr9 (hT : SrtK s.things) (nT : s.things.length ≤ 600) (nP : s.pins.length ≤ 100) (hN : ∀ p ∈ s.pins, p.name.size ≤ 4611686018427387904) : Lqa (some 23) [.l (encP s.pins), .i (s.pins.length : Int), .i 0, .i s.width, .i s.now, .i s.given, .i s.births, .l (encK s.things), .l (encP s.pins), .l (encL s.leases)]
    = if (∀ j, 0 ≤ j → j < s.pins.length → pP s.things s.pins j) then Lqa (some 30) [.l (encL s.leases), .i (s.leases.length : Int), .i 0, .i s.width, .i s.now, .i s.given, .i s.births, .l (encK s.things), .l (encP s.pins), .l (encL s.leases)] else some [.b false] := by
  refine zt (f := fun i : Nat => Lqa (some 23) [.l (encP s.pins), .i (s.pins.length : Int), .i (i : Int), .i s.width, .i s.now, .i s.given, .i s.births, .l (encK s.things), .l (encP s.pins), .l (encL s.leases)]) (fun i hi => ?_) ?_ 0 (Nat.zero_le _)
  · show (_ → Lqa _ _ = Lqa _ _) ∧ (_ → Lqa _ _ = _)
    rw [eqa_23]
    simp (disch := omega) only [push_cast, zd5 s.width s.now s.given s.births s.things (encP s.pins) (encL s.leases) (nth P0 s.pins i).sum hT (by omega), znv (nth P0 s.pins i).name (hN _ (zh hi))]
    by_cases c1 : hasT s.things (nth P0 s.pins i).sum
    rotate_left; · exact ⟨fun h => absurd h.has c1, fun _ => by simp (disch := omega) only [push_cast]⟩
    by_cases c2 : NameOk (nth P0 s.pins i).name
    rotate_left; · exact ⟨fun h => absurd h.nm c2, fun _ => by unfold nameB; simp (disch := omega) only [push_cast]⟩
    unfold nameB
    by_cases c0 : 0 < i
    · cases c4 : slt (nth P0 s.pins (i - 1)).name (nth P0 s.pins i).name
      · exact ⟨fun h => absurd (h.adj c0) (by simp [c4]), fun _ => by simp (disch := omega) only [push_cast, c4]⟩
      · exact ⟨fun _ => by simp (disch := omega) only [push_cast, c4] <;> rfl, fun h => absurd ⟨c1, c2, fun _ => c4⟩ h⟩
    · exact ⟨fun _ => by simp (disch := omega) only [push_cast] <;> rfl, fun h => absurd ⟨c1, c2, fun h => absurd h c0⟩ h⟩
  · show Lqa _ _ = _
    rw [eqa_23]; simp (disch := omega) only [push_cast]
theorem zns (hT : SrtK s.things) (nT : s.things.length ≤ 600) (hR : ∀ k ∈ s.things, k.thing.refs.length ≤ 30) : Lqa (some 12) [.l (encK s.things), .i (s.things.length : Int), .i 0, .i s.width, .i s.now, .i s.given, .i s.births, .l (encK s.things), .l (encP s.pins), .l (encL s.leases)]
    = if (∀ j, 0 ≤ j → j < s.things.length → ∀ i, 0 ≤ i → i < (nth K0 s.things j).thing.refs.length → refIn s.things (nth K0 s.things j).born (nth .empty (nth K0 s.things j).thing.refs i)) then Lqa (some 23) [.l (encP s.pins), .i (s.pins.length : Int), .i 0, .i s.width, .i s.now, .i s.given, .i s.births, .l (encK s.things), .l (encP s.pins), .l (encL s.leases)] else some [.b false] := by
  refine zt (f := fun i : Nat => Lqa (some 12) [.l (encK s.things), .i (s.things.length : Int), .i (i : Int), .i s.width, .i s.now, .i s.given, .i s.births, .l (encK s.things), .l (encP s.pins), .l (encL s.leases)]) (P := fun j => ∀ i, 0 ≤ i → i < (nth K0 s.things j).thing.refs.length → refIn s.things (nth K0 s.things j).born (nth .empty (nth K0 s.things j).thing.refs i)) (fun i hi => ?_) ?_ 0 (Nat.zero_le _)
  · have hr := hR _ (zh (d := K0) hi)
    have inner := zt (f := fun j : Nat => Lqa (some 15) [.l (encK s.things), .i (s.things.length : Int), .i (i : Int), .l (encS (nth K0 s.things i).thing.refs), .i ((nth K0 s.things i).thing.refs.length : Int), .i (j : Int), .i s.width, .i s.now, .i s.given, .i s.births, .l (encK s.things), .l (encP s.pins), .l (encL s.leases), .s (nth K0 s.things i).sum, .i (nth K0 s.things i).born, .s (nth K0 s.things i).thing.text, .l (encS (nth K0 s.things i).thing.refs)])
      (P := fun j => refIn s.things (nth K0 s.things i).born (nth .empty (nth K0 s.things i).thing.refs j)) (n := (nth K0 s.things i).thing.refs.length) (T := Lqa (some 12) [.l (encK s.things), .i (s.things.length : Int), .i ((i + 1 : Nat) : Int), .i s.width, .i s.now, .i s.given, .i s.births, .l (encK s.things), .l (encP s.pins), .l (encL s.leases)]) (F := some [.b false])
      (fun j hj => by
        show (_ → Lqa _ _ = Lqa _ _) ∧ (_ → Lqa _ _ = _)
        rw [eqa_15]
        simp (disch := omega) only [push_cast, zd5 s.width s.now s.given s.births s.things (encP s.pins) (encL s.leases) (nth .empty (nth K0 s.things i).thing.refs j) hT (by omega)]
        by_cases c1 : hasT s.things (nth .empty (nth K0 s.things i).thing.refs j)
        rotate_left; · exact ⟨fun h => absurd h.1 c1, fun _ => by simp (disch := omega) only [push_cast]⟩
        have hl := ((zbv hT _).1 c1).1
        by_cases c2 : (nth K0 s.things (lb (qK (nth .empty (nth K0 s.things i).thing.refs j)) s.things)).born < (nth K0 s.things i).born
        rotate_left; · exact ⟨fun h => absurd h.2 c2, fun _ => by simp (disch := omega) only [push_cast]⟩
        exact ⟨fun _ => by simp (disch := omega) only [push_cast] <;> rfl, fun h => absurd ⟨c1, c2⟩ h⟩)
      (by show Lqa _ _ = Lqa _ _; rw [eqa_15]; simp (disch := omega) only [push_cast] <;> rfl) 0 (Nat.zero_le _)
    show (_ → Lqa _ _ = Lqa _ _) ∧ (_ → Lqa _ _ = _)
    rw [eqa_12]
    simp (disch := omega) only [push_cast]
    have inner' : Lqa (some 15) [.l (encK s.things), .i (s.things.length : Int), .i (i : Int), .l (encS (nth K0 s.things i).thing.refs), .i ((nth K0 s.things i).thing.refs.length : Int), .i 0, .i s.width, .i s.now, .i s.given, .i s.births, .l (encK s.things), .l (encP s.pins), .l (encL s.leases), .s (nth K0 s.things i).sum, .i (nth K0 s.things i).born, .s (nth K0 s.things i).thing.text, .l (encS (nth K0 s.things i).thing.refs)] = _ := inner
    rw [inner']
    exact ⟨fun h => if_pos h, fun h => if_neg h⟩
  · show Lqa _ _ = _
    rw [eqa_12]; simp (disch := omega) only [push_cast]
theorem ivs_5 (nT : s.things.length ≤ 600) : Lqa (some 5) [.l (encK s.things), .i (s.things.length : Int), .i 0, .i s.width, .i s.now, .i s.given, .i s.births, .l (encK s.things), .l (encP s.pins), .l (encL s.leases), .m []]
    = if (∀ j, 0 ≤ j → j < s.things.length → tP s.width s.births s.things j) then Lqa (some 12) [.l (encK s.things), .i (s.things.length : Int), .i 0, .i s.width, .i s.now, .i s.given, .i s.births, .l (encK s.things), .l (encP s.pins), .l (encL s.leases)] else some [.b false] := by
  refine zt (f := fun i : Nat => Lqa (some 5) [.l (encK s.things), .i (s.things.length : Int), .i (i : Int), .i s.width, .i s.now, .i s.given, .i s.births, .l (encK s.things), .l (encP s.pins), .l (encL s.leases), .m (setI (bsT s.things i))]) (fun i hi => ?_) ?_ 0 (Nat.zero_le _)
  · show (_ → Lqa _ _ = Lqa _ _) ∧ (_ → Lqa _ _ = _)
    rw [eqa_5, bsT_S _ _ hi]
    by_cases c1 : ThingOk (nth K0 s.things i).thing s.width
    rotate_left
    · refine ⟨fun h => absurd h.ok c1, fun _ => ?_⟩
      have : zy (nth K0 s.things i).thing s.width = false := decide_eq_false c1
      by_cases c0 : 0 < i
      · cases c4 : slt (nth K0 s.things (i - 1)).sum (nth K0 s.things i).sum <;> simp (disch := omega) only [push_cast, zbq, c4, this]
      · simp (disch := omega) only [push_cast, zbq, this]
    have ht : zy (nth K0 s.things i).thing s.width = true := decide_eq_true c1
    have hz : (formM (nth K0 s.things i).thing).size ≤ 1099511627776 := by
      rw [zbo]; have := zbk c1; omega
    by_cases c2 : (nth K0 s.things i).sum = sumM (formM (nth K0 s.things i).thing) s.width
    rotate_left
    · refine ⟨fun h => absurd h.sum c2, fun _ => ?_⟩
      by_cases c0 : 0 < i
      · cases c4 : slt (nth K0 s.things (i - 1)).sum (nth K0 s.things i).sum <;> simp (disch := omega) only [push_cast, zbq, c4, ht, zbz c1, zbw _ s.width hz]
      · simp (disch := omega) only [push_cast, zbq, ht, zbz c1, zbw _ s.width hz]
    by_cases c3 : 1 ≤ (nth K0 s.things i).born
    rotate_left
    · refine ⟨fun h => absurd h.lo c3, fun _ => ?_⟩
      by_cases c0 : 0 < i
      · cases c4 : slt (nth K0 s.things (i - 1)).sum (nth K0 s.things i).sum <;> simp (disch := omega) only [push_cast, zbq, c4, ht, zbz c1, zbw _ s.width hz]
      · simp (disch := omega) only [push_cast, zbq, ht, zbz c1, zbw _ s.width hz]
    by_cases c5 : (nth K0 s.things i).born ≤ s.births
    rotate_left
    · refine ⟨fun h => absurd h.hi c5, fun _ => ?_⟩
      by_cases c0 : 0 < i
      · cases c4 : slt (nth K0 s.things (i - 1)).sum (nth K0 s.things i).sum <;> simp (disch := omega) only [push_cast, zbq, c4, ht, zbz c1, zbw _ s.width hz]
      · simp (disch := omega) only [push_cast, zbq, ht, zbz c1, zbw _ s.width hz]
    by_cases c6 : (nth K0 s.things i).born ∈ bsT s.things i
    · refine ⟨fun h => absurd c6 h.new, fun _ => ?_⟩
      by_cases c0 : 0 < i
      · cases c4 : slt (nth K0 s.things (i - 1)).sum (nth K0 s.things i).sum <;> simp (disch := omega) only [push_cast, zbq, c4, ht, zbz c1, zbw _ s.width hz, inI]
      · simp (disch := omega) only [push_cast, zbq, ht, zbz c1, zbw _ s.width hz, inI]
    by_cases c0 : 0 < i
    · cases c4 : slt (nth K0 s.things (i - 1)).sum (nth K0 s.things i).sum
      · exact ⟨fun h => absurd (h.adj c0) (by simp [c4]), fun _ => by simp (disch := omega) only [push_cast, c4]⟩
      · exact ⟨fun _ => by simp (disch := omega) only [push_cast, zbq, c4, ht, zbz c1, zbw _ s.width hz, ← c2, inI, zgd _ _ c6] <;> rfl, fun h => absurd ⟨fun _ => c4, c1, c2, c3, c5, c6⟩ h⟩
    · exact ⟨fun _ => by simp (disch := omega) only [push_cast, zbq, ht, zbz c1, zbw _ s.width hz, ← c2, inI, zgd _ _ c6] <;> rfl, fun h => absurd ⟨fun h => absurd h c0, c1, c2, c3, c5, c6⟩ h⟩
  · show Lqa _ _ = _
    rw [eqa_5]; simp (disch := omega) only [push_cast]
theorem zdx (s : State) (hN : ∀ p ∈ s.pins, p.name.size ≤ 4611686018427387904) : Lqa none (encSt s) = some [.b (decide (VS s))] := by
  unfold encSt
  rw [eqa_i]
  have hv := zkl s
  by_cases h1 : 1 ≤ s.width ∧ s.width ≤ 8
  rotate_left; · rw [decide_eq_false fun V : VS s => h1 V.wd]; have : zk s.width = false := by cases h : zk s.width; { rfl }; { exact absurd (zw.1 h) h1 }
                 simp (disch := omega) only [push_cast, zb0, this]
  have hw : zk s.width = true := zw.2 h1
  by_cases h2 : 0 ≤ s.now ∧ s.now ≤ 1000000000
  rotate_left; · rw [decide_eq_false fun V : VS s => h2 V.now]; simp (disch := omega) only [push_cast, zb0, hw, zcv]
  by_cases h3 : 0 ≤ s.given ∧ s.given ≤ 1000000000
  rotate_left; · rw [decide_eq_false fun V : VS s => h3 V.given]; simp (disch := omega) only [push_cast, zb0, hw, zcv]
  by_cases h4 : 0 ≤ s.births ∧ s.births ≤ 1000000000
  rotate_left; · rw [decide_eq_false fun V : VS s => h4 V.births]; simp (disch := omega) only [push_cast, zb0, hw, zcv]
  by_cases h5 : s.things.length ≤ 600
  rotate_left; · rw [decide_eq_false fun V : VS s => h5 V.nT]; simp (disch := omega) only [push_cast, zb0, hw, zcv]
  by_cases h6 : s.pins.length ≤ 100
  rotate_left; · rw [decide_eq_false fun V : VS s => h6 V.nP]; simp (disch := omega) only [push_cast, zb0, hw, zcv]
  by_cases h7 : s.leases.length ≤ 200
  rotate_left; · rw [decide_eq_false fun V : VS s => h7 V.nL]; simp (disch := omega) only [push_cast, zb0, hw, zcv]
  simp (disch := omega) only [push_cast, zb0, hw, zcv, ivs_5 h5]
  by_cases h8 : ∀ j, 0 ≤ j → j < s.things.length → tP s.width s.births s.things j
  rotate_left; · rw [if_neg h8, decide_eq_false fun V : VS s => h8 (hv.1 V).2.2.2.2.2.2.2.1]
  have hs := (zgz _ _ _).1 h8
  rw [if_pos h8, zns hs.1 h5 fun k hk => (hs.2.1 k hk).1.refs]
  by_cases h9 : ∀ j, 0 ≤ j → j < s.things.length → ∀ i, 0 ≤ i → i < (nth K0 s.things j).thing.refs.length → refIn s.things (nth K0 s.things j).born (nth .empty (nth K0 s.things j).thing.refs i)
  rotate_left; · rw [if_neg h9, decide_eq_false fun V : VS s => h9 (hv.1 V).2.2.2.2.2.2.2.2.1]
  rw [if_pos h9, zr9 hs.1 h5 h6 hN]
  by_cases h10 : ∀ j, 0 ≤ j → j < s.pins.length → pP s.things s.pins j
  rotate_left; · rw [if_neg h10, decide_eq_false fun V : VS s => h10 (hv.1 V).2.2.2.2.2.2.2.2.2.1]
  rw [if_pos h10, zr7 h2 hs.1 h5 h7]
  by_cases h11 : ∀ j, 0 ≤ j → j < s.leases.length → lP s.now s.given s.things s.leases j
  rotate_left; · rw [if_neg h11, decide_eq_false fun V : VS s => h11 (hv.1 V).2.2.2.2.2.2.2.2.2.2]
  rw [if_pos h11, decide_eq_true (hv.2 ⟨h1, h2, h3, h4, h5, h6, h7, h8, h9, h10, h11⟩)]
end
theorem VS.names {s : State} (V : VS s) : ∀ p ∈ s.pins, p.name.size ≤ 4611686018427387904 := fun p hp => by have := (V.okP p hp).1.hi; omega
end KV
end
section
namespace KV
open Go Go.Eng
open Classical
noncomputable def near (T : List Kept) (i : Nat) : Rw := (List.range 601).map fun b : Nat => [.b (decide ((b : Int) ∈ bsT T i))]
def farL (T : List Kept) (i : Nat) : List Int := (bsT T i).filter fun b => decide (600 < b)
def encN (l : List Int) : Rw := l.map fun n => [.i n]
@[push_cast] theorem zsr (l : List Int) : (encN l).length = l.length := by simp [encN]
@[push_cast] theorem zss (l : List Int) (i : Nat) : (rd (encN l) i 0).int = nth 0 l i := by
  rcases Nat.lt_or_ge i l.length with h | h
  · rw [encN, zgl _ _ _ _ h, zj _ _ _ h]; rfl
  · rw [zj8 _ _ _ h]; unfold encN; rw [zfs _ _ _ _ h]; rfl
@[push_cast] theorem zf4 (T : List Kept) (i : Nat) : (near T i).length = 601 := by simp [near]
theorem zn8 (T : List Kept) (i b : Nat) (h : b ≤ 600) : (rd (near T i) b 0).bool = decide ((b : Int) ∈ bsT T i) := by
  rw [near, zgl _ _ _ _ (by rw [List.length_range]; omega), List.getElem_range]; rfl
theorem zrn (T : List Kept) (i b : Nat) (hi : i < T.length) (h : b ≤ 600) (hb : (nth K0 T i).born = (b : Int)) : wrs (near T i) b 0 [.b true] = near T (i + 1) := by
  have e : (near T i).getD b [] = [.b (decide ((b : Int) ∈ bsT T i))] := by
    unfold near
    rw [List.getD_eq_getElem?_getD, List.getElem?_map, List.getElem?_range (by omega)]; rfl
  have h1 : wrs (near T i) b 0 [.b true] = (near T i).set b [.b true] := by
    unfold wrs wrs wr
    rw [e]; rfl
  rw [h1]
  apply List.ext_getElem?
  intro j
  rw [List.getElem?_set]
  rcases Nat.lt_or_ge j 601 with hj | hj
  · by_cases hjb : b = j
    · subst hjb
      rw [if_pos rfl, if_pos (by rw [zf4]; exact hj)]
      unfold near
      rw [List.getElem?_map, List.getElem?_range hj, Option.map_some, bsT_S _ _ hi, hb]
      simp
    · rw [if_neg hjb]
      unfold near
      rw [List.getElem?_map, List.getElem?_map, List.getElem?_range hj, Option.map_some, Option.map_some, bsT_S _ _ hi, hb]
      have : ((j : Int) ∈ bsT T i) ↔ ((j : Int) ∈ bsT T i ++ [(b : Int)]) := by
        rw [List.mem_append, List.mem_singleton]
        exact ⟨.inl, fun h => h.elim id fun h => absurd (by omega : b = j) hjb⟩
      rw [decide_eq_decide.2 this]
  · rw [if_neg (by omega), List.getElem?_eq_none (by rw [zf4]; exact hj), List.getElem?_eq_none (by rw [zf4]; exact hj)]
theorem far_S (T : List Kept) (i : Nat) (hi : i < T.length) : farL T (i + 1) = farL T i ++ (if 600 < (nth K0 T i).born then [(nth K0 T i).born] else []) := by
  unfold farL
  rw [bsT_S _ _ hi, List.filter_append]
  congr 1
  split
  · rename_i h; simp [h]
  · rename_i h; simp [h]
theorem zpf (T : List Kept) (i : Nat) (hi : i < T.length) (h : 600 < (nth K0 T i).born) : near T (i + 1) = near T i := by
  unfold near
  apply List.map_congr_left
  intro b hb
  rw [List.mem_range] at hb
  rw [bsT_S _ _ hi]
  have : ((b : Int) ∈ bsT T i ++ [(nth K0 T i).born]) ↔ ((b : Int) ∈ bsT T i) := by
    rw [List.mem_append, List.mem_singleton]
    exact ⟨fun h1 => h1.elim id fun h1 => absurd h1 (by omega), .inl⟩
  rw [decide_eq_decide.2 this]
theorem zqs (T : List Kept) (i : Nat) : (farL T i).length ≤ T.length := by
  unfold farL bsT
  refine Nat.le_trans (List.length_filter_le _ _) ?_
  rw [List.length_map, List.length_take]; omega
theorem ziw (T : List Kept) (i : Nat) {b : Int} (h : 600 < b) : b ∈ farL T i ↔ b ∈ bsT T i := by
  unfold farL; rw [List.mem_filter]; simp [h]
section
variable {s : State}
theorem zmq (hT : SrtK s.things) (nT : s.things.length ≤ 600) (hR : ∀ k ∈ s.things, k.thing.refs.length ≤ 30) : Lqb (some 20) [.i 0, .i s.width, .i s.now, .i s.given, .i s.births, .l (encK s.things), .l (encP s.pins), .l (encL s.leases)]
    = if (∀ j, 0 ≤ j → j < s.things.length → ∀ i, 0 ≤ i → i < (nth K0 s.things j).thing.refs.length → refIn s.things (nth K0 s.things j).born (nth .empty (nth K0 s.things j).thing.refs i)) then some [.b true] else some [.b false] := by
  refine zt (f := fun i : Nat => Lqb (some 20) [.i (i : Int), .i s.width, .i s.now, .i s.given, .i s.births, .l (encK s.things), .l (encP s.pins), .l (encL s.leases)]) (P := fun j => ∀ i, 0 ≤ i → i < (nth K0 s.things j).thing.refs.length → refIn s.things (nth K0 s.things j).born (nth .empty (nth K0 s.things j).thing.refs i)) (fun i hi => ?_) ?_ 0 (Nat.zero_le _)
  · have hr := hR _ (zh (d := K0) hi)
    have inner := zt (f := fun j : Nat => Lqb (some 23) [.i (i : Int), .i (j : Int), .i s.width, .i s.now, .i s.given, .i s.births, .l (encK s.things), .l (encP s.pins), .l (encL s.leases)])
      (P := fun j => refIn s.things (nth K0 s.things i).born (nth .empty (nth K0 s.things i).thing.refs j)) (n := (nth K0 s.things i).thing.refs.length) (T := Lqb (some 20) [.i ((i + 1 : Nat) : Int), .i s.width, .i s.now, .i s.given, .i s.births, .l (encK s.things), .l (encP s.pins), .l (encL s.leases)]) (F := some [.b false])
      (fun j hj => by
        show (_ → Lqb _ _ = Lqb _ _) ∧ (_ → Lqb _ _ = _)
        rw [eqb_23]
        have hf := zbe (T := s.things) (x := nth .empty (nth K0 s.things i).thing.refs j)
        simp (disch := omega) only [push_cast, zb6 s.width s.now s.given s.births s.things (encP s.pins) (encL s.leases) (nth .empty (nth K0 s.things i).thing.refs j) hT (by omega)]
        by_cases c1 : hasT s.things (nth .empty (nth K0 s.things i).thing.refs j)
        rotate_left; · exact ⟨fun h => absurd h.1 c1, fun _ => by have := hf.2 c1; simp (disch := omega) only [push_cast]⟩
        have hl := ((zbv hT _).1 c1).1
        have hfi : findT s.things (nth .empty (nth K0 s.things i).thing.refs j) = (lb (qK (nth .empty (nth K0 s.things i).thing.refs j)) s.things : Int) := if_pos c1
        rw [hfi]
        by_cases c2 : (nth K0 s.things (lb (qK (nth .empty (nth K0 s.things i).thing.refs j)) s.things)).born < (nth K0 s.things i).born
        rotate_left; · exact ⟨fun h => absurd h.2 c2, fun _ => by simp (disch := omega) only [push_cast]⟩
        exact ⟨fun _ => by simp (disch := omega) only [push_cast] <;> rfl, fun h => absurd ⟨c1, c2⟩ h⟩)
      (by show Lqb _ _ = Lqb _ _; rw [eqb_23]; simp (disch := omega) only [push_cast] <;> rfl) 0 (Nat.zero_le _)
    show (_ → Lqb _ _ = Lqb _ _) ∧ (_ → Lqb _ _ = _)
    rw [eqb_20]
    simp (disch := omega) only [push_cast]
    have inner' : Lqb (some 23) [.i (i : Int), .i 0, .i s.width, .i s.now, .i s.given, .i s.births, .l (encK s.things), .l (encP s.pins), .l (encL s.leases)] = _ := inner
    rw [inner']
    exact ⟨fun h => if_pos h, fun h => if_neg h⟩
  · show Lqb _ _ = _
    rw [eqb_20]; simp (disch := omega) only [push_cast]
theorem zow (nT : s.things.length ≤ 600) (i : Nat) (hi : i < s.things.length) (l : List Int) (hl : l.length ≤ 1000000) (nrw : Rw) (b : Int) (x y : Bs) (z : Rw) :
    Lqb (some 14) [.i (i : Int), .i 0, .i s.width, .i s.now, .i s.given, .i s.births, .l (encK s.things), .l (encP s.pins), .l (encL s.leases), .l nrw, .l (encN l), .s x, .i b, .s y, .l z] =
      if b ∈ l then some [.b false] else Lqb (some 4) [.i ((i + 1 : Nat) : Int), .i s.width, .i s.now, .i s.given, .i s.births, .l (encK s.things), .l (encP s.pins), .l (encL s.leases), .l nrw, .l (encN (l ++ [b]))] := by
  have := zdc (f := fun j : Nat => Lqb (some 14) [.i (i : Int), .i (j : Int), .i s.width, .i s.now, .i s.given, .i s.births, .l (encK s.things), .l (encP s.pins), .l (encL s.leases), .l nrw, .l (encN l), .s x, .i b, .s y, .l z]) (0 : Int) (l := l) (p := fun r => r = b) (T := some [.b false])
    (E := Lqb (some 4) [.i ((i + 1 : Nat) : Int), .i s.width, .i s.now, .i s.given, .i s.births, .l (encK s.things), .l (encP s.pins), .l (encL s.leases), .l nrw, .l (encN (l ++ [b]))]) (fun j hj => by
    show Lqb _ _ = cond _ _ (Lqb _ _)
    rw [eqb_14, mostE]; simp (disch := omega) only [push_cast]) (by
    show Lqb _ _ = Lqb _ _
    have : encN (l ++ [b]) = encN l ++ [[.i b]] := by simp [encN]
    rw [eqb_14, mostE, this]; simp (disch := omega) only [push_cast])
  refine Eq.trans this ?_
  by_cases h : b ∈ l
  · rw [if_pos h, if_pos ⟨b, h, rfl⟩]
  · rw [if_neg h, if_neg (by rintro ⟨r, hr, rfl⟩; exact h hr)]
theorem sto_4 (nT : s.things.length ≤ 600) (hb : 0 ≤ s.births ∧ s.births ≤ 1000000000) : Lqb (some 4) [.i 0, .i s.width, .i s.now, .i s.given, .i s.births, .l (encK s.things), .l (encP s.pins), .l (encL s.leases), .l (near s.things 0), .l (encN (farL s.things 0))]
    = if (∀ j, 0 ≤ j → j < s.things.length → tP s.width s.births s.things j) then Lqb (some 20) [.i 0, .i s.width, .i s.now, .i s.given, .i s.births, .l (encK s.things), .l (encP s.pins), .l (encL s.leases)] else some [.b false] := by
  refine zt (f := fun i : Nat => Lqb (some 4) [.i (i : Int), .i s.width, .i s.now, .i s.given, .i s.births, .l (encK s.things), .l (encP s.pins), .l (encL s.leases), .l (near s.things i), .l (encN (farL s.things i))]) (fun i hi => ?_) ?_ 0 (Nat.zero_le _)
  · show (_ → Lqb _ _ = Lqb _ _) ∧ (_ → Lqb _ _ = _)
    have hfl := zqs s.things i
    rw [eqb_4]
    by_cases c1 : ThingOk (nth K0 s.things i).thing s.width
    rotate_left
    · refine ⟨fun h => absurd h.ok c1, fun _ => ?_⟩
      have : zy (nth K0 s.things i).thing s.width = false := decide_eq_false c1
      simp (disch := omega) only [push_cast, zce, this]
    have ht : zy (nth K0 s.things i).thing s.width = true := decide_eq_true c1
    have hz : (formM (nth K0 s.things i).thing).size ≤ 1099511627776 := by
      rw [zbo]; have := zbk c1; omega
    have hft : formT (nth K0 s.things i).thing s.width = formM (nth K0 s.things i).thing := if_pos ht
    by_cases c2 : (nth K0 s.things i).sum = sumM (formM (nth K0 s.things i).thing) s.width
    rotate_left
    · refine ⟨fun h => absurd h.sum c2, fun _ => ?_⟩
      simp (disch := omega) only [push_cast, zce, ht, zb8, hft, zck _ s.width hz]
    have tail : ∀ X : Option Lv, X = (Lqs none [.i (nth K0 s.things i).born, .i 1, .i s.births]).bind (fun y4 =>
         cond (!(g y4 0).bool) (some [.b false]) (
         cond (decide ((nth K0 s.things i).born ≤ 600)) (
          cond (inb ((nth K0 s.things i).born) (near s.things i).length) (
           cond ((rd (near s.things i) (((nth K0 s.things i).born).toNat) 0).bool) (some [.b false]) (
            cond (inb ((nth K0 s.things i).born) (near s.things i).length) (
             Lqb (some 4) [.i ((i + 1 : Nat) : Int), .i s.width, .i s.now, .i s.given, .i s.births, .l (encK s.things), .l (encP s.pins), .l (encL s.leases), .l (wrs (near s.things i) (((nth K0 s.things i).born).toNat) 0 ([.b true] : List C)), .l (encN (farL s.things i))]) (none))) (none)) (
          Lqb (some 14) [.i (i : Int), .i 0, .i s.width, .i s.now, .i s.given, .i s.births, .l (encK s.things), .l (encP s.pins), .l (encL s.leases), .l (near s.things i), .l (encN (farL s.things i)), .s (nth K0 s.things i).sum, .i (nth K0 s.things i).born, .s (nth K0 s.things i).thing.text, .l (encS (nth K0 s.things i).thing.refs)]))) →
        (0 < i → slt (nth K0 s.things (i - 1)).sum (nth K0 s.things i).sum = true) →
        (tP s.width s.births s.things i → X = Lqb (some 4) [.i ((i + 1 : Nat) : Int), .i s.width, .i s.now, .i s.given, .i s.births, .l (encK s.things), .l (encP s.pins), .l (encL s.leases), .l (near s.things (i + 1)), .l (encN (farL s.things (i + 1)))]) ∧ (¬ tP s.width s.births s.things i → X = some [.b false]) := by
      rintro X rfl hadj
      by_cases c3 : 1 ≤ (nth K0 s.things i).born ∧ (nth K0 s.things i).born ≤ s.births
      rotate_left; · exact ⟨fun h => absurd ⟨h.lo, h.hi⟩ c3, fun _ => by simp (disch := omega) only [push_cast, zl]⟩
      by_cases c5 : (nth K0 s.things i).born ≤ 600
      · obtain ⟨b, hbb⟩ : ∃ b : Nat, (nth K0 s.things i).born = b := ⟨((nth K0 s.things i).born).toNat, by omega⟩
        have hrd := zn8 s.things i b (by omega)
        by_cases c6 : (nth K0 s.things i).born ∈ bsT s.things i
        · refine ⟨fun h => absurd c6 h.new, fun _ => ?_⟩
          rw [hbb] at c6
          simp (disch := omega) only [push_cast, zl, hbb, hrd, decide_eq_true c6]
        · refine ⟨fun _ => ?_, fun h => absurd ⟨hadj, c1, c2, c3.1, c3.2, c6⟩ h⟩
          have hw := zrn s.things i b hi (by omega) hbb
          rw [far_S _ _ hi, if_neg (by omega), List.append_nil]
          rw [hbb] at c6
          simp (disch := omega) only [push_cast, zl, hbb, hrd, decide_eq_false c6, hw]
      · have h14 := zow nT i hi (farL s.things i) (by omega) (near s.things i) (nth K0 s.things i).born (nth K0 s.things i).sum (nth K0 s.things i).thing.text (encS (nth K0 s.things i).thing.refs)
        by_cases c6 : (nth K0 s.things i).born ∈ bsT s.things i
        · refine ⟨fun h => absurd c6 h.new, fun _ => ?_⟩
          rw [if_pos ((ziw _ _ (by omega)).2 c6)] at h14
          simp (disch := omega) only [push_cast, zl]
          exact h14
        · refine ⟨fun _ => ?_, fun h => absurd ⟨hadj, c1, c2, c3.1, c3.2, c6⟩ h⟩
          rw [if_neg (fun h => c6 ((ziw _ _ (by omega)).1 h))] at h14
          rw [far_S _ _ hi, if_pos (by omega), zpf _ _ hi (by omega)]
          simp (disch := omega) only [push_cast, zl]
          exact h14
    by_cases c0 : 0 < i
    · cases c4 : slt (nth K0 s.things (i - 1)).sum (nth K0 s.things i).sum
      · exact ⟨fun h => absurd (h.adj c0) (by simp [c4]), fun _ => by simp (disch := omega) only [push_cast, zce, ht, zb8, hft, zck _ s.width hz, ← c2, c4]⟩
      · refine tail _ ?_ (fun _ => c4)
        simp (disch := omega) only [push_cast, zce, ht, zb8, hft, zck _ s.width hz, ← c2, c4]
    · refine tail _ ?_ (fun h => absurd h c0)
      simp (disch := omega) only [push_cast, zce, ht, zb8, hft, zck _ s.width hz, ← c2]
  · show Lqb _ _ = _
    rw [eqb_4]; simp (disch := omega) only [push_cast]
theorem zrl (hn : 0 ≤ s.now ∧ s.now ≤ 1000000000) (hT : SrtK s.things) (nT : s.things.length ≤ 600) (nL : s.leases.length ≤ 200) : Lqn (some 11) [.i 0, .i s.width, .i s.now, .i s.given, .i s.births, .l (encK s.things), .l (encP s.pins), .l (encL s.leases)]
    = if (∀ j, 0 ≤ j → j < s.leases.length → lP s.now s.given s.things s.leases j) then some [.b true] else some [.b false] := by
  refine zt (f := fun i : Nat => Lqn (some 11) [.i (i : Int), .i s.width, .i s.now, .i s.given, .i s.births, .l (encK s.things), .l (encP s.pins), .l (encL s.leases)]) (fun i hi => ?_) ?_ 0 (Nat.zero_le _)
  · show (_ → Lqn _ _ = Lqn _ _) ∧ (_ → Lqn _ _ = _)
    rw [eqn_11]
    have hf := zbe (T := s.things) (x := (nth L0 s.leases i).sum)
    have hfe := zb6 s.width s.now s.given s.births s.things (encP s.pins) (encL s.leases) (nth L0 s.leases i).sum hT (by omega)
    by_cases c2 : 1 ≤ (nth L0 s.leases i).number ∧ (nth L0 s.leases i).number ≤ s.given
    rotate_left; · exact ⟨fun h => absurd ⟨h.lo, h.hi⟩ c2, fun _ => by simp (disch := omega) only [push_cast, zl]⟩
    by_cases c0 : 0 < i
    · by_cases c4 : (nth L0 s.leases (i - 1)).number < (nth L0 s.leases i).number
      rotate_left; · exact ⟨fun h => absurd (h.adj c0) c4, fun _ => by simp (disch := omega) only [push_cast, zl]⟩
      by_cases c1 : hasT s.things (nth L0 s.leases i).sum
      rotate_left; · exact ⟨fun h => absurd h.has c1, fun _ => by have := hf.2 c1; simp (disch := omega) only [push_cast, zl, hfe]⟩
      have c1' : ¬ findT s.things (nth L0 s.leases i).sum < 0 := fun h => hf.1 h c1
      by_cases c5 : s.now < (nth L0 s.leases i).till
      rotate_left; · exact ⟨fun h => absurd h.t1 c5, fun _ => by simp (disch := omega) only [push_cast, zl, hfe]⟩
      by_cases c6 : (nth L0 s.leases i).till ≤ s.now + 100000
      rotate_left; · exact ⟨fun h => absurd h.t2 c6, fun _ => by simp (disch := omega) only [push_cast, zl, hfe]⟩
      exact ⟨fun _ => by simp (disch := omega) only [push_cast, zl, hfe] <;> rfl, fun h => absurd ⟨c1, c2.1, c2.2, fun _ => c4, c5, c6⟩ h⟩
    · by_cases c1 : hasT s.things (nth L0 s.leases i).sum
      rotate_left; · exact ⟨fun h => absurd h.has c1, fun _ => by have := hf.2 c1; simp (disch := omega) only [push_cast, zl, hfe]⟩
      have c1' : ¬ findT s.things (nth L0 s.leases i).sum < 0 := fun h => hf.1 h c1
      by_cases c5 : s.now < (nth L0 s.leases i).till
      rotate_left; · exact ⟨fun h => absurd h.t1 c5, fun _ => by simp (disch := omega) only [push_cast, zl, hfe]⟩
      by_cases c6 : (nth L0 s.leases i).till ≤ s.now + 100000
      rotate_left; · exact ⟨fun h => absurd h.t2 c6, fun _ => by simp (disch := omega) only [push_cast, zl, hfe]⟩
      exact ⟨fun _ => by simp (disch := omega) only [push_cast, zl, hfe] <;> rfl, fun h => absurd ⟨c1, c2.1, c2.2, fun h => absurd h c0, c5, c6⟩ h⟩
  · show Lqn _ _ = _
    rw [eqn_11]; simp (disch := omega) only [push_cast]
theorem svs_6 (hT : SrtK s.things) (nT : s.things.length ≤ 600) (nP : s.pins.length ≤ 100) (hN : ∀ p ∈ s.pins, p.name.size ≤ 4611686018427387904) : Lqn (some 6) [.i 0, .i s.width, .i s.now, .i s.given, .i s.births, .l (encK s.things), .l (encP s.pins), .l (encL s.leases)]
    = if (∀ j, 0 ≤ j → j < s.pins.length → pP s.things s.pins j) then Lqn (some 11) [.i 0, .i s.width, .i s.now, .i s.given, .i s.births, .l (encK s.things), .l (encP s.pins), .l (encL s.leases)] else some [.b false] := by
  refine zt (f := fun i : Nat => Lqn (some 6) [.i (i : Int), .i s.width, .i s.now, .i s.given, .i s.births, .l (encK s.things), .l (encP s.pins), .l (encL s.leases)]) (fun i hi => ?_) ?_ 0 (Nat.zero_le _)
  · show (_ → Lqn _ _ = Lqn _ _) ∧ (_ → Lqn _ _ = _)
    rw [eqn_6]
    have hf := zbe (T := s.things) (x := (nth P0 s.pins i).sum)
    have hfe := zb6 s.width s.now s.given s.births s.things (encP s.pins) (encL s.leases) (nth P0 s.pins i).sum hT (by omega)
    have hne := zh0 (nth P0 s.pins i).name (hN _ (zh hi))
    unfold nameB at hne
    by_cases c2 : NameOk (nth P0 s.pins i).name
    rotate_left; · exact ⟨fun h => absurd h.nm c2, fun _ => by simp (disch := omega) only [push_cast, hne]⟩
    by_cases c0 : 0 < i
    · cases c4 : slt (nth P0 s.pins (i - 1)).name (nth P0 s.pins i).name
      · exact ⟨fun h => absurd (h.adj c0) (by simp [c4]), fun _ => by simp (disch := omega) only [push_cast, hne, c4]⟩
      · by_cases c1 : hasT s.things (nth P0 s.pins i).sum
        rotate_left; · exact ⟨fun h => absurd h.has c1, fun _ => by have := hf.2 c1; simp (disch := omega) only [push_cast, hne, c4, hfe]⟩
        have c1' : ¬ findT s.things (nth P0 s.pins i).sum < 0 := fun h => hf.1 h c1
        exact ⟨fun _ => by simp (disch := omega) only [push_cast, hne, c4, hfe] <;> rfl, fun h => absurd ⟨c1, c2, fun _ => c4⟩ h⟩
    · by_cases c1 : hasT s.things (nth P0 s.pins i).sum
      rotate_left; · exact ⟨fun h => absurd h.has c1, fun _ => by have := hf.2 c1; simp (disch := omega) only [push_cast, hne, hfe]⟩
      have c1' : ¬ findT s.things (nth P0 s.pins i).sum < 0 := fun h => hf.1 h c1
      exact ⟨fun _ => by simp (disch := omega) only [push_cast, hne, hfe] <;> rfl, fun h => absurd ⟨c1, c2, fun h => absurd h c0⟩ h⟩
  · show Lqn _ _ = _
    rw [eqn_6]; simp (disch := omega) only [push_cast]
theorem zqy (T : List Kept) : List.replicate 601 ([.b false] : List C) = near T 0 := by
  unfold near bsT
  simp only [List.take_zero, List.map_nil, List.not_mem_nil, decide_false]
  rw [List.map_const', List.length_range]
theorem zg9 (s : State) (hN : ∀ p ∈ s.pins, p.name.size ≤ 4611686018427387904) : Lqn none (encSt s) = some [.b (decide (VS s))] := by
  unfold encSt
  rw [eqn_i]
  have hv := zkl s
  by_cases h1 : 1 ≤ s.width ∧ s.width ≤ 8
  rotate_left; · rw [decide_eq_false fun V : VS s => h1 V.wd]; have : zk s.width = false := by cases h : zk s.width; { rfl }; { exact absurd (zw.1 h) h1 }
                 simp (disch := omega) only [push_cast, zr, this]
  have hw : zk s.width = true := zw.2 h1
  by_cases h2 : 0 ≤ s.now ∧ s.now ≤ 1000000000
  rotate_left; · rw [decide_eq_false fun V : VS s => h2 V.now]; simp (disch := omega) only [push_cast, zr, hw, zl]
  by_cases h3 : 0 ≤ s.given ∧ s.given ≤ 1000000000
  rotate_left; · rw [decide_eq_false fun V : VS s => h3 V.given]; simp (disch := omega) only [push_cast, zr, hw, zl]
  by_cases h4 : 0 ≤ s.births ∧ s.births ≤ 1000000000
  rotate_left; · rw [decide_eq_false fun V : VS s => h4 V.births]; simp (disch := omega) only [push_cast, zr, hw, zl]
  by_cases h5 : s.things.length ≤ 600
  rotate_left; · rw [decide_eq_false fun V : VS s => h5 V.nT]; simp (disch := omega) only [push_cast, zr, hw, zl]
  by_cases h6 : s.pins.length ≤ 100
  rotate_left; · rw [decide_eq_false fun V : VS s => h6 V.nP]; simp (disch := omega) only [push_cast, zr, hw, zl]
  by_cases h7 : s.leases.length ≤ 200
  rotate_left; · rw [decide_eq_false fun V : VS s => h7 V.nL]; simp (disch := omega) only [push_cast, zr, hw, zl]
  have hto : Lqb none [.i s.width, .i s.now, .i s.given, .i s.births, .l (encK s.things), .l (encP s.pins), .l (encL s.leases)] = _ := (eqb_i _ _ _ _ _ _ _).trans ((by rw [zqy s.things]; rfl : _ = Lqb (some 4) [.i 0, .i s.width, .i s.now, .i s.given, .i s.births, .l (encK s.things), .l (encP s.pins), .l (encL s.leases), .l (near s.things 0), .l (encN (farL s.things 0))]).trans (sto_4 h5 h4))
  by_cases h8 : ∀ j, 0 ≤ j → j < s.things.length → tP s.width s.births s.things j
  rotate_left; · rw [if_neg h8] at hto; rw [decide_eq_false fun V : VS s => h8 (hv.1 V).2.2.2.2.2.2.2.1]; simp (disch := omega) only [push_cast, zr, hw, zl, hto]
  have hs := (zgz _ _ _).1 h8
  rw [if_pos h8, zmq hs.1 h5 fun k hk => (hs.2.1 k hk).1.refs] at hto
  by_cases h9 : ∀ j, 0 ≤ j → j < s.things.length → ∀ i, 0 ≤ i → i < (nth K0 s.things j).thing.refs.length → refIn s.things (nth K0 s.things j).born (nth .empty (nth K0 s.things j).thing.refs i)
  rotate_left; · rw [if_neg h9] at hto; rw [decide_eq_false fun V : VS s => h9 (hv.1 V).2.2.2.2.2.2.2.2.1]; simp (disch := omega) only [push_cast, zr, hw, zl, hto]
  rw [if_pos h9] at hto
  simp (disch := omega) only [push_cast, zr, hw, zl, hto, svs_6 hs.1 h5 h6 hN]
  by_cases h10 : ∀ j, 0 ≤ j → j < s.pins.length → pP s.things s.pins j
  rotate_left; · rw [if_neg h10, decide_eq_false fun V : VS s => h10 (hv.1 V).2.2.2.2.2.2.2.2.2.1]
  rw [if_pos h10, zrl h2 hs.1 h5 h7]
  by_cases h11 : ∀ j, 0 ≤ j → j < s.leases.length → lP s.now s.given s.things s.leases j
  rotate_left; · rw [if_neg h11, decide_eq_false fun V : VS s => h11 (hv.1 V).2.2.2.2.2.2.2.2.2.2]
  rw [if_pos h11, decide_eq_true (hv.2 ⟨h1, h2, h3, h4, h5, h6, h7, h8, h9, h10, h11⟩)]
end
end KV
end
section
namespace KV
open Go Go.Eng
open Classical
theorem zhd {α : Type} : ∀ (l m : List α), l.Nodup → (∀ x ∈ l, x ∈ m) → l.length ≤ m.length
  | [], m, _, _ => Nat.zero_le _
  | a :: l, m, h, hs => by
    rw [List.nodup_cons] at h
    have ha := hs a (by simp)
    have h1 := zhd l (m.erase a) h.2 fun x hx => by
      have hne : x ≠ a := fun e => h.1 (e ▸ hx)
      exact (List.mem_erase_of_ne hne).2 (hs x (by simp [hx]))
    rw [List.length_erase_of_mem ha] at h1
    have : 0 < m.length := List.length_pos_of_mem ha
    rw [List.length_cons]; omega
structure RI (N : Int) (v : Vault) : Prop where
  vv : VV v
  sub : ∀ x ∈ v.rd.marked, hasT v.st.things x
  q : v.rd.queue.length ≤ 300 + 30 * v.rd.marked.length + (v.safe.length + v.loose.length)
  cnt : ((v.safe.length + v.loose.length : Nat) : Int) + v.rd.rounds ≤ N
  t1 : v.rd.phase ≠ 0 → ∀ x, held v.st x → x ∈ v.rd.marked ∨ x ∈ v.rd.queue
  t2 : v.rd.phase ≠ 0 → ∀ k ∈ v.st.things, k.sum ∈ v.rd.marked → ∀ r ∈ k.thing.refs, r ∈ v.rd.marked ∨ r ∈ v.rd.queue
  t3 : v.rd.phase ≠ 0 → ∀ k ∈ v.st.things, v.rd.at_ ≤ k.born → k.sum ∈ v.rd.marked ∨ k.sum ∈ v.rd.queue
theorem zgv {T : List Kept} {l : List Bs} (h : l.Nodup) (hs : ∀ x ∈ l, hasT T x) : l.length ≤ T.length := by
  have := zhd l (T.map (·.sum)) h fun x hx => by
    obtain ⟨k, hk, rfl⟩ := hs x hx
    exact List.mem_map.2 ⟨k, hk, rfl⟩
  rw [List.length_map] at this; exact this
end KV
end
section
namespace KV
open Go Go.Eng
open Classical
inductive Rch (T : List Kept) (F : List Bs) : Bs → Prop where
  | base (x : Bs) (h : x ∈ F) : Rch T F x
  | ref (k : Kept) (x : Bs) (hk : k ∈ T) (h : Rch T F k.sum) (hx : x ∈ k.thing.refs) : Rch T F x
theorem zln (l : List Bs) (x : Bs) : ∃ t, addU l x = l ++ t := by
  unfold addU; split
  · exact ⟨[], by simp⟩
  · exact ⟨[x], rfl⟩
theorem zmr (l : List Bs) : ∀ a, ∃ t, l.foldl addU a = a ++ t := by
  induction l with
  | nil => intro a; exact ⟨[], by simp⟩
  | cons x l ih =>
    intro a
    obtain ⟨t, ht⟩ := zln a x
    obtain ⟨t2, ht2⟩ := ih (addU a x)
    rw [List.foldl_cons, ht2, ht]
    exact ⟨t ++ t2, by simp⟩
theorem zrm {l : List Bs} {x : Bs} (h : l.Nodup) : (addU l x).Nodup := by
  unfold addU; split
  · exact h
  · rename_i hx
    rw [List.nodup_append]
    refine ⟨h, by simp, fun a ha b hb => ?_⟩
    rw [List.mem_singleton] at hb
    rintro rfl
    rw [hb] at ha; exact hx ha
theorem zj1 (l : List Bs) : ∀ a : List Bs, a.Nodup → (l.foldl addU a).Nodup := by
  induction l with
  | nil => intro a h; exact h
  | cons x l ih => intro a h; rw [List.foldl_cons]; exact ih _ (zrm h)
structure BI (s : State) (F : List Bs) (i : Nat) (out : List Bs) : Prop where
  nd : out.Nodup
  has : ∀ x ∈ out, hasT s.things x
  base : ∀ x ∈ F, x ∈ out
  rch : ∀ x ∈ out, Rch s.things F x
  le : i ≤ out.length
  cl : ∀ j, j < i → ∀ k ∈ s.things, k.sum = nth .empty out j → ∀ r ∈ k.thing.refs, r ∈ out
theorem zrp {s : State} (V : VS s) (i : Int) (refs : List Bs) (hr : refs.length ≤ 30) (out : List Bs) (ho : out.length ≤ 1000000) : Lqg (some 14) [.i i, .l (encS refs), .i 0, .i s.width, .i s.now, .i s.given, .i s.births, .l (encK s.things), .l (encP s.pins), .l (encL s.leases), .l (encS out)] =
    Lqg (some 8) [.i (IntKind.i64.wrap (i + 1)), .i s.width, .i s.now, .i s.given, .i s.births, .l (encK s.things), .l (encP s.pins), .l (encL s.leases), .l (encS (refs.foldl addU out))] := by
  exact zu (f := fun (j : Nat) (a : List Bs) => Lqg (some 14) [.i i, .l (encS refs), .i (j : Int), .i s.width, .i s.now, .i s.given, .i s.births, .l (encK s.things), .l (encP s.pins), .l (encL s.leases), .l (encS a)]) (n := refs.length)
    (I := fun j a => a = (refs.take j).foldl addU out) (fun j a hj hI => ⟨addU a (nth .empty refs j), by
      show Lqg _ _ = Lqg _ _
      have hl : a.length ≤ 1000000 + j := by rw [hI]; have := zcr (refs.take j) out; rw [List.length_take] at this; omega
      rw [eqg_14, mostE]
      unfold addU
      by_cases hm : nth .empty refs j ∈ a
      · rw [if_pos hm]; simp (disch := omega) only [push_cast, zo a (nth .empty refs j) (show a.length ≤ 4611686018427387904 by omega), decide_eq_true hm] <;> rfl
      · rw [if_neg hm, ← zp]; simp (disch := omega) only [push_cast, zo a (nth .empty refs j) (show a.length ≤ 4611686018427387904 by omega), decide_eq_false hm] <;> rfl, by
      show addU a _ = _
      rw [zff _ _ _ hj, hI]⟩) (fun a hI => by
      show Lqg _ _ = Lqg _ _
      rw [eqg_14]
      rw [cneg (show ¬ (refs.length : Int) < ((encS refs).length : Int) by rw [zbn]; omega), hI, List.take_length]) 0 out (Nat.zero_le _) rfl
theorem zmt {s : State} (V : VS s) (F : List Bs) : ∀ (m i : Nat) (out : List Bs), s.things.length - i = m → BI s F i out →
    ∃ o : List Bs, Lqg (some 8) [.i (i : Int), .i s.width, .i s.now, .i s.given, .i s.births, .l (encK s.things), .l (encP s.pins), .l (encL s.leases), .l (encS out)] = some [.l (encS o)] ∧ o.Nodup ∧ (∀ x, x ∈ o ↔ Rch s.things F x) ∧ ∀ x ∈ o, hasT s.things x := by
  intro m
  have n1 := V.nT
  have fin : ∀ (i : Nat) (out : List Bs), BI s F i out → out.length = i → ∃ o : List Bs, Lqg (some 8) [.i (i : Int), .i s.width, .i s.now, .i s.given, .i s.births, .l (encK s.things), .l (encP s.pins), .l (encL s.leases), .l (encS out)] = some [.l (encS o)] ∧ o.Nodup ∧ (∀ x, x ∈ o ↔ Rch s.things F x) ∧ ∀ x ∈ o, hasT s.things x := by
    intro i out h hi
    refine ⟨out, ?_, h.nd, fun x => ⟨h.rch x, fun hx => ?_⟩, h.has⟩
    · rw [eqg_8]; simp (disch := omega) only [push_cast]
    · induction hx with
      | base x hx => exact h.base x hx
      | ref k x hk hks hx ih =>
        obtain ⟨j, hj, he⟩ := z8 .empty ih
        exact h.cl j (by omega) k hk he.symm x hx
  induction m with
  | zero =>
    intro i out hm h
    have hl := zgv h.nd h.has
    exact fin i out h (by have := h.le; omega)
  | succ m ih =>
    intro i out hm h
    have hl := zgv h.nd h.has
    rcases Nat.lt_or_ge i out.length with hlt | hge
    rotate_left; · exact fin i out h (by have := h.le; omega)
    obtain ⟨x, hx⟩ : ∃ x, nth .empty out i = x := ⟨_, rfl⟩
    have hmem : x ∈ out := by rw [← hx]; exact zh hlt
    have hT := h.has x hmem
    have hi2 := (zbv V.srtT x).1 hT
    have hfi : findT s.things x = (lb (qK x) s.things : Int) := if_pos hT
    obtain ⟨k, hk⟩ : ∃ k, nth K0 s.things (lb (qK x) s.things) = k := ⟨_, rfl⟩
    have hkm : k ∈ s.things := by rw [← hk]; exact zh hi2.1
    have hks : k.sum = x := by rw [← hk]; exact hi2.2
    have hrl := (V.okT k hkm).1.refs
    obtain ⟨t, ht⟩ := zmr k.thing.refs out
    have hb : BI s F (i + 1) (k.thing.refs.foldl addU out) := by
      refine ⟨zj1 _ _ h.nd, fun y hy => ?_, fun y hy => (zbp _ _ _).2 (.inl (h.base y hy)), fun y hy => ?_, by rw [ht, List.length_append]; omega, fun j hj k' hk' he r hr => ?_⟩
      · rcases (zbp _ _ _).1 hy with h1 | h1
        · exact h.has y h1
        · obtain ⟨j, hj, e, _⟩ := V.refs k hkm y h1; exact ⟨j, hj, e⟩
      · rcases (zbp _ _ _).1 hy with h1 | h1
        · exact h.rch y h1
        · exact .ref k y hkm (by rw [hks]; exact h.rch x hmem) h1
      · have hnj : nth .empty (k.thing.refs.foldl addU out) j = nth .empty out j := by
          rw [zj _ _ _ (by rw [ht, List.length_append]; omega), zj _ _ _ (by omega : j < out.length)]
          simp only [ht]
          rw [List.getElem_append_left]
        rw [hnj] at he
        rcases Nat.lt_or_ge j i with h1 | h1
        · exact (zbp _ _ _).2 (.inl (h.cl j h1 k' hk' he r hr))
        · have hji : j = i := by omega
          subst hji
          rw [hx, ← hks] at he
          have hkk : k' = k := by
            obtain ⟨a, ha, rfl⟩ := z8 K0 hk'
            have := zcx K0 V.srtT (kp k.sum) (kR k.sum) ha he
            rw [this, hks, hk]
          rw [hkk] at hr
          exact (zbp _ _ _).2 (.inr hr)
    obtain ⟨o, e, r⟩ := ih (i + 1) _ (by omega) hb
    refine ⟨o, ?_, r⟩
    rw [eqg_8]
    have h14 := zrp V (i : Int) k.thing.refs hrl out (by omega)
    rw [w64 (by omega)] at h14
    simp (disch := omega) only [push_cast, hx, zb6 s.width s.now s.given s.births s.things (encP s.pins) (encL s.leases) x V.srtT (by omega), hfi, hk]
    exact h14.trans e
theorem zpl {s : State} (V : VS s) (F : List Bs) (hF : ∀ x ∈ F, hasT s.things x) (hl : F.length ≤ 1000000) : ∃ o : List Bs, Lqg none (encSt s ++ [.l (encS F)]) = some [.l (encS o)] ∧ o.Nodup ∧ (∀ x, x ∈ o ↔ Rch s.things F x) ∧ ∀ x ∈ o, hasT s.things x := by
  show ∃ o : List Bs, Lqg none [.i s.width, .i s.now, .i s.given, .i s.births, .l (encK s.things), .l (encP s.pins), .l (encL s.leases), .l (encS F)] = _ ∧ _
  obtain ⟨o, e, r⟩ := zmt V F s.things.length 0 (F.foldl addU []) (by omega) ⟨zj1 _ _ List.nodup_nil, fun x hx => by
    rcases (zbp _ _ _).1 hx with h | h
    · cases h
    · exact hF x h, fun x hx => (zbp _ _ _).2 (.inr hx), fun x hx => by
    rcases (zbp _ _ _).1 hx with h | h
    · cases h
    · exact .base x h, Nat.zero_le _, fun j hj => by omega⟩
  refine ⟨o, ?_, r⟩
  rw [eqg_i]
  exact (zu (f := fun (j : Nat) (a : List Bs) => Lqg (some 3) [.l (encS F), .i (j : Int), .i s.width, .i s.now, .i s.given, .i s.births, .l (encK s.things), .l (encP s.pins), .l (encL s.leases), .l (encS a)]) (n := F.length)
    (I := fun j a => a = (F.take j).foldl addU []) (fun j a hj hI => ⟨addU a (nth .empty F j), by
      show Lqg _ _ = Lqg _ _
      have hl : a.length ≤ j := by rw [hI]; have := zcr (F.take j) []; rw [List.length_take] at this; simp at this; omega
      rw [eqg_3, mostE]
      unfold addU
      by_cases hm : nth .empty F j ∈ a
      · rw [if_pos hm]; simp (disch := omega) only [push_cast, zo a (nth .empty F j) (show a.length ≤ 4611686018427387904 by omega), decide_eq_true hm] <;> rfl
      · rw [if_neg hm, ← zp]; simp (disch := omega) only [push_cast, zo a (nth .empty F j) (show a.length ≤ 4611686018427387904 by omega), decide_eq_false hm] <;> rfl, by
      show addU a _ = _
      rw [zff _ _ _ hj, hI]⟩) (fun a hI => by
      show Lqg _ _ = _
      rw [eqg_3]
      rw [hI, List.take_length]
      simp (disch := omega) only [push_cast]
      exact e) 0 [] (Nat.zero_le _) rfl)
def Liv (s : State) (x : Bs) : Prop := Rch s.things (zbc s) x
theorem zqi {s : State} (V : VS s) : ∃ o : List Bs, Lqcq none (encSt s) = some [.l (encS o)] ∧ Asc o ∧ (∀ x, x ∈ o ↔ Liv s x) ∧ o.length ≤ 600 ∧ ∀ x ∈ o, hasT s.things x := by
  have n1 := V.nT; have n2 := V.nP; have n3 := V.nL
  have hv := zg9 s V.names
  have hr := zjr s (by omega) (by omega)
  have hrl := zhu s
  obtain ⟨o, e, hnd, hm, hh⟩ := zpl V (zbc s) (fun x hx => zfi V hx) (by omega)
  have hol := zgv hnd hh
  obtain ⟨o2, e2, ha, hm2, hl2⟩ := zf5 o (by omega)
  refine ⟨o2, ?_, ha, fun x => (hm2 x).trans (hm x), by omega, fun x hx => hh x ((hm2 x).1 hx)⟩
  have e' : Lqg none [.i s.width, .i s.now, .i s.given, .i s.births, .l (encK s.things), .l (encP s.pins), .l (encL s.leases), .l (encS (zbc s))] = _ := e
  rw [decide_eq_true V] at hv
  unfold encSt at hv hr ⊢
  rw [eqcq_i]
  simp (disch := omega) only [push_cast, hv, hr, e', e2]
end KV
end
section
namespace KV
open Go Go.Eng
open Classical
noncomputable def sumU (m : List Bs) : List Kept → Nat
  | [] => 0
  | k :: l => (if k.sum ∈ m then 0 else k.thing.refs.length) + sumU m l
theorem zj3 {m m' : List Bs} (h : ∀ x ∈ m, x ∈ m') : ∀ l, sumU m' l ≤ sumU m l
  | [] => Nat.le_refl _
  | k :: l => by
    have := zj3 h l
    simp only [sumU]
    by_cases c : k.sum ∈ m
    · rw [if_pos c, if_pos (h _ c)]; omega
    · rw [if_neg c]; split <;> omega
theorem zjh {m : List Bs} {x : Bs} (hx : x ∉ m) : ∀ (l : List Kept) (k : Kept), k ∈ l → k.sum = x → sumU (m ++ [x]) l + k.thing.refs.length ≤ sumU m l
  | a :: l, k, hk, hs => by
    have hm := zj3 (m := m) (m' := m ++ [x]) (fun y hy => List.mem_append.2 (.inl hy)) l
    simp only [sumU]
    rcases List.mem_cons.1 hk with rfl | hk
    · rw [if_pos (by rw [hs]; simp), if_neg (by rw [hs]; exact hx)]; omega
    · have := zjh hx l k hk hs
      by_cases c : a.sum ∈ m
      · rw [if_pos (List.mem_append.2 (.inl c)), if_pos c]; omega
      · rw [if_neg c]; split <;> omega
theorem zig (m : List Bs) : ∀ (l : List Kept), (∀ k ∈ l, k.thing.refs.length ≤ 30) → sumU m l ≤ 30 * l.length
  | [], _ => Nat.zero_le _
  | k :: l, h => by
    have h1 := zig m l fun j hj => h j (by simp [hj])
    have h2 := h k (by simp)
    simp only [sumU, List.length_cons]
    split <;> omega
noncomputable def junk (s : State) (r : Round) : Nat := (r.marked.filter fun x => !decide (hasT s.things x)).length
theorem zhi {α : Type} (p : α → Bool) : ∀ l : List α, l.length = (l.filter p).length + (l.filter fun x => !p x).length
  | [] => rfl
  | a :: l => by
    have := zhi p l
    rw [List.filter_cons, List.filter_cons]
    cases p a <;> simp <;> omega
structure CL (s : State) (r : Round) : Prop where
  vs : VS s
  rok : RoundOk s.width s.births r
  jk : junk s r + s.things.length ≤ 600
  qq : r.phase ≠ 0 → r.queue.length + sumU r.marked s.things ≤ 23200
theorem VS.rl {s : State} (V : VS s) : ∀ k ∈ s.things, k.thing.refs.length ≤ 30 := fun k hk => (V.okT k hk).1.refs
theorem zev {s : State} {x : Bs} : x ∈ zbc s ↔ held s x := by
  unfold zbc held
  rw [zbp, zbp]
  simp only [List.mem_map, List.not_mem_nil, false_or]
theorem zm9 {s : State} (V : VS s) {x : Bs} (h : Liv s x) : hasT s.things x := by
  cases h with
  | base _ h => exact zfi V h
  | ref k _ hk h hy => obtain ⟨j, hj, e, _⟩ := V.refs k hk x hy; exact ⟨j, hj, e⟩
theorem zmw {s : State} (V : VS s) {a b : Kept} (ha : a ∈ s.things) (hb : b ∈ s.things) (h : a.sum = b.sum) : a = b := by
  obtain ⟨i, hi, rfl⟩ := z8 K0 ha
  obtain ⟨j, hj, rfl⟩ := z8 K0 hb
  have h1 := zcx K0 V.srtT (kp (nth K0 s.things j).sum) (kR (nth K0 s.things j).sum) hi h
  have h2 := zcx K0 V.srtT (kp (nth K0 s.things j).sum) (kR (nth K0 s.things j).sum) hj rfl
  rw [h1, ← h2]
structure UK (s s' : State) : Prop where
  ints : s'.width = s.width ∧ s'.births = s.births ∧ s'.now = s.now ∧ s'.given = s.given
  pins : s'.pins = s.pins
  leases : s'.leases = s.leases
  sub : s'.things.Sublist s.things
  liv : ∀ x, Liv s' x ↔ Liv s x
theorem UK.refl (s : State) : UK s s := ⟨⟨rfl, rfl, rfl, rfl⟩, rfl, rfl, List.Sublist.refl _, fun _ => Iff.rfl⟩
theorem UK.trans {a b c : State} (h : UK a b) (k : UK b c) : UK a c := by
  obtain ⟨a1, a2, a3, a4⟩ := h.ints
  obtain ⟨b1, b2, b3, b4⟩ := k.ints
  exact ⟨⟨b1.trans a1, b2.trans a2, b3.trans a3, b4.trans a4⟩, k.pins.trans h.pins, k.leases.trans h.leases, k.sub.trans h.sub, fun x => (k.liv x).trans (h.liv x)⟩
end KV
end
section
namespace KV
open Go Go.Eng
open Classical
structure BR (r : Round) : Prop where
  q : r.queue.length ≤ 24000
  m : r.marked.length ≤ 1000
  ints : (-1 ≤ r.phase ∧ r.phase ≤ 5) ∧ (-1 ≤ r.top ∧ r.top ≤ 1000000001) ∧ (-1 ≤ r.at_ ∧ r.at_ ≤ 1000000003) ∧ (-1 ≤ r.rounds ∧ r.rounds ≤ 1000000001)
structure IR (r : Round) : Prop where
  q : r.queue.length ≤ 23200
  m : r.marked.length ≤ 600
  ints : (0 ≤ r.phase ∧ r.phase ≤ 2) ∧ (0 ≤ r.top ∧ r.top ≤ 1000000000) ∧ (0 ≤ r.at_ ∧ r.at_ ≤ 1000000001) ∧ (0 ≤ r.rounds ∧ r.rounds ≤ 1000000000)
theorem IR.br {r : Round} (h : IR r) : BR r := by
  obtain ⟨a, b, c, d⟩ := h.ints
  exact ⟨by have := h.q; omega, by have := h.m; omega, by omega, by omega, by omega, by omega⟩
end KV
end
section
namespace KV
open Go Go.Eng
open Classical
structure SI (s : State) (F ks todo : List Bs) : Prop where
  nd : ks.Nodup
  has : ∀ x ∈ ks, hasT s.things x
  hasQ : ∀ x ∈ todo, hasT s.things x
  base : ∀ x ∈ F, x ∈ ks ∨ x ∈ todo
  rch : ∀ x ∈ ks, Rch s.things F x
  rchQ : ∀ x ∈ todo, Rch s.things F x
  cl : ∀ k ∈ s.things, k.sum ∈ ks → ∀ r ∈ k.thing.refs, r ∈ ks ∨ r ∈ todo
theorem zmv {s : State} (V : VS s) (F : List Bs) : ∀ (m : Nat) (ks todo : List Bs), m ≤ 1000000 → todo.length + sumU ks s.things ≤ m → SI s F ks todo →
    ∃ ks' : List Bs, Lq4 (some 3) [.i s.width, .i s.now, .i s.given, .i s.births, .l (encK s.things), .l (encP s.pins), .l (encL s.leases), .m (setM ks), .l (encS todo)] = some [.m (setM ks')] ∧ ks'.Nodup ∧ ∀ x, x ∈ ks' ↔ Rch s.things F x := by
  intro m
  have n1 := V.nT
  have fin : ∀ ks : List Bs, SI s F ks [] → ∃ ks' : List Bs, Lq4 (some 3) [.i s.width, .i s.now, .i s.given, .i s.births, .l (encK s.things), .l (encP s.pins), .l (encL s.leases), .m (setM ks), .l (encS [])] = some [.m (setM ks')] ∧ ks'.Nodup ∧ ∀ x, x ∈ ks' ↔ Rch s.things F x := by
    intro ks h
    refine ⟨ks, ?_, h.nd, fun x => ⟨h.rch x, fun hx => ?_⟩⟩
    · rw [eq4_3]; simp (disch := omega) only [push_cast]
    · induction hx with
      | base x hx => exact (h.base x hx).resolve_right (fun h => nomatch h)
      | ref k x hk hks hx ih => exact (h.cl k hk ih x hx).resolve_right (fun h => nomatch h)
  induction m with
  | zero =>
    intro ks todo hm hl h
    have : todo = [] := List.eq_nil_of_length_eq_zero (by omega)
    subst this
    exact fin ks h
  | succ m ih =>
    intro ks todo hm hl h
    rcases List.eq_nil_or_concat todo with rfl | ⟨t, x, rfl⟩
    · exact fin ks h
    rw [List.concat_eq_append] at hl h ⊢
    rw [List.length_append] at hl
    simp only [List.length_cons, List.length_nil] at hl
    have hxT := h.hasQ x (by simp)
    have hxi := (zbv V.srtT x).1 hxT
    obtain ⟨k, hk⟩ : ∃ k, nth K0 s.things (lb (qK x) s.things) = k := ⟨_, rfl⟩
    have hkm : k ∈ s.things := by rw [← hk]; exact zh hxi.1
    have hks : k.sum = x := by rw [← hk]; exact hxi.2
    have hrl := V.rl k hkm
    have hlen : (encS (t ++ [x])).length = t.length + 1 := by rw [zbn]; simp
    have hlast : nth .empty (t ++ [x]) t.length = x := by
      rw [zj _ _ _ (by simp)]; simp
    have hsub : Eng.sub (encS (t ++ [x])) 0 t.length = encS t := by
      rw [zdh]; simp
    have hth := zd5 s.width s.now s.given s.births s.things (encP s.pins) (encL s.leases) x V.srtT (by omega)
    have e2 : ((t.length : Int) + 1 - 1).toNat = t.length := by omega
    rw [eq4_3, mostE, hlen]
    by_cases hin : x ∈ ks
    · obtain ⟨ks', e, r⟩ := ih ks t (by omega) (by omega) ⟨h.nd, h.has, fun y hy => h.hasQ y (by simp [hy]), fun y hy => by
        rcases h.base y hy with h1 | h1
        · exact .inl h1
        · rcases List.mem_append.1 h1 with h2 | h2
          · exact .inr h2
          · rw [List.mem_singleton] at h2; rw [h2]; exact .inl hin, h.rch, fun y hy => h.rchQ y (by simp [hy]), fun j hj hjk r hr => by
        rcases h.cl j hj hjk r hr with h1 | h1
        · exact .inl h1
        · rcases List.mem_append.1 h1 with h2 | h2
          · exact .inr h2
          · rw [List.mem_singleton] at h2; rw [h2]; exact .inl hin⟩
      refine ⟨ks', ?_, r⟩
      simp (disch := omega) only [push_cast, e2, hlast, hth, decide_eq_true hxT, inM, decide_eq_true hin, hsub]
      exact e
    · have hmk := zjh hin s.things k hkm hks
      obtain ⟨ks', e, r⟩ := ih (ks ++ [x]) (t ++ k.thing.refs) (by omega) (by rw [List.length_append]; omega) ⟨by
          rw [List.nodup_append]
          refine ⟨h.nd, by simp, fun a ha b hb => ?_⟩
          rw [List.mem_singleton] at hb
          rintro rfl
          rw [hb] at ha; exact hin ha, fun y hy => by
          rcases List.mem_append.1 hy with h1 | h1
          · exact h.has y h1
          · rw [List.mem_singleton] at h1; rw [h1]; exact hxT, fun y hy => by
          rcases List.mem_append.1 hy with h1 | h1
          · exact h.hasQ y (by simp [h1])
          · obtain ⟨j, hj, e, _⟩ := V.refs k hkm y h1; exact ⟨j, hj, e⟩, fun y hy => by
          rcases h.base y hy with h1 | h1
          · exact .inl (List.mem_append.2 (.inl h1))
          · rcases List.mem_append.1 h1 with h2 | h2
            · exact .inr (List.mem_append.2 (.inl h2))
            · exact .inl (List.mem_append.2 (.inr h2)), fun y hy => by
          rcases List.mem_append.1 hy with h1 | h1
          · exact h.rch y h1
          · rw [List.mem_singleton] at h1; rw [h1]; exact h.rchQ x (by simp), fun y hy => by
          rcases List.mem_append.1 hy with h1 | h1
          · exact h.rchQ y (by simp [h1])
          · exact .ref k y hkm (by rw [hks]; exact h.rchQ x (by simp)) h1, fun j hj hjk r hr => by
          rcases List.mem_append.1 hjk with h1 | h1
          · rcases h.cl j hj h1 r hr with h2 | h2
            · exact .inl (List.mem_append.2 (.inl h2))
            · rcases List.mem_append.1 h2 with h3 | h3
              · exact .inr (List.mem_append.2 (.inl h3))
              · exact .inl (List.mem_append.2 (.inr h3))
          · rw [List.mem_singleton] at h1
            obtain rfl := zmw V hj hkm (h1.trans hks.symm)
            exact .inr (List.mem_append.2 (.inr hr))⟩
      refine ⟨ks', ?_, r⟩
      rw [← zp] at e
      simp (disch := omega) only [push_cast, e2, hlast, hth, decide_eq_true hxT, inM, decide_eq_false hin, hsub, hk, zhc x ks hin]
      exact e
theorem zgu {s : State} (V : VS s) (F : List Bs) (hF : ∀ x ∈ F, hasT s.things x) (hl : F.length ≤ 100000) : ∃ ks : List Bs, Lq4 none [.l (encS F), .i s.width, .i s.now, .i s.given, .i s.births, .l (encK s.things), .l (encP s.pins), .l (encL s.leases)] = some [.m (setM ks)] ∧ ks.Nodup ∧ ∀ x, x ∈ ks ↔ Rch s.things F x := by
  have n1 := V.nT
  have h1 := zig [] s.things V.rl
  obtain ⟨ks, e, r⟩ := zmv V F (F.length + sumU [] s.things) [] F (by omega) (Nat.le_refl _) ⟨List.nodup_nil, fun x hx => (nomatch hx), hF, fun x hx => .inr hx, fun x hx => (nomatch hx), fun x hx => .base x hx, fun k hk h => nomatch h⟩
  refine ⟨ks, ?_, r⟩
  rw [eq4_i]
  simp (disch := omega) only [push_cast, zo5 (encS F) (by rw [zbn]; omega)]
  exact e
theorem zqf {T : List Kept} {F G : List Bs} (h : ∀ x, x ∈ F ↔ x ∈ G) (x : Bs) : Rch T F x ↔ Rch T G x := by
  have : ∀ {F G : List Bs}, (∀ x, x ∈ F → x ∈ G) → ∀ x, Rch T F x → Rch T G x := by
    intro F G h x hx
    induction hx with
    | base x hx => exact .base x (h x hx)
    | ref k x hk hks hx ih => exact .ref k x hk ih hx
  exact ⟨this (fun x => (h x).1) x, this (fun x => (h x).2) x⟩
theorem zll {s : State} (V : VS s) : ∃ ks : List Bs, Lqv none [.i s.width, .i s.now, .i s.given, .i s.births, .l (encK s.things), .l (encP s.pins), .l (encL s.leases)] = some [.m (setM ks)] ∧ ks.Nodup ∧ ∀ x, x ∈ ks ↔ Liv s x := by
  have n1 := V.nT; have n2 := V.nP; have n3 := V.nL
  have hmem : ∀ x, x ∈ s.pins.map (·.sum) ++ s.leases.map (·.sum) ↔ x ∈ zbc s := fun x => by
    rw [zev, List.mem_append, List.mem_map, List.mem_map]; rfl
  obtain ⟨ks, e, h1, h2⟩ := zgu V (s.pins.map (·.sum) ++ s.leases.map (·.sum)) (fun x hx => zfi V ((hmem x).1 hx)) (by simp; omega)
  refine ⟨ks, ?_, h1, fun x => (h2 x).trans (zqf hmem x)⟩
  have l2 : Lqv (some 8) [.l (encL s.leases), .i (s.leases.length : Int), .i 0, .i s.width, .i s.now, .i s.given, .i s.births, .l (encK s.things), .l (encP s.pins), .l (encL s.leases), .l (encS (s.pins.map (·.sum)))] = some [.m (setM ks)] :=
    zu (f := fun (i : Nat) (a : List Bs) => Lqv (some 8) [.l (encL s.leases), .i (s.leases.length : Int), .i (i : Int), .i s.width, .i s.now, .i s.given, .i s.births, .l (encK s.things), .l (encP s.pins), .l (encL s.leases), .l (encS a)]) (n := s.leases.length)
      (I := fun i a => a = s.pins.map (·.sum) ++ (s.leases.take i).map (·.sum)) (fun i a hi hI => ⟨a ++ [(nth L0 s.leases i).sum], by
        show Lqv _ _ = Lqv _ _
        have hl : a.length ≤ 100 + i := by rw [hI]; simp; omega
        rw [eqv_8, mostE, ← zp]
        simp (disch := omega) only [push_cast] <;> rfl, by
        show a ++ _ = _
        rw [zz L0 hi, List.map_append, ← List.append_assoc, ← hI]; rfl⟩) (fun a hI => by
        show Lqv _ _ = _
        rw [eqv_8]
        rw [List.take_length] at hI
        rw [← hI] at e
        simp (disch := omega) only [push_cast, e]) 0 _ (Nat.zero_le _) (by simp)
  have l1 : Lqv (some 3) [.l (encP s.pins), .i (s.pins.length : Int), .i 0, .i s.width, .i s.now, .i s.given, .i s.births, .l (encK s.things), .l (encP s.pins), .l (encL s.leases), .l (encS [])] = some [.m (setM ks)] :=
    zu (f := fun (i : Nat) (a : List Bs) => Lqv (some 3) [.l (encP s.pins), .i (s.pins.length : Int), .i (i : Int), .i s.width, .i s.now, .i s.given, .i s.births, .l (encK s.things), .l (encP s.pins), .l (encL s.leases), .l (encS a)]) (n := s.pins.length)
      (I := fun i a => a = (s.pins.take i).map (·.sum)) (fun i a hi hI => ⟨a ++ [(nth P0 s.pins i).sum], by
        show Lqv _ _ = Lqv _ _
        have hl : a.length ≤ i := by rw [hI]; simp; omega
        rw [eqv_3, mostE, ← zp]
        simp (disch := omega) only [push_cast] <;> rfl, by
        show a ++ _ = _
        rw [zz P0 hi, List.map_append, ← hI]; rfl⟩) (fun a hI => by
        show Lqv _ _ = _
        rw [eqv_3]
        rw [List.take_length] at hI
        simp (disch := omega) only [push_cast]
        rw [hI]
        exact l2) 0 _ (Nat.zero_le _) (by simp)
  rw [eqv_i]
  simp (disch := omega) only [push_cast]
  exact l1
noncomputable def sumsM (s : State) (ks : List Bs) (want : Bool) : List Bs := (s.things.filter fun k => decide (k.sum ∈ ks) == want).map (·.sum)
theorem zhj {s : State} (hn : s.things.length ≤ 1000000) (ks : List Bs) (want : Bool) : Lq7 none [.b want, .m (setM ks), .i s.width, .i s.now, .i s.given, .i s.births, .l (encK s.things), .l (encP s.pins), .l (encL s.leases)] = some [.m (setM ks), .l (encS (sumsM s ks want))] := by
  rw [eq7_i]
  have lp : Lq7 (some 3) [.b want, .l (encK s.things), .i (s.things.length : Int), .i 0, .m (setM ks), .l (encS [])] = _ :=
    zu (f := fun (i : Nat) (a : List Bs) => Lq7 (some 3) [.b want, .l (encK s.things), .i (s.things.length : Int), .i (i : Int), .m (setM ks), .l (encS a)]) (n := s.things.length) (T := some [.m (setM ks), .l (encS (sumsM s ks want))])
      (I := fun i a => a = ((s.things.take i).filter fun k => decide (k.sum ∈ ks) == want).map (·.sum)) (fun i a hi hI => ⟨a ++ (if (decide ((nth K0 s.things i).sum ∈ ks) == want) = true then [(nth K0 s.things i).sum] else []), by
        show Lq7 _ _ = Lq7 _ _
        have hl : a.length ≤ i := by
          rw [hI, List.length_map]
          have := List.length_filter_le (fun k : Kept => decide (k.sum ∈ ks) == want) (s.things.take i)
          rw [List.length_take] at this; omega
        rw [eq7_3, mostE]
        cases hm : decide ((nth K0 s.things i).sum ∈ ks) == want
        · rw [if_neg (by simp), List.append_nil]; simp (disch := omega) only [push_cast, inM, hm]
        · rw [if_pos rfl, ← zp]; simp (disch := omega) only [push_cast, inM, hm] <;> rfl, by
        show a ++ _ = _
        rw [zz K0 hi, List.filter_append, List.map_append, ← hI]
        congr 1
        rw [List.filter_cons, List.filter_nil]
        split <;> rfl⟩) (fun a hI => by
        show Lq7 _ _ = _
        rw [eq7_3]
        simp (disch := omega) only [push_cast]
        rw [hI, List.take_length]; rfl) 0 [] (Nat.zero_le _) rfl
  simp (disch := omega) only [push_cast]
  exact lp
theorem zp0 {s : State} (V : VS s) : Lqcp none [.i s.width, .i s.now, .i s.given, .i s.births, .l (encK s.things), .l (encP s.pins), .l (encL s.leases)] = some [.l (encS ((s.things.filter fun k => !decide (Liv s k.sum)).map (·.sum)))] := by
  have n1 := V.nT
  have hv := zdx s V.names
  unfold encSt at hv
  rw [decide_eq_true V] at hv
  obtain ⟨ks, e, _, h2⟩ := zll V
  have hs := zhj (s := s) (by omega) ks false
  rw [eqcp_i]
  simp (disch := omega) only [push_cast, hv, e, hs]
  congr 4
  unfold sumsM
  congr 1
  apply List.filter_congr
  intro k hk
  by_cases h : k.sum ∈ ks
  · rw [decide_eq_true h, decide_eq_true ((h2 _).1 h)]; rfl
  · rw [decide_eq_false h, decide_eq_false (fun h3 => h ((h2 _).2 h3))]; rfl
end KV
end
section
namespace KV
open Go Go.Eng
open Classical
theorem GS.names {s : State} (h : GS s) : ∀ p ∈ s.pins, p.name.size ≤ 4611686018427387904 := h.bs.names
end KV
end
section
namespace KV
open Go Go.Eng
open Classical
theorem RI.mono {N M : Int} {v : Vault} (h : RI N v) (hM : N ≤ M) : RI M v := ⟨h.vv, h.sub, h.q, by have := h.cnt; omega, h.t1, h.t2, h.t3⟩
def A0 : Act := ⟨0, E0, 0, E0, 0, 0⟩
def cA (a : Act) : List C := [.i a.kind, .s a.text, .i a.refs, .s a.name, .i a.pick, .i a.ticks]
def encAs (l : List Act) : Rw := l.map cA
@[push_cast] theorem zsw (l : List Act) : (encAs l).length = l.length := by simp [encAs]
@[push_cast] theorem zsu (l : List Act) (i : Nat) : (rd (encAs l) i 0).int = (nth A0 l i).kind := zbb cA A0 l i 0 C.int rfl
@[push_cast] theorem zst (l : List Act) (i : Nat) : (rd (encAs l) i 1).str = (nth A0 l i).text := zbb cA A0 l i 1 C.str rfl
@[push_cast] theorem zsq (l : List Act) (i : Nat) : (rd (encAs l) i 2).int = (nth A0 l i).refs := zbb cA A0 l i 2 C.int rfl
@[push_cast] theorem zsy (l : List Act) (i : Nat) : (rd (encAs l) i 3).str = (nth A0 l i).name := zbb cA A0 l i 3 C.str rfl
@[push_cast] theorem zs0 (l : List Act) (i : Nat) : (rd (encAs l) i 4).int = (nth A0 l i).pick := zbb cA A0 l i 4 C.int rfl
@[push_cast] theorem zsv (l : List Act) (i : Nat) : (rd (encAs l) i 5).int = (nth A0 l i).ticks := zbb cA A0 l i 5 C.int rfl
end KV
end
section
namespace KV
open Go Go.Eng
open Classical
abbrev Put := Bs × Thing
def encQ (l : List Put) : Rw := l.map fun q => [.s q.1, .s q.2.text, .l (encS q.2.refs)]
def encSs (l : List State) : Rw := l.map fun s => [.i s.width, .i s.now, .i s.given, .i s.births, .l (encK s.things), .l (encP s.pins), .l (encL s.leases)]
@[push_cast] theorem zs3 (l : List Put) : (encQ l).length = l.length := by simp [encQ]
@[push_cast] theorem zso (l : List State) : (encSs l).length = l.length := by simp [encSs]
def PI (put : List Put) (w : Int) (l : List Bs) : Prop := ∀ n s, runL w (empty w) (l.take n) 0 = .inl s → ∀ k ∈ s.things, (k.sum, k.thing) ∈ put
def QI (past : List State) (w : Int) (a b : List Bs) : Prop := ∀ n s, runL w (empty w) (a ++ b.take n) 0 = .inl s → s ∈ past
theorem PI.mono {p q : List Put} {w : Int} {l : List Bs} (h : PI p w l) (hs : ∀ x ∈ p, x ∈ q) : PI q w l := fun n s hr k hk => hs _ (h n s hr k hk)
theorem QI.mono {p q : List State} {w : Int} {a b : List Bs} (h : QI p w a b) (hs : ∀ x ∈ p, x ∈ q) : QI q w a b := fun n s hr => hs _ (h n s hr)
end KV
end
section
namespace KV
open Go Go.Eng
open Classical
def TX (w : Int) (l : List Bs) : Prop := ∀ n s, runL w (empty w) (l.take n) 0 = .inl s → ∀ k ∈ s.things, k.thing.text.size ≤ 20
theorem TX.nil (w : Int) : TX w [] := fun n s hn k hk => by
  rw [List.take_nil] at hn
  simp only [runL] at hn
  cases hn; cases hk
structure AV (v : Vault) : Prop where
  bs : BS v.st
  br : BR v.rd
  ns : v.safe.length + v.loose.length ≤ 4010
  sz : ∀ x ∈ v.safe ++ v.loose, x.size ≤ 5000
  ints : (-1 ≤ v.width ∧ v.width ≤ 10) ∧ (-1 ≤ v.limit ∧ v.limit ≤ 1000001)
  cut : CutV v
  tx : VV v → v.safe.length + v.loose.length ≤ 1000 → ∀ k ∈ v.st.things, k.thing.text.size ≤ 20
theorem AV.small {v : Vault} (h : AV v) : SmallV v := by
  have h1 := h.ns; have h2 := h.br.q; have h3 := h.br.m; have h4 := h.bs.nT
  exact ⟨⟨by omega, fun x hx => by have := h.sz x (List.mem_append.2 (.inl hx)); omega⟩, ⟨by omega, fun x hx => by have := h.sz x (List.mem_append.2 (.inr hx)); omega⟩, by omega, h.bs.small, by omega, by omega, by omega⟩
theorem GS.uni {s : State} (h : GS s) : ∃ a : Nat, ∀ k ∈ s.things, ∀ r ∈ k.thing.refs, r.size = a := by
  rcases h with h | rfl
  · exact ⟨_, h.uni⟩
  · exact ⟨0, fun k hk => nomatch hk⟩
end KV
end
section
namespace KV
open Go Go.Eng
open Classical
theorem zre {s : State} (V : VS s) : Lqcb none [.i s.width, .i s.now, .i s.given, .i s.births, .l (encK s.things), .l (encP s.pins), .l (encL s.leases)] = some [.i (roomM s : Int)] := by
  have h1 := zdx s V.names
  have h2 := zr1 V.small (by have := zg0 V; omega)
  unfold encSt at h1 h2
  rw [decide_eq_true V] at h1
  rw [eqcb_i]
  simp (disch := omega) only [push_cast, h1, h2]
end KV
end
section

end
section
namespace KV
open Go Go.Eng
open Classical
theorem bl_lt : ∀ (x y : List UInt8), Op.bytesLess x y = true → x < y
  | [], [] => by simp [Op.bytesLess]
  | _ :: _, [] => by simp [Op.bytesLess]
  | [], _ :: _ => by simp [Op.bytesLess]
  | a :: x, b :: y => by
    intro h
    rw [Op.bytesLess] at h
    rw [List.cons_lt_cons_iff]
    simp only [Bool.or_eq_true, Bool.and_eq_true, decide_eq_true_eq, beq_iff_eq] at h
    rcases h with h | ⟨h, h2⟩
    · exact .inl h
    · exact .inr ⟨h, bl_lt x y h2⟩
theorem zo9 (l : List Bs) : strs (encS l) = l.map (·.data.toList) := by
  induction l with
  | nil => rfl
  | cons x l ih =>
    show _ :: strs (encS l) = _
    rw [ih]; rfl
theorem zn3 {l : List Bs} (h : Asc l) : sortRw (encS l) = encS l := by
  unfold sortRw
  rw [zo9, zmy]
  · rw [List.map_map]; rfl
  · rw [List.pairwise_map]
    exact h.imp fun {a b} hab => by
      have hlt := bl_lt _ _ hab
      rw [Lib.toList_data, Lib.toList_data] at hlt
      exact List.le_of_lt hlt
theorem zqa {l : List Bs} (h : Asc l) (hl : l.length ≤ 1000000) : Lqc0 none [.l (encS l)] = some [.l (encS l)] := by
  rw [eqc0_i, zn3 h, mostE, zbn, decide_eq_true (by omega)]; rfl
theorem zou {s : State} (V : VS s) : Lqco none [.i s.width, .i s.now, .i s.given, .i s.births, .l (encK s.things), .l (encP s.pins), .l (encL s.leases)] = some [.l (encS ((s.things.filter fun k => decide (Liv s k.sum)).map (·.sum)))] := by
  have n1 := V.nT
  have hv := zdx s V.names
  unfold encSt at hv
  rw [decide_eq_true V] at hv
  obtain ⟨ks, e, _, h2⟩ := zll V
  have hs := zhj (s := s) (by omega) ks true
  rw [eqco_i]
  simp (disch := omega) only [push_cast, hv, e, hs]
  congr 4
  unfold sumsM
  congr 1
  apply List.filter_congr
  intro k hk
  by_cases h : k.sum ∈ ks
  · rw [decide_eq_true h, decide_eq_true ((h2 _).1 h)]; rfl
  · rw [decide_eq_false h, decide_eq_false (fun h3 => h ((h2 _).2 h3))]; rfl
theorem zsj {s : State} (hN : ∀ p ∈ s.pins, p.name.size ≤ 4611686018427387904) (V : ¬ VS s) : Lqa none [.i s.width, .i s.now, .i s.given, .i s.births, .l (encK s.things), .l (encP s.pins), .l (encL s.leases)] = some [.b false] ∧ Lqco none [.i s.width, .i s.now, .i s.given, .i s.births, .l (encK s.things), .l (encP s.pins), .l (encL s.leases)] = some [.l []] ∧ Lqcp none [.i s.width, .i s.now, .i s.given, .i s.births, .l (encK s.things), .l (encP s.pins), .l (encL s.leases)] = some [.l []] ∧ Lqcb none [.i s.width, .i s.now, .i s.given, .i s.births, .l (encK s.things), .l (encP s.pins), .l (encL s.leases)] = some [.i 0] := by
  have hv := zdx s hN
  unfold encSt at hv
  rw [decide_eq_false V] at hv
  refine ⟨hv, ?_, ?_, ?_⟩
  · rw [eqco_i]; simp (disch := omega) only [push_cast, hv]
  · rw [eqcp_i]; simp (disch := omega) only [push_cast, hv]
  · rw [eqcb_i]; simp (disch := omega) only [push_cast, hv]
theorem zoo {T : List Kept} {F : List Bs} {x : Bs} : Rch T F x ↔ ∃ r ∈ F, Rch T [r] x := by
  constructor
  · intro h
    induction h with
    | base x hx => exact ⟨x, hx, .base x (by simp)⟩
    | ref k x hk hks hx ih => obtain ⟨r, hr, h⟩ := ih; exact ⟨r, hr, .ref k x hk h hx⟩
  · rintro ⟨r, hr, h⟩
    induction h with
    | base x hx => rw [List.mem_singleton] at hx; rw [hx]; exact .base r hr
    | ref k x hk hks hx ih => exact .ref k x hk ih hx
def encI (l : List Int) : Rw := l.map fun n => [.i n]
theorem zju (l : List Int) : (encI l).length = l.length := by simp [encI]
theorem zpq (l : List Int) (n : Int) : encI (l ++ [n]) = encI l ++ [[.i n]] := by simp [encI]
noncomputable def zbd (s : State) (x : Bs) : List Bs := (s.pins.filter fun p => decide (Rch s.things [p.sum] x)).map (·.name)
noncomputable def numsM (s : State) (x : Bs) : List Int := (s.leases.filter fun l => decide (Rch s.things [l.sum] x)).map (·.number)
theorem znf {s : State} (V : VS s) (x : Bs) : Asc (zbd s x) := by
  unfold zbd Asc
  rw [List.pairwise_map]
  exact V.srtP.sublist List.filter_sublist
theorem zh7 (s : State) (x : Bs) : (zbd s x).length ≤ s.pins.length := by
  unfold zbd; rw [List.length_map]; exact List.length_filter_le _ _
theorem zru (s : State) (x : Bs) : (numsM s x).length ≤ s.leases.length := by
  unfold numsM; rw [List.length_map]; exact List.length_filter_le _ _
theorem zlh {s : State} (x : Bs) : 0 < (zbd s x).length + (numsM s x).length ↔ Liv s x := by
  unfold Liv
  rw [zoo]
  constructor
  · intro h
    rcases (by omega : 0 < (zbd s x).length ∨ 0 < (numsM s x).length) with h | h
    · obtain ⟨n, hn⟩ := List.exists_mem_of_length_pos h
      obtain ⟨p, hp, _⟩ := List.mem_map.1 hn
      rw [List.mem_filter] at hp
      exact ⟨p.sum, zev.2 (.inl ⟨p, hp.1, rfl⟩), of_decide_eq_true hp.2⟩
    · obtain ⟨n, hn⟩ := List.exists_mem_of_length_pos h
      obtain ⟨p, hp, _⟩ := List.mem_map.1 hn
      rw [List.mem_filter] at hp
      exact ⟨p.sum, zev.2 (.inr ⟨p, hp.1, rfl⟩), of_decide_eq_true hp.2⟩
  · rintro ⟨r, hr, h⟩
    rcases zev.1 hr with ⟨p, hp, e⟩ | ⟨p, hp, e⟩
    · have : p.name ∈ zbd s x := List.mem_map.2 ⟨p, List.mem_filter.2 ⟨hp, decide_eq_true (by rw [e]; exact h)⟩, rfl⟩
      have := List.length_pos_of_mem this; omega
    · have : p.number ∈ numsM s x := List.mem_map.2 ⟨p, List.mem_filter.2 ⟨hp, decide_eq_true (by rw [e]; exact h)⟩, rfl⟩
      have := List.length_pos_of_mem this; omega
theorem znw {s : State} (V : VS s) (x : Bs) : Lq1 (some 15) [.s x, .l (encL s.leases), .i (s.leases.length : Int), .i 0, .i s.width, .i s.now, .i s.given, .i s.births, .l (encK s.things), .l (encP s.pins), .l (encL s.leases), .l (encS (zbd s x)), .l (encI [])] = some [.l (encS (zbd s x)), .l (encI (numsM s x))] := by
  have n2 := V.nP; have n3 := V.nL
  have hnl := zh7 s x
  exact zu (f := fun (i : Nat) (a : List Int) => Lq1 (some 15) [.s x, .l (encL s.leases), .i (s.leases.length : Int), .i (i : Int), .i s.width, .i s.now, .i s.given, .i s.births, .l (encK s.things), .l (encP s.pins), .l (encL s.leases), .l (encS (zbd s x)), .l (encI a)]) (n := s.leases.length)
    (I := fun i a => a = ((s.leases.take i).filter fun l => decide (Rch s.things [l.sum] x)).map (·.number)) (fun i a hi hI => ⟨a ++ (if decide (Rch s.things [(nth L0 s.leases i).sum] x) = true then [(nth L0 s.leases i).number] else []), by
      show Lq1 _ _ = Lq1 _ _
      have hl : a.length ≤ i := by
        rw [hI, List.length_map]
        have := List.length_filter_le (fun l : Lease => decide (Rch s.things [l.sum] x)) (s.leases.take i)
        rw [List.length_take] at this; omega
      obtain ⟨ks, e, _, hm⟩ := zgu V [(nth L0 s.leases i).sum] (fun y hy => by
        rw [List.mem_singleton] at hy; rw [hy]; exact (V.okL _ (zh hi)).2.2.1) (by simp)
      have e' : Lq4 none [.l [[.s (nth L0 s.leases i).sum]], .i s.width, .i s.now, .i s.given, .i s.births, .l (encK s.things), .l (encP s.pins), .l (encL s.leases)] = some [.m (setM ks)] := e
      rw [eq1_15, mostE]
      by_cases hx : Rch s.things [(nth L0 s.leases i).sum] x
      · rw [decide_eq_true hx, if_pos rfl, zpq]
        simp (disch := omega) only [push_cast, e', inM, decide_eq_true ((hm x).2 hx), zju] <;> rfl
      · rw [decide_eq_false hx, if_neg (by simp), List.append_nil]
        simp (disch := omega) only [push_cast, e', inM, decide_eq_false (fun h => hx ((hm x).1 h))] <;> rfl, by
      show a ++ _ = _
      rw [zz L0 hi, List.filter_append, List.map_append, ← hI]
      congr 1
      rw [List.filter_cons, List.filter_nil]
      split <;> rfl⟩) (fun a hI => by
      show Lq1 _ _ = _
      have hs := zqa (znf V x) (by omega)
      rw [eq1_15]
      rw [List.take_length] at hI
      simp (disch := omega) only [push_cast, hs]
      rw [hI]; rfl) 0 [] (Nat.zero_le _) rfl
theorem zro {s : State} (V : VS s) (x : Bs) : Lq1 (some 9) [.s x, .l (encP s.pins), .i (s.pins.length : Int), .i 0, .i s.width, .i s.now, .i s.given, .i s.births, .l (encK s.things), .l (encP s.pins), .l (encL s.leases), .l (encS []), .l (encI [])] = some [.l (encS (zbd s x)), .l (encI (numsM s x))] := by
  have n2 := V.nP; have n3 := V.nL
  exact zu (f := fun (i : Nat) (a : List Bs) => Lq1 (some 9) [.s x, .l (encP s.pins), .i (s.pins.length : Int), .i (i : Int), .i s.width, .i s.now, .i s.given, .i s.births, .l (encK s.things), .l (encP s.pins), .l (encL s.leases), .l (encS a), .l (encI [])]) (n := s.pins.length)
    (I := fun i a => a = ((s.pins.take i).filter fun p => decide (Rch s.things [p.sum] x)).map (·.name)) (fun i a hi hI => ⟨a ++ (if decide (Rch s.things [(nth P0 s.pins i).sum] x) = true then [(nth P0 s.pins i).name] else []), by
      show Lq1 _ _ = Lq1 _ _
      have hl : a.length ≤ i := by
        rw [hI, List.length_map]
        have := List.length_filter_le (fun l : Pin => decide (Rch s.things [l.sum] x)) (s.pins.take i)
        rw [List.length_take] at this; omega
      obtain ⟨ks, e, _, hm⟩ := zgu V [(nth P0 s.pins i).sum] (fun y hy => by
        rw [List.mem_singleton] at hy; rw [hy]; exact (V.okP _ (zh hi)).2) (by simp)
      have e' : Lq4 none [.l [[.s (nth P0 s.pins i).sum]], .i s.width, .i s.now, .i s.given, .i s.births, .l (encK s.things), .l (encP s.pins), .l (encL s.leases)] = some [.m (setM ks)] := e
      rw [eq1_9, mostE]
      by_cases hx : Rch s.things [(nth P0 s.pins i).sum] x
      · rw [decide_eq_true hx, if_pos rfl, ← zp]
        simp (disch := omega) only [push_cast, e', inM, decide_eq_true ((hm x).2 hx)] <;> rfl
      · rw [decide_eq_false hx, if_neg (by simp), List.append_nil]
        simp (disch := omega) only [push_cast, e', inM, decide_eq_false (fun h => hx ((hm x).1 h))] <;> rfl, by
      show a ++ _ = _
      rw [zz P0 hi, List.filter_append, List.map_append, ← hI]
      congr 1
      rw [List.filter_cons, List.filter_nil]
      split <;> rfl⟩) (fun a hI => by
      show Lq1 _ _ = _
      rw [eq1_9]
      rw [List.take_length] at hI
      obtain rfl : a = zbd s x := hI
      have := znw V x
      simp (disch := omega) only [push_cast]
      exact this) 0 [] (Nat.zero_le _) rfl
theorem zlp {s : State} (V : VS s) {x : Bs} (hx : hasT s.things x) : Lq1 none [.i s.width, .i s.now, .i s.given, .i s.births, .l (encK s.things), .l (encP s.pins), .l (encL s.leases), .s x] = some [.l (encS (zbd s x)), .l (encI (numsM s x))] := by
  have n1 := V.nT
  have hv := zdx s V.names
  unfold encSt at hv
  rw [decide_eq_true V] at hv
  have ht := zd5 s.width s.now s.given s.births s.things (encP s.pins) (encL s.leases) x V.srtT (by omega)
  have := zro V x
  rw [eq1_i]
  simp (disch := omega) only [push_cast, hv, ht, decide_eq_true hx]
  exact this
end KV
end
section
namespace KV
open Go Go.Eng
open Classical
theorem zjx : ∀ {a b : List Bs}, Asc a → Asc b → (∀ x, x ∈ a ↔ x ∈ b) → a = b
  | [], [], _, _, _ => rfl
  | [], y :: b, _, _, h => by have := (h y).2 (by simp); cases this
  | x :: a, [], _, _, h => by have := (h x).1 (by simp); cases this
  | x :: a, y :: b, ha, hb, h => by
    unfold Asc at ha hb
    rw [List.pairwise_cons] at ha hb
    have e : x = y := by
      rcases List.mem_cons.1 ((h x).1 (by simp)) with h1 | h1
      · exact h1
      · rcases List.mem_cons.1 ((h y).2 (by simp)) with h2 | h2
        · exact h2.symm
        · have := zbh (ha.1 y h2) (hb.1 x h1); rw [zca] at this; cases this
    subst e
    congr 1
    refine zjx ha.2 hb.2 fun z => ⟨fun hz => ?_, fun hz => ?_⟩
    · rcases List.mem_cons.1 ((h z).1 (by simp [hz])) with h1 | h1
      · subst h1; have := ha.1 z hz; rw [zca] at this; cases this
      · exact h1
    · rcases List.mem_cons.1 ((h z).2 (by simp [hz])) with h1 | h1
      · subst h1; have := hb.1 z hz; rw [zca] at this; cases this
      · exact h1
theorem zkq : ∀ {l : List Nat} {x : Nat}, x ∈ l → x ≤ l.sum
  | y :: l, x, h => by
    rw [List.sum_cons]
    rcases List.mem_cons.1 h with h | h
    · omega
    · have := zkq h; omega
theorem zn4 {s : State} (room i : Int) (hit : Bool) (live waste : List Bs) (x t : Bs) (b : Int) (refs : List Bs) (hr : refs.length ≤ 1000) (hl : live.length ≤ 1000) (h : hit = true → ∀ r ∈ refs, r ∈ live) :
    Lq2 (some 24) [.i room, .i i, .b hit, .i 0, .i s.width, .i s.now, .i s.given, .i s.births, .l (encK s.things), .l (encP s.pins), .l (encL s.leases), .l (encS live), .l (encS waste), .s x, .i b, .s t, .l (encS refs)] = Lq2 (some 12) [.i room, .i (IntKind.i64.wrap (i + 1)), .i s.width, .i s.now, .i s.given, .i s.births, .l (encK s.things), .l (encP s.pins), .l (encL s.leases), .l (encS live), .l (encS waste)] := by
  cases hit with
  | false => rw [eq2_24]; cases decide (0 < ((encS refs).length : Int)) <;> simp (disch := omega) only [push_cast]
  | true =>
    refine zu (f := fun (j : Nat) (u : Unit) => Lq2 (some 24) [.i room, .i i, .b true, .i (j : Int), .i s.width, .i s.now, .i s.given, .i s.births, .l (encK s.things), .l (encP s.pins), .l (encL s.leases), .l (encS live), .l (encS waste), .s x, .i b, .s t, .l (encS refs)]) (I := fun _ _ => True) (n := refs.length) (fun j u hj _ => ⟨u, ?_, trivial⟩) (fun u _ => ?_) 0 () (Nat.zero_le _) trivial
    · show Lq2 _ _ = Lq2 _ _
      rw [eq2_24]
      simp (disch := omega) only [push_cast, zgm live (nth .empty refs j) (by omega), decide_eq_true (h rfl _ (zh hj))] <;> rfl
    · show Lq2 _ _ = _
      rw [eq2_24]
      simp (disch := omega) only [push_cast]
theorem zr8 {s : State} (V : VS s) {live waste : List Bs} (hl : live.length ≤ 1000) (hw : waste.length ≤ 1000) (hlm : ∀ x, x ∈ live ↔ Liv s x) (hwm : ∀ k ∈ s.things, (k.sum ∈ waste ↔ ¬ Liv s k.sum)) :
    ∀ m i : Nat, s.things.length - i = m → i ≤ s.things.length → Lq2 (some 12) [.i (((s.things.take i).map fun k => (formM k.thing).size).sum : Nat), .i (i : Int), .i s.width, .i s.now, .i s.given, .i s.births, .l (encK s.things), .l (encP s.pins), .l (encL s.leases), .l (encS live), .l (encS waste)] = some [.b true] := by
  have n1 := V.nT; have n2 := V.nP; have n3 := V.nL
  have hrm := zg0 V
  intro m
  induction m with
  | zero =>
    intro i hm hi
    obtain rfl : i = s.things.length := by omega
    have hr := zre V
    rw [eq2_12, List.take_length]
    unfold roomM at hr
    simp (disch := omega) only [push_cast, hr]
  | succ m ih =>
    intro i hm hi
    have hlt : i < s.things.length := by omega
    have := ih (i + 1) (by omega) (by omega)
    obtain ⟨k, hk⟩ : ∃ k, nth K0 s.things i = k := ⟨_, rfl⟩
    have hkm : k ∈ s.things := by rw [← hk]; exact zh hlt
    have hth := V.okT k hkm
    rw [zz K0 hlt, hk, List.map_append, List.sum_append] at this
    have hsum : ((s.things.take i).map fun k => (formM k.thing).size).sum ≤ roomM s := by
      unfold roomM
      rw [List.map_take]
      exact zf9
    have hone : (formM k.thing).size ≤ roomM s := by
      unfold roomM
      have : (formM k.thing).size ∈ s.things.map fun k => (formM k.thing).size := List.mem_map.2 ⟨k, hkm, rfl⟩
      exact zkq this
    have hform := zb8 k.thing s.width
    have hf2 : formT k.thing s.width = formM k.thing := if_pos (zb4.2 hth.1)
    rw [hf2] at hform
    obtain ⟨N, hN⟩ : ∃ N, ((s.things.take i).map fun k => (formM k.thing).size).sum = N := ⟨_, rfl⟩
    rw [hN] at this hsum ⊢
    simp only [List.map_cons, List.map_nil, List.sum_cons, List.sum_nil, Nat.add_zero] at this
    have hrl := V.rl k hkm
    have h24 := zn4 (s := s) ((N : Int) + ((formM k.thing).size : Int)) (i : Int) (decide (Liv s k.sum)) live waste k.sum k.thing.text k.born k.thing.refs (by omega) hl (fun hd r hr => (hlm r).2 (.ref k r hkm (of_decide_eq_true hd) hr))
    rw [w64 (by omega)] at h24
    have hpush : ((N + (formM k.thing).size : Nat) : Int) = (N : Int) + ((formM k.thing).size : Int) := by omega
    rw [hpush] at this
    have hin1 := zgm live k.sum (by omega)
    have hin2 := zgm waste k.sum (by omega)
    have d1 : decide (k.sum ∈ live) = decide (Liv s k.sum) := decide_eq_decide.2 (hlm _)
    have d2 : decide (k.sum ∈ waste) = !decide (Liv s k.sum) := by
      by_cases hL : Liv s k.sum
      · rw [decide_eq_true hL, decide_eq_false fun h => (hwm k hkm).1 h hL]; rfl
      · rw [decide_eq_false hL, decide_eq_true ((hwm k hkm).2 hL)]; rfl
    rw [d1] at hin1
    rw [d2] at hin2
    have hH := zlp V (x := k.sum) ⟨k, hkm, rfl⟩
    have hnl := zh7 s k.sum
    have hml := zru s k.sum
    have hhl : decide (0 < ((zbd s k.sum).length : Int) + ((numsM s k.sum).length : Int)) = decide (Liv s k.sum) := decide_eq_decide.2 ⟨fun h => (zlh _).1 (by omega), fun h => by have := (zlh _).2 h; omega⟩
    rw [eq2_12]
    have hcast : ((i : Nat) : Int) + 1 = ((i + 1 : Nat) : Int) := by omega
    generalize decide (Liv s k.sum) = D at h24 hin1 hin2 hhl
    by_cases h12 : (i : Int) < 12
    · cases D <;> simp (disch := omega) only [push_cast, hk, hform, hin1, hin2, hH, zju, hhl, h24] <;> exact this
    · cases D <;> simp (disch := omega) only [push_cast, hk, hform, hin1, hin2, h24] <;> exact this
theorem zqx {c : Rw} (hc : ∀ i, 0 ≤ (rd c i 0).int ∧ (rd c i 0).int ≤ 255) : Lq2 none [.l c] = some [.b true] := by
  rw [eq2_i]
  by_cases hbig : (1048576 : Int) < (c.length : Int)
  · simp (disch := omega) only [push_cast]
  obtain ⟨s, e, hB⟩ := znu hc
  unfold encSt at e
  have SV := zg9 s hB.names
  unfold encSt at SV
  by_cases V : VS s
  rotate_left
  · obtain ⟨a1, a2, a3, a4⟩ := zsj hB.names V
    rw [decide_eq_false V] at SV
    have z : (([] : Rw).length : Int) = 0 := rfl
    simp (disch := omega) only [push_cast, e, SV, a1, a2, a3, a4, z]
  rw [decide_eq_true V] at SV
  have n1 := V.nT
  have hL := zou V
  have hW := zp0 V
  obtain ⟨o, le, la, lm, lll, lh⟩ := zqi V
  unfold encSt at le
  obtain ⟨L, hLe⟩ : ∃ L, (s.things.filter fun k => decide (Liv s k.sum)).map (·.sum) = L := ⟨_, rfl⟩
  obtain ⟨W, hWe⟩ : ∃ W, (s.things.filter fun k => !decide (Liv s k.sum)).map (·.sum) = W := ⟨_, rfl⟩
  have hlen : L.length + W.length = s.things.length := by
    rw [← hLe, ← hWe, List.length_map, List.length_map]
    exact (zhi (fun k : Kept => decide (Liv s k.sum)) s.things).symm
  have hLm : ∀ x, x ∈ L ↔ Liv s x := fun x => by
    rw [← hLe, List.mem_map]
    constructor
    · rintro ⟨k, hk, rfl⟩; exact of_decide_eq_true (List.mem_filter.1 hk).2
    · intro h
      obtain ⟨k, hk, rfl⟩ := zm9 V h
      exact ⟨k, List.mem_filter.2 ⟨hk, decide_eq_true h⟩, rfl⟩
  have hWm : ∀ k ∈ s.things, (k.sum ∈ W ↔ ¬ Liv s k.sum) := fun k hk => by
    rw [← hWe, List.mem_map]
    constructor
    · rintro ⟨j, hj, e⟩ h
      have := (List.mem_filter.1 hj).2
      rw [e, decide_eq_true h] at this; cases this
    · intro h
      exact ⟨k, List.mem_filter.2 ⟨hk, by rw [decide_eq_false h]; rfl⟩, rfl⟩
  have hLa : Asc L := by
    rw [← hLe]
    unfold Asc
    rw [List.pairwise_map]
    exact V.srtT.sublist List.filter_sublist
  have hLo : L = o := zjx hLa la fun x => (hLm x).trans (lm x).symm
  rw [hLe] at hL
  rw [hWe] at hW
  have hwl := zp7 L o (by omega) (by omega)
  rw [decide_eq_true hLo] at hwl
  have := zr8 V (live := L) (waste := W) (by omega) (by omega) hLm hWm s.things.length 0 (by omega) (Nat.zero_le _)
  have this' : Lq2 (some 12) [.i 0, .i 0, .i s.width, .i s.now, .i s.given, .i s.births, .l (encK s.things), .l (encP s.pins), .l (encL s.leases), .l (encS L), .l (encS W)] = some [.b true] := this
  simp (disch := omega) only [push_cast, e, SV, hL, hW, le, hwl]
  exact this'
end KV
end
