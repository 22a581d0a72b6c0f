/- Plain laws over the walks' closed forms. -/
import Derived.Test.YtbgmclgeikflaaaGreatM1
import Derived.Test.YtbgmclgeikflaaaGreatM2
import Derived.Test.YtbgmclgeikflaaaGreatM3
import Derived.Test.YtbgmclgeikflaaaGreatM4
import Derived.Test.YtbgmclgeikflaaaGreatM5
set_option linter.unusedSimpArgs false
set_option linter.unusedVariables false
set_option linter.unusedSectionVars false
section
namespace KV
open Go Go.Eng
open Classical
theorem zfl (r : Round) (h1 : r.queue.length ≤ 1099511627776) (h2 : r.marked.length ≤ 1099511627776) : Lqbg none (encR r) = some (encRo r) := by
  unfold encR encRo
  rw [eqbg_i, mostE]; simp (disch := omega) only [push_cast, List.nil_append]
theorem zje (a b : List Bs) (ha : Small a) (hb : Small b) : Lqcy none [.l (encS a), .l (encS b)] = some [.l (encS a), .l (encS b)] := by
  have h1 := ha.1; have h2 := hb.1
  rw [eqcy_i, mostE]; simp (disch := omega) only [push_cast, List.nil_append]
theorem ze0 {v : Vault} (V : VV v) : Lqbv none (encV v) = some (vI v ++ vL v) := by
  have h := V.small; have Vs := V.vs.1
  have h1 := zfl v.rd h.q h.m
  have h2 := Vs.nT; have h3 := Vs.nP; have h4 := Vs.nL
  unfold encV
  unfold encR encRo at h1
  rw [eqbv_i, zje _ _ h.a h.b]
  simp (disch := omega) only [push_cast, zcv v.st.width v.st.now v.st.given v.st.births v.st.things (encP v.st.pins) (encL v.st.leases) (by omega) (zb0 Vs) (by rw [zbx]; omega) (by rw [zb2]; omega), h1]
  rfl
theorem zo5 {s : State} (V : VS s) : Lqcf none (encSt s) = some [.i (roomM s : Int)] := by
  unfold encSt
  have hn := V.nT; have hr := zkp V
  rw [eqcf_i]
  have := z6 (f := fun (i : Nat) (a : Nat) => Lqcf (some 3) [.i (a : Int), .i (i : Int), .i s.width, .i s.now, .i s.given, .i s.births, .l (encK s.things), .l (encP s.pins), .l (encL s.leases)]) (n := s.things.length) (T := some [.i (roomM s : Int)])
    (I := fun i a => a = ((s.things.map fun k => (formM k.thing).size).take i).sum) (fun i a hi hI => ⟨a + (formM (nth K0 s.things i).thing).size, by
      show Lqcf _ _ = Lqcf _ _
      have hk := (V.okT _ (zi (d := K0) hi)).1
      have hk2 := zbj hk
      have ha : a ≤ roomM s := by rw [hI]; exact zne
      have hf := zbl (nth K0 s.things i).thing
      have hz : ((nth K0 s.things i).thing.refs.length : Int) * s.width = (szs (nth K0 s.things i).thing.refs : Int) := by
        have : ∀ l : List Bs, (∀ r ∈ l, (r.size : Int) = s.width) → (l.length : Int) * s.width = (szs l : Int) := by
          intro l
          induction l with
          | nil => intro _; simp [szs]
          | cons a l ih => intro hl; rw [zen, List.length_cons, Int.natCast_add, Int.natCast_add, ← ih fun r hr => hl r (by simp [hr]), hl a (by simp), Int.add_mul]; omega
        exact this _ hk.size
      rw [eqcf_3]
      simp (disch := omega) only [push_cast, hz]
      congr 3
      omega, by
      show a + (formM (nth K0 s.things i).thing).size = _
      rw [hI, ← List.map_take, ← List.map_take, zbb K0 hi, List.map_append, List.sum_append]; simp⟩) (fun a hI => by
      show Lqcf _ _ = _
      rw [eqcf_3]
      simp (disch := omega) only [push_cast]
      rw [hI, List.take_of_length_le (by simp)]; rfl) 0 0 (Nat.zero_le _) rfl
  exact this
theorem zpu {s : State} (hs : SrtK s.things) (hn : s.things.length ≤ 1000000) (r : Round) (x : Bs) (h1 : r.queue.length ≤ 1099511627775) (h2 : r.marked.length ≤ 1099511627776) : Lqc5 none (encSt s ++ encR r ++ [.s x]) = some (encRo (z8 s r x)) := by
  show Lqc5 none [.i s.width, .i s.now, .i s.given, .i s.births, .l (encK s.things), .l (encP s.pins), .l (encL s.leases), .i r.phase, .l (encS r.queue), .l (encS r.marked), .i r.top, .i r.at_, .i r.rounds, .s x] = _
  have hcr := zfl r (by omega) h2
  have hcr' : Lqbg none [.i r.phase, .l (encS r.queue), .l (encS r.marked), .i r.top, .i r.at_, .i r.rounds] = some [.i r.phase, .i r.top, .i r.at_, .i r.rounds, .l (encS r.queue), .l (encS r.marked)] := hcr
  have hf := zbi (T := s.things) (x := x)
  rw [eqc5_i, mostE]
  unfold z8
  simp (disch := omega) only [push_cast, hcr', zcl _ _ _ _ s.things _ _ x hs hn]
  by_cases c2 : r.phase = 0
  · rw [if_neg fun h => h.2.1 c2]; simp (disch := omega) only [push_cast]; rfl
  by_cases c1 : hasT s.things x
  rotate_left; · rw [if_neg fun h => c1 h.1]; have := hf.2 c1; simp (disch := omega) only [push_cast]; rfl
  have c1' : ¬ findT s.things x < 0 := fun h => hf.1 h c1
  by_cases c3 : x ∈ r.marked
  · rw [if_neg fun h => h.2.2.1 c3]; simp (disch := omega) only [push_cast, z0 r.marked x (by omega), decide_eq_true c3]; rfl
  by_cases c4 : r.queue.length < 23200
  · rw [if_pos ⟨c1, c2, c3, c4⟩]; simp (disch := omega) only [push_cast, z0 r.marked x (by omega), decide_eq_false c3]
    rw [z7, zn]; rfl
  · rw [if_neg fun h => c4 h.2.2.2]; simp (disch := omega) only [push_cast, z0 r.marked x (by omega), decide_eq_false c3]; rfl
noncomputable def doS (v : Vault) (e : Entry) : Did := doE v e (decide (zbh e (chg v.st e) ≠ E0))
theorem do_25 (x : Bs) (w lim : Int) (s : State) (r : Round) (sum : Bs) (lease : Int) (sf ls : List Bs) (hs : SrtK s.things) (hn : s.things.length ≤ 1000000) (h1 : r.queue.length ≤ 1099511627775) (h2 : r.marked.length ≤ 1099511627776)
    (i1 i2 i3 i4 i5 : Int) (l1 l2 l3 : Rw) (s2 s3 : Bs) :
    Lql (some 25) [.s x, .i 0, .i 0, .i 0, .i 0, .i 0, .i 0, .i 0, .i 0, .i 0, .i 0, .i 0, .s E0, .i 0, .s E0, .s E0, .i i1, .i i2, .i i3, .i i4, .i i5, .l l1, .l l2, .s sum, .i lease, .s s2, .s s3, .i w, .i lim, .i s.width, .i s.now, .i s.given, .i s.births, .i r.phase, .i r.top, .i r.at_, .i r.rounds, .l l3, .l (encS sf), .l (encS ls), .l (encK s.things), .l (encP s.pins), .l (encL s.leases), .l (encS r.queue), .l (encS r.marked), .l [], .l [], .l [], .l [], .l [], .l [], .l []] =
      some (zo ⟨0, ⟨w, lim, sf, ls, s, if decide (x ≠ E0) = true then z8 s r x else r⟩, sum, lease, E0, E0⟩) := by
  rw [eql_25]
  have := zpu hs hn r x h1 h2
  have h' : Lqc5 none [.i s.width, .i s.now, .i s.given, .i s.births, .l (encK s.things), .l (encP s.pins), .l (encL s.leases), .i r.phase, .l (encS r.queue), .l (encS r.marked), .i r.top, .i r.at_, .i r.rounds, .s x] = _ := this
  rw [h']
  by_cases hx : x = E0
  · rw [if_neg (by simp [hx])]; simp (disch := omega) only [push_cast]; rfl
  · rw [if_pos (by simp [hx])]; unfold encRo; simp (disch := omega) only [push_cast]; rfl
theorem zdo {v : Vault} (h : SmallV v) (e : Entry) (hn : e.name.size ≤ 4611686018427387904) : Lql none (encV v ++ encE e) = some (zo (doS v e)) := by
  show Lql none [.i v.width, .i v.limit, .l (encS v.safe), .l (encS v.loose), .i v.st.width, .i v.st.now, .i v.st.given, .i v.st.births, .l (encK v.st.things), .l (encP v.st.pins), .l (encL v.st.leases), .i v.rd.phase, .l (encS v.rd.queue), .l (encS v.rd.marked), .i v.rd.top, .i v.rd.at_, .i v.rd.rounds, .i e.kind, .s e.sum, .s e.name, .i e.number, .s e.thing.text, .l (encS e.thing.refs)] = _
  have hvv := zdy h
  unfold encV at hvv
  rw [eql_i, hvv]
  unfold doS doE
  by_cases V : VV v
  rotate_left
  · rw [if_pos V, decide_eq_false V]; simp (disch := omega) only [push_cast]; rfl
  have hcp := ze0 V
  unfold encV at hcp
  rw [if_neg (not_not_intro V), decide_eq_true V, hcp]
  have hen := zhk e v.width hn
  rw [show Lqu none [.i e.kind, .s e.sum, .s e.name, .i e.number, .s e.thing.text, .l (encS e.thing.refs), .i v.width] = _ from hen]
  by_cases he : zg e v.width = true
  rotate_left
  · rw [if_pos he]
    have : zg e v.width = false := by simpa using he
    simp (disch := omega) only [push_cast, this]; rfl
  rw [if_neg (not_not_intro he)]
  have Vs := V.vs
  have he' : zg e v.st.width = true := by rw [Vs.2]; exact he
  have hch := znd Vs.1 he'
  have hch' : Lqcs none [.i v.st.width, .i v.st.now, .i v.st.given, .i v.st.births, .l (encK v.st.things), .l (encP v.st.pins), .i e.kind, .s e.sum, .s e.name, .i e.number, .s e.thing.text, .l (encS e.thing.refs), .l (encL v.st.leases)] = _ := hch
  have hfe := zdu e v.width hn
  have hfe' : Lqv none [.i e.kind, .s e.sum, .s e.name, .i e.number, .s e.thing.text, .l (encS e.thing.refs), .i v.width] = _ := hfe
  rw [if_pos he] at hfe'
  have hq := h.q; have hm := h.m
  have hln := V.log.n
  have n1 := Vs.1.nT; have n2 := Vs.1.nP; have n3 := Vs.1.nL
  have hc4 := zcv v.st.width v.st.now v.st.given v.st.births v.st.things (encP v.st.pins) (encL v.st.leases) (by omega) (zb0 Vs.1) (by rw [zbx]; omega) (by rw [zb2]; omega)
  simp only [vI, vL, List.cons_append, List.nil_append]
  by_cases hcode : (chg v.st e).code = 0
  rotate_left
  · rw [if_pos hcode]
    simp only [zt] at hch'
    rw [if_neg hcode] at hch'
    simp (disch := omega) only [push_cast, he, hc4, hch', decide_eq_false hcode]
    rfl
  rw [if_neg (not_not_intro hcode)]
  simp only [zt] at hch'
  rw [if_pos hcode] at hch'
  have Vc := zdc Vs.1 he' hcode
  have hrm := zo5 Vc
  unfold encSt at hrm
  have hqn := V.rd.nQ
  have hmn := V.rd.nM
  have m1 := Vc.nT; have m2 := Vc.nP; have m3 := Vc.nL
  have hc5 := zcv (chg v.st e).st.width (chg v.st e).st.now (chg v.st e).st.given (chg v.st e).st.births (chg v.st e).st.things (encP (chg v.st e).st.pins) (encL (chg v.st e).st.leases) (by omega) (zb0 Vc) (by rw [zbx]; omega) (by rw [zb2]; omega)
  by_cases h8 : e.kind = 1 ∧ v.limit < (roomM (chg v.st e).st : Int)
  · rw [if_pos h8]
    have h81 := h8.1; have h82 := h8.2
    simp (disch := omega) only [push_cast, he, hc4, hch', hrm]
    rfl
  rw [if_neg h8]
  by_cases h9 : v.safe.length + v.loose.length = 4000
  · rw [if_pos h9]
    by_cases hk : e.kind = 1
    · have : ¬ v.limit < (roomM (chg v.st e).st : Int) := fun h => h8 ⟨hk, h⟩
      simp (disch := omega) only [push_cast, he, hc4, hch', hrm]; rfl
    · simp (disch := omega) only [push_cast, he, hc4, hch']; rfl
  rw [if_neg h9]
  by_cases hk : e.kind = 1
  · have hlim : ¬ v.limit < (roomM (chg v.st e).st : Int) := fun h => h8 ⟨hk, h⟩
    simp (disch := omega) only [push_cast, he, hc4, hch', hrm, hfe', hc5, mostE]
    rw [z7, zn, do_25 _ _ _ (chg v.st e).st v.rd _ _ _ _ Vc.srtT (by omega) (by omega) (by omega)]
    unfold zbh; rw [if_pos hk]
  · simp (disch := omega) only [push_cast, he, hc4, hch', hfe', hc5, mostE]
    rw [z7, zn, do_25 _ _ _ (chg v.st e).st v.rd _ _ _ _ Vc.srtT (by omega) (by omega) (by omega)]
    unfold zbh; rw [if_neg hk]
end KV
end
section
namespace KV
open Go Go.Eng
open Classical
theorem zhu {α : Type} (d : α) {R : α → α → Prop} (tr : ∀ a b c, R a b → R b c → R a c) (l : List α) : l.Pairwise R ↔ ∀ j, 0 < j → j < l.length → R (nth d l (j - 1)) (nth d l j) := by
  constructor
  · intro h j h1 h2; exact zfr d h (by omega) h2
  · intro h
    rw [List.pairwise_iff_getElem]
    intro i j hi hj hij
    rw [← zm d l i hi, ← zm d l j hj]
    have : ∀ k, i + k + 1 < l.length → R (nth d l i) (nth d l (i + k + 1)) := by
      intro k
      induction k with
      | zero => intro hk; have := h (i + 1) (by omega) hk; rwa [Nat.add_sub_cancel] at this
      | succ k ih => intro hk; exact tr _ _ _ (ih (by omega)) (by have := h (i + (k + 1) + 1) (by omega) hk; rwa [Nat.add_sub_cancel] at this)
    have := this (j - i - 1) (by omega)
    rwa [show i + (j - i - 1) + 1 = j by omega] at this
def bsT (T : List Kept) (i : Nat) : List Int := (T.take i).map (·.born)
theorem bsT_S (T : List Kept) (i : Nat) (h : i < T.length) : bsT T (i + 1) = bsT T i ++ [(nth K0 T i).born] := by
  unfold bsT
  rw [zm K0 T i h, List.take_add_one, List.map_append, List.getElem?_eq_getElem h]; rfl
structure tP (w births : Int) (T : List Kept) (j : Nat) : Prop where
  adj : 0 < j → slt (nth K0 T (j - 1)).sum (nth K0 T j).sum = true
  ok : ThingOk (nth K0 T j).thing w
  sum : (nth K0 T j).sum = sumM (formM (nth K0 T j).thing) w
  lo : 1 ≤ (nth K0 T j).born
  hi : (nth K0 T j).born ≤ births
  new : (nth K0 T j).born ∉ bsT T j
theorem zlu (T : List Kept) : (T.map (·.born)).Nodup ↔ ∀ j, 0 ≤ j → j < T.length → (nth K0 T j).born ∉ bsT T j := by
  constructor
  · intro h j _ hj hm
    obtain ⟨a, ha, he⟩ := List.mem_map.1 hm
    obtain ⟨i, hi, rfl⟩ := List.mem_iff_getElem.1 ha
    rw [List.length_take] at hi
    rw [List.getElem_take] at he
    have := List.pairwise_iff_getElem.1 h i j (by rw [List.length_map]; omega) (by rw [List.length_map]; omega) (by omega)
    rw [List.getElem_map, List.getElem_map] at this
    rw [zm K0 T j hj] at he
    exact this he
  · intro h
    rw [List.Nodup, List.pairwise_iff_getElem]
    intro i j hi hj hij he
    rw [List.length_map] at hi hj
    rw [List.getElem_map, List.getElem_map] at he
    apply h j (Nat.zero_le _) hj
    rw [zm K0 T j hj, ← he]
    exact List.mem_map.2 ⟨_, List.mem_take_iff_getElem.2 ⟨i, by omega, rfl⟩, rfl⟩
theorem zi2 (w births : Int) (T : List Kept) : (∀ j, 0 ≤ j → j < T.length → tP w births T j) ↔ SrtK T ∧ (∀ k ∈ T, ThingOk k.thing w ∧ k.sum = sumM (formM k.thing) w ∧ 1 ≤ k.born ∧ k.born ≤ births) ∧ (T.map (·.born)).Nodup := by
  rw [zlu, show SrtK T ↔ _ from zhu K0 (R := fun a b => slt a.sum b.sum = true) (fun a b c h1 h2 => zbq h1 h2) T]
  constructor
  · intro h
    refine ⟨fun j h1 h2 => (h j (by omega) h2).adj h1, fun k hk => ?_, fun j h1 h2 => (h j h1 h2).new⟩
    obtain ⟨j, hj, rfl⟩ := z9 K0 hk
    have := h j (Nat.zero_le _) hj
    exact ⟨this.ok, this.sum, this.lo, this.hi⟩
  · rintro ⟨h1, h2, h3⟩ j h4 h5
    have := h2 _ (zi (d := K0) h5)
    exact ⟨fun h => h1 j h h5, this.1, this.2.1, this.2.2.1, this.2.2.2, h3 j h4 h5⟩
def refIn (T : List Kept) (b : Int) (r : Bs) : Prop := hasT T r ∧ (nth K0 T (lb (qK r) T)).born < b
theorem zl1 {T : List Kept} (h : SrtK T) (b : Int) (r : Bs) : refIn T b r ↔ ∃ j ∈ T, j.sum = r ∧ j.born < b := by
  constructor
  · rintro ⟨h1, h2⟩
    obtain ⟨h3, h4⟩ := (zbk h r).1 h1
    exact ⟨_, zi h3, h4, h2⟩
  · rintro ⟨k, hk, rfl, hb⟩
    obtain ⟨j, hj, rfl⟩ := z9 K0 hk
    have := zcn K0 h (kp (nth K0 T j).sum) (kR (nth K0 T j).sum) hj rfl
    refine ⟨⟨_, zi hj, rfl⟩, ?_⟩
    rw [← this]; exact hb
structure pP (T : List Kept) (P : List Pin) (j : Nat) : Prop where
  has : hasT T (nth P0 P j).sum
  nm : NameOk (nth P0 P j).name
  adj : 0 < j → slt (nth P0 P (j - 1)).name (nth P0 P j).name = true
theorem zpm (T : List Kept) (P : List Pin) : (∀ j, 0 ≤ j → j < P.length → pP T P j) ↔ SrtP P ∧ ∀ p ∈ P, NameOk p.name ∧ hasT T p.sum := by
  rw [show SrtP P ↔ _ from zhu P0 (R := fun a b => slt a.name b.name = true) (fun a b c h1 h2 => zbq h1 h2) P]
  constructor
  · intro h
    refine ⟨fun j h1 h2 => (h j (by omega) h2).adj h1, fun k hk => ?_⟩
    obtain ⟨j, hj, rfl⟩ := z9 P0 hk
    have := h j (Nat.zero_le _) hj
    exact ⟨this.nm, this.has⟩
  · rintro ⟨h1, h2⟩ j h4 h5
    have := h2 _ (zi (d := P0) h5)
    exact ⟨this.2, this.1, fun h => h1 j h h5⟩
structure lP (now given : Int) (T : List Kept) (L : List Lease) (j : Nat) : Prop where
  has : hasT T (nth L0 L j).sum
  lo : 1 ≤ (nth L0 L j).number
  hi : (nth L0 L j).number ≤ given
  adj : 0 < j → (nth L0 L (j - 1)).number < (nth L0 L j).number
  t1 : now < (nth L0 L j).till
  t2 : (nth L0 L j).till ≤ now + 100000
theorem ztk (now given : Int) (T : List Kept) (L : List Lease) : (∀ j, 0 ≤ j → j < L.length → lP now given T L j) ↔ SrtL L ∧ ∀ l ∈ L, 1 ≤ l.number ∧ l.number ≤ given ∧ hasT T l.sum ∧ now < l.till ∧ l.till ≤ now + 100000 := by
  rw [show SrtL L ↔ _ from zhu L0 (R := fun a b => a.number < b.number) (fun a b c h1 h2 => Int.lt_trans h1 h2) L]
  constructor
  · intro h
    refine ⟨fun j h1 h2 => (h j (by omega) h2).adj h1, fun k hk => ?_⟩
    obtain ⟨j, hj, rfl⟩ := z9 L0 hk
    have := h j (Nat.zero_le _) hj
    exact ⟨this.lo, this.hi, this.has, this.t1, this.t2⟩
  · rintro ⟨h1, h2⟩ j h4 h5
    have := h2 _ (zi (d := L0) h5)
    exact ⟨this.2.2.1, this.1, this.2.1, fun h => h1 j h h5, this.2.2.2.1, this.2.2.2.2⟩
theorem zr4 (s : State) : VS s ↔ (1 ≤ s.width ∧ s.width ≤ 8) ∧ (0 ≤ s.now ∧ s.now ≤ 1000000000) ∧ (0 ≤ s.given ∧ s.given ≤ 1000000000) ∧ (0 ≤ s.births ∧ s.births ≤ 1000000000) ∧ s.things.length ≤ 600 ∧ s.pins.length ≤ 100 ∧ s.leases.length ≤ 200 ∧
    (∀ j, 0 ≤ j → j < s.things.length → tP s.width s.births s.things j) ∧ (∀ j, 0 ≤ j → j < s.things.length → ∀ i, 0 ≤ i → i < (nth K0 s.things j).thing.refs.length → refIn s.things (nth K0 s.things j).born (nth .empty (nth K0 s.things j).thing.refs i)) ∧
    (∀ j, 0 ≤ j → j < s.pins.length → pP s.things s.pins j) ∧ (∀ j, 0 ≤ j → j < s.leases.length → lP s.now s.given s.things s.leases j) := by
  rw [zi2, zpm, ztk]
  constructor
  · intro V
    refine ⟨V.wd, V.now, V.given, V.births, V.nT, V.nP, V.nL, ⟨V.srtT, V.okT, V.ndT⟩, fun j _ hj i _ hi => (zl1 V.srtT _ _).2 (V.refs _ (zi hj) _ (zi hi)), ⟨V.srtP, V.okP⟩, ⟨V.srtL, V.okL⟩⟩
  · rintro ⟨a, b, c, d, e, f, g, ⟨h1, h2, h3⟩, i, ⟨j1, j2⟩, ⟨k1, k2⟩⟩
    refine ⟨a, b, c, d, e, f, g, h1, h2, h3, fun k hk r hr => ?_, j1, j2, k1, k2⟩
    obtain ⟨m, hm, rfl⟩ := z9 K0 hk
    obtain ⟨n, hn, rfl⟩ := z9 .empty hr
    exact (zl1 h1 _ _).1 (i m (Nat.zero_le _) hm n (Nat.zero_le _) hn)
theorem VS.names {s : State} (V : VS s) : ∀ p ∈ s.pins, p.name.size ≤ 4611686018427387904 := fun p hp => by have := (V.okP p hp).1.hi; omega
end KV
end
section
namespace KV
open Go Go.Eng
open Classical
noncomputable def near (T : List Kept) (i : Nat) : Rw := (List.range 601).map fun b : Nat => [.b (decide ((b : Int) ∈ bsT T i))]
def farL (T : List Kept) (i : Nat) : List Int := (bsT T i).filter fun b => decide (600 < b)
def encN (l : List Int) : Rw := l.map fun n => [.i n]
@[push_cast] theorem zvk (l : List Int) : (encN l).length = l.length := by simp [encN]
@[push_cast] theorem zvj (l : List Int) (i : Nat) : (rd (encN l) i 0).int = nth 0 l i := by
  rcases Nat.lt_or_ge i l.length with h | h
  · rw [encN, zhy _ _ _ _ h, zm _ _ _ h]; rfl
  · rw [zni _ _ _ h]; unfold encN; rw [zie _ _ _ _ h]; rfl
@[push_cast] theorem ziu (T : List Kept) (i : Nat) : (near T i).length = 601 := by simp [near]
theorem ztv (T : List Kept) (i b : Nat) (h : b ≤ 600) : (rd (near T i) b 0).bool = decide ((b : Int) ∈ bsT T i) := by
  rw [near, zhy _ _ _ _ (by rw [List.length_range]; omega), List.getElem_range]; rfl
theorem zn3 (T : List Kept) (i b : Nat) (hi : i < T.length) (h : b ≤ 600) (hb : (nth K0 T i).born = (b : Int)) : wrs (near T i) b 0 [.b true] = near T (i + 1) := by
  have e : (near T i).getD b [] = [.b (decide ((b : Int) ∈ bsT T i))] := by
    unfold near
    rw [List.getD_eq_getElem?_getD, List.getElem?_map, List.getElem?_range (by omega)]; rfl
  have h1 : wrs (near T i) b 0 [.b true] = (near T i).set b [.b true] := by
    unfold wrs wrs wr
    rw [e]; rfl
  rw [h1]
  apply List.ext_getElem?
  intro j
  rw [List.getElem?_set]
  rcases Nat.lt_or_ge j 601 with hj | hj
  · by_cases hjb : b = j
    · subst hjb
      rw [if_pos rfl, if_pos (by rw [ziu]; exact hj)]
      unfold near
      rw [List.getElem?_map, List.getElem?_range hj, Option.map_some, bsT_S _ _ hi, hb]
      simp
    · rw [if_neg hjb]
      unfold near
      rw [List.getElem?_map, List.getElem?_map, List.getElem?_range hj, Option.map_some, Option.map_some, bsT_S _ _ hi, hb]
      have : ((j : Int) ∈ bsT T i) ↔ ((j : Int) ∈ bsT T i ++ [(b : Int)]) := by
        rw [List.mem_append, List.mem_singleton]
        exact ⟨.inl, fun h => h.elim id fun h => absurd (by omega : b = j) hjb⟩
      rw [decide_eq_decide.2 this]
  · rw [if_neg (by omega), List.getElem?_eq_none (by rw [ziu]; exact hj), List.getElem?_eq_none (by rw [ziu]; exact hj)]
theorem far_S (T : List Kept) (i : Nat) (hi : i < T.length) : farL T (i + 1) = farL T i ++ (if 600 < (nth K0 T i).born then [(nth K0 T i).born] else []) := by
  unfold farL
  rw [bsT_S _ _ hi, List.filter_append]
  congr 1
  split
  · rename_i h; simp [h]
  · rename_i h; simp [h]
theorem zuu (T : List Kept) (i : Nat) (hi : i < T.length) (h : 600 < (nth K0 T i).born) : near T (i + 1) = near T i := by
  unfold near
  apply List.map_congr_left
  intro b hb
  rw [List.mem_range] at hb
  rw [bsT_S _ _ hi]
  have : ((b : Int) ∈ bsT T i ++ [(nth K0 T i).born]) ↔ ((b : Int) ∈ bsT T i) := by
    rw [List.mem_append, List.mem_singleton]
    exact ⟨fun h1 => h1.elim id fun h1 => absurd h1 (by omega), .inl⟩
  rw [decide_eq_decide.2 this]
theorem zul (T : List Kept) (i : Nat) : (farL T i).length ≤ T.length := by
  unfold farL bsT
  refine Nat.le_trans (List.length_filter_le _ _) ?_
  rw [List.length_map, List.length_take]; omega
theorem zjp (T : List Kept) (i : Nat) {b : Int} (h : 600 < b) : b ∈ farL T i ↔ b ∈ bsT T i := by
  unfold farL; rw [List.mem_filter]; simp [h]
section
variable {s : State}
theorem zrl (hT : SrtK s.things) (nT : s.things.length ≤ 600) (hR : ∀ k ∈ s.things, k.thing.refs.length ≤ 30) : Lqc (some 20) [.i 0, .i s.width, .i s.now, .i s.given, .i s.births, .l (encK s.things), .l (encP s.pins), .l (encL s.leases)]
    = if (∀ j, 0 ≤ j → j < s.things.length → ∀ i, 0 ≤ i → i < (nth K0 s.things j).thing.refs.length → refIn s.things (nth K0 s.things j).born (nth .empty (nth K0 s.things j).thing.refs i)) then some [.b true] else some [.b false] := by
  refine zu (f := fun i : Nat => Lqc (some 20) [.i (i : Int), .i s.width, .i s.now, .i s.given, .i s.births, .l (encK s.things), .l (encP s.pins), .l (encL s.leases)]) (P := fun j => ∀ i, 0 ≤ i → i < (nth K0 s.things j).thing.refs.length → refIn s.things (nth K0 s.things j).born (nth .empty (nth K0 s.things j).thing.refs i)) (fun i hi => ?_) ?_ 0 (Nat.zero_le _)
  · have hr := hR _ (zi (d := K0) hi)
    have inner := zu (f := fun j : Nat => Lqc (some 23) [.i (i : Int), .i (j : Int), .i s.width, .i s.now, .i s.given, .i s.births, .l (encK s.things), .l (encP s.pins), .l (encL s.leases)])
      (P := fun j => refIn s.things (nth K0 s.things i).born (nth .empty (nth K0 s.things i).thing.refs j)) (n := (nth K0 s.things i).thing.refs.length) (T := Lqc (some 20) [.i ((i + 1 : Nat) : Int), .i s.width, .i s.now, .i s.given, .i s.births, .l (encK s.things), .l (encP s.pins), .l (encL s.leases)]) (F := some [.b false])
      (fun j hj => by
        show (_ → Lqc _ _ = Lqc _ _) ∧ (_ → Lqc _ _ = _)
        rw [eqc_23]
        have hf := zbi (T := s.things) (x := nth .empty (nth K0 s.things i).thing.refs j)
        simp (disch := omega) only [push_cast, zcl s.width s.now s.given s.births s.things (encP s.pins) (encL s.leases) (nth .empty (nth K0 s.things i).thing.refs j) hT (by omega)]
        by_cases c1 : hasT s.things (nth .empty (nth K0 s.things i).thing.refs j)
        rotate_left; · exact ⟨fun h => absurd h.1 c1, fun _ => by have := hf.2 c1; simp (disch := omega) only [push_cast]⟩
        have hl := ((zbk hT _).1 c1).1
        have hfi : findT s.things (nth .empty (nth K0 s.things i).thing.refs j) = (lb (qK (nth .empty (nth K0 s.things i).thing.refs j)) s.things : Int) := if_pos c1
        rw [hfi]
        by_cases c2 : (nth K0 s.things (lb (qK (nth .empty (nth K0 s.things i).thing.refs j)) s.things)).born < (nth K0 s.things i).born
        rotate_left; · exact ⟨fun h => absurd h.2 c2, fun _ => by simp (disch := omega) only [push_cast]⟩
        exact ⟨fun _ => by simp (disch := omega) only [push_cast] <;> rfl, fun h => absurd ⟨c1, c2⟩ h⟩)
      (by show Lqc _ _ = Lqc _ _; rw [eqc_23]; simp (disch := omega) only [push_cast] <;> rfl) 0 (Nat.zero_le _)
    show (_ → Lqc _ _ = Lqc _ _) ∧ (_ → Lqc _ _ = _)
    rw [eqc_20]
    simp (disch := omega) only [push_cast]
    have inner' : Lqc (some 23) [.i (i : Int), .i 0, .i s.width, .i s.now, .i s.given, .i s.births, .l (encK s.things), .l (encP s.pins), .l (encL s.leases)] = _ := inner
    rw [inner']
    exact ⟨fun h => if_pos h, fun h => if_neg h⟩
  · show Lqc _ _ = _
    rw [eqc_20]; simp (disch := omega) only [push_cast]
theorem zt9 (nT : s.things.length ≤ 600) (i : Nat) (hi : i < s.things.length) (l : List Int) (hl : l.length ≤ 1000000) (nrw : Rw) (b : Int) (x y : Bs) (z : Rw) :
    Lqc (some 14) [.i (i : Int), .i 0, .i s.width, .i s.now, .i s.given, .i s.births, .l (encK s.things), .l (encP s.pins), .l (encL s.leases), .l nrw, .l (encN l), .s x, .i b, .s y, .l z] =
      if b ∈ l then some [.b false] else Lqc (some 4) [.i ((i + 1 : Nat) : Int), .i s.width, .i s.now, .i s.given, .i s.births, .l (encK s.things), .l (encP s.pins), .l (encL s.leases), .l nrw, .l (encN (l ++ [b]))] := by
  have := zbu (f := fun j : Nat => Lqc (some 14) [.i (i : Int), .i (j : Int), .i s.width, .i s.now, .i s.given, .i s.births, .l (encK s.things), .l (encP s.pins), .l (encL s.leases), .l nrw, .l (encN l), .s x, .i b, .s y, .l z]) (0 : Int) (l := l) (p := fun r => r = b) (T := some [.b false])
    (E := Lqc (some 4) [.i ((i + 1 : Nat) : Int), .i s.width, .i s.now, .i s.given, .i s.births, .l (encK s.things), .l (encP s.pins), .l (encL s.leases), .l nrw, .l (encN (l ++ [b]))]) (fun j hj => by
    show Lqc _ _ = cond _ _ (Lqc _ _)
    rw [eqc_14, mostE]; simp (disch := omega) only [push_cast]) (by
    show Lqc _ _ = Lqc _ _
    have : encN (l ++ [b]) = encN l ++ [[.i b]] := by simp [encN]
    rw [eqc_14, mostE, this]; simp (disch := omega) only [push_cast])
  refine Eq.trans this ?_
  by_cases h : b ∈ l
  · rw [if_pos h, if_pos ⟨b, h, rfl⟩]
  · rw [if_neg h, if_neg (by rintro ⟨r, hr, rfl⟩; exact h hr)]
theorem sto_4 (nT : s.things.length ≤ 600) (hb : 0 ≤ s.births ∧ s.births ≤ 1000000000) : Lqc (some 4) [.i 0, .i s.width, .i s.now, .i s.given, .i s.births, .l (encK s.things), .l (encP s.pins), .l (encL s.leases), .l (near s.things 0), .l (encN (farL s.things 0))]
    = if (∀ j, 0 ≤ j → j < s.things.length → tP s.width s.births s.things j) then Lqc (some 20) [.i 0, .i s.width, .i s.now, .i s.given, .i s.births, .l (encK s.things), .l (encP s.pins), .l (encL s.leases)] else some [.b false] := by
  refine zu (f := fun i : Nat => Lqc (some 4) [.i (i : Int), .i s.width, .i s.now, .i s.given, .i s.births, .l (encK s.things), .l (encP s.pins), .l (encL s.leases), .l (near s.things i), .l (encN (farL s.things i))]) (fun i hi => ?_) ?_ 0 (Nat.zero_le _)
  · show (_ → Lqc _ _ = Lqc _ _) ∧ (_ → Lqc _ _ = _)
    have hfl := zul s.things i
    rw [eqc_4]
    by_cases c1 : ThingOk (nth K0 s.things i).thing s.width
    rotate_left
    · refine ⟨fun h => absurd h.ok c1, fun _ => ?_⟩
      have : zba (nth K0 s.things i).thing s.width = false := decide_eq_false c1
      simp (disch := omega) only [push_cast, zc0, this]
    have ht : zba (nth K0 s.things i).thing s.width = true := decide_eq_true c1
    have hz : (formM (nth K0 s.things i).thing).size ≤ 1099511627776 := by
      rw [zbl]; have := zbj c1; omega
    have hft : formT (nth K0 s.things i).thing s.width = formM (nth K0 s.things i).thing := if_pos ht
    by_cases c2 : (nth K0 s.things i).sum = sumM (formM (nth K0 s.things i).thing) s.width
    rotate_left
    · refine ⟨fun h => absurd h.sum c2, fun _ => ?_⟩
      simp (disch := omega) only [push_cast, zc0, ht, zci, hft, zbr _ s.width hz]
    have tail : ∀ X : Option Lv, X = (Lqx none [.i (nth K0 s.things i).born, .i 1, .i s.births]).bind (fun y4 =>
         cond (!(g y4 0).bool) (some [.b false]) (
         cond (decide ((nth K0 s.things i).born ≤ 600)) (
          cond (inb ((nth K0 s.things i).born) (near s.things i).length) (
           cond ((rd (near s.things i) (((nth K0 s.things i).born).toNat) 0).bool) (some [.b false]) (
            cond (inb ((nth K0 s.things i).born) (near s.things i).length) (
             Lqc (some 4) [.i ((i + 1 : Nat) : Int), .i s.width, .i s.now, .i s.given, .i s.births, .l (encK s.things), .l (encP s.pins), .l (encL s.leases), .l (wrs (near s.things i) (((nth K0 s.things i).born).toNat) 0 ([.b true] : List C)), .l (encN (farL s.things i))]) (none))) (none)) (
          Lqc (some 14) [.i (i : Int), .i 0, .i s.width, .i s.now, .i s.given, .i s.births, .l (encK s.things), .l (encP s.pins), .l (encL s.leases), .l (near s.things i), .l (encN (farL s.things i)), .s (nth K0 s.things i).sum, .i (nth K0 s.things i).born, .s (nth K0 s.things i).thing.text, .l (encS (nth K0 s.things i).thing.refs)]))) →
        (0 < i → slt (nth K0 s.things (i - 1)).sum (nth K0 s.things i).sum = true) →
        (tP s.width s.births s.things i → X = Lqc (some 4) [.i ((i + 1 : Nat) : Int), .i s.width, .i s.now, .i s.given, .i s.births, .l (encK s.things), .l (encP s.pins), .l (encL s.leases), .l (near s.things (i + 1)), .l (encN (farL s.things (i + 1)))]) ∧ (¬ tP s.width s.births s.things i → X = some [.b false]) := by
      rintro X rfl hadj
      by_cases c3 : 1 ≤ (nth K0 s.things i).born ∧ (nth K0 s.things i).born ≤ s.births
      rotate_left; · exact ⟨fun h => absurd ⟨h.lo, h.hi⟩ c3, fun _ => by simp (disch := omega) only [push_cast, zp]⟩
      by_cases c5 : (nth K0 s.things i).born ≤ 600
      · obtain ⟨b, hbb⟩ : ∃ b : Nat, (nth K0 s.things i).born = b := ⟨((nth K0 s.things i).born).toNat, by omega⟩
        have hrd := ztv s.things i b (by omega)
        by_cases c6 : (nth K0 s.things i).born ∈ bsT s.things i
        · refine ⟨fun h => absurd c6 h.new, fun _ => ?_⟩
          rw [hbb] at c6
          simp (disch := omega) only [push_cast, zp, hbb, hrd, decide_eq_true c6]
        · refine ⟨fun _ => ?_, fun h => absurd ⟨hadj, c1, c2, c3.1, c3.2, c6⟩ h⟩
          have hw := zn3 s.things i b hi (by omega) hbb
          rw [far_S _ _ hi, if_neg (by omega), List.append_nil]
          rw [hbb] at c6
          simp (disch := omega) only [push_cast, zp, hbb, hrd, decide_eq_false c6, hw]
      · have h14 := zt9 nT i hi (farL s.things i) (by omega) (near s.things i) (nth K0 s.things i).born (nth K0 s.things i).sum (nth K0 s.things i).thing.text (encS (nth K0 s.things i).thing.refs)
        by_cases c6 : (nth K0 s.things i).born ∈ bsT s.things i
        · refine ⟨fun h => absurd c6 h.new, fun _ => ?_⟩
          rw [if_pos ((zjp _ _ (by omega)).2 c6)] at h14
          simp (disch := omega) only [push_cast, zp]
          exact h14
        · refine ⟨fun _ => ?_, fun h => absurd ⟨hadj, c1, c2, c3.1, c3.2, c6⟩ h⟩
          rw [if_neg (fun h => c6 ((zjp _ _ (by omega)).1 h))] at h14
          rw [far_S _ _ hi, if_pos (by omega), zuu _ _ hi (by omega)]
          simp (disch := omega) only [push_cast, zp]
          exact h14
    by_cases c0 : 0 < i
    · cases c4 : slt (nth K0 s.things (i - 1)).sum (nth K0 s.things i).sum
      · exact ⟨fun h => absurd (h.adj c0) (by simp [c4]), fun _ => by simp (disch := omega) only [push_cast, zc0, ht, zci, hft, zbr _ s.width hz, ← c2, c4]⟩
      · refine tail _ ?_ (fun _ => c4)
        simp (disch := omega) only [push_cast, zc0, ht, zci, hft, zbr _ s.width hz, ← c2, c4]
    · refine tail _ ?_ (fun h => absurd h c0)
      simp (disch := omega) only [push_cast, zc0, ht, zci, hft, zbr _ s.width hz, ← c2]
  · show Lqc _ _ = _
    rw [eqc_4]; simp (disch := omega) only [push_cast]
theorem zu7 (hn : 0 ≤ s.now ∧ s.now ≤ 1000000000) (hT : SrtK s.things) (nT : s.things.length ≤ 600) (nL : s.leases.length ≤ 200) : Lqy (some 11) [.i 0, .i s.width, .i s.now, .i s.given, .i s.births, .l (encK s.things), .l (encP s.pins), .l (encL s.leases)]
    = if (∀ j, 0 ≤ j → j < s.leases.length → lP s.now s.given s.things s.leases j) then some [.b true] else some [.b false] := by
  refine zu (f := fun i : Nat => Lqy (some 11) [.i (i : Int), .i s.width, .i s.now, .i s.given, .i s.births, .l (encK s.things), .l (encP s.pins), .l (encL s.leases)]) (fun i hi => ?_) ?_ 0 (Nat.zero_le _)
  · show (_ → Lqy _ _ = Lqy _ _) ∧ (_ → Lqy _ _ = _)
    rw [eqy_11]
    have hf := zbi (T := s.things) (x := (nth L0 s.leases i).sum)
    have hfe := zcl s.width s.now s.given s.births s.things (encP s.pins) (encL s.leases) (nth L0 s.leases i).sum hT (by omega)
    by_cases c2 : 1 ≤ (nth L0 s.leases i).number ∧ (nth L0 s.leases i).number ≤ s.given
    rotate_left; · exact ⟨fun h => absurd ⟨h.lo, h.hi⟩ c2, fun _ => by simp (disch := omega) only [push_cast, zp]⟩
    by_cases c0 : 0 < i
    · by_cases c4 : (nth L0 s.leases (i - 1)).number < (nth L0 s.leases i).number
      rotate_left; · exact ⟨fun h => absurd (h.adj c0) c4, fun _ => by simp (disch := omega) only [push_cast, zp]⟩
      by_cases c1 : hasT s.things (nth L0 s.leases i).sum
      rotate_left; · exact ⟨fun h => absurd h.has c1, fun _ => by have := hf.2 c1; simp (disch := omega) only [push_cast, zp, hfe]⟩
      have c1' : ¬ findT s.things (nth L0 s.leases i).sum < 0 := fun h => hf.1 h c1
      by_cases c5 : s.now < (nth L0 s.leases i).till
      rotate_left; · exact ⟨fun h => absurd h.t1 c5, fun _ => by simp (disch := omega) only [push_cast, zp, hfe]⟩
      by_cases c6 : (nth L0 s.leases i).till ≤ s.now + 100000
      rotate_left; · exact ⟨fun h => absurd h.t2 c6, fun _ => by simp (disch := omega) only [push_cast, zp, hfe]⟩
      exact ⟨fun _ => by simp (disch := omega) only [push_cast, zp, hfe] <;> rfl, fun h => absurd ⟨c1, c2.1, c2.2, fun _ => c4, c5, c6⟩ h⟩
    · by_cases c1 : hasT s.things (nth L0 s.leases i).sum
      rotate_left; · exact ⟨fun h => absurd h.has c1, fun _ => by have := hf.2 c1; simp (disch := omega) only [push_cast, zp, hfe]⟩
      have c1' : ¬ findT s.things (nth L0 s.leases i).sum < 0 := fun h => hf.1 h c1
      by_cases c5 : s.now < (nth L0 s.leases i).till
      rotate_left; · exact ⟨fun h => absurd h.t1 c5, fun _ => by simp (disch := omega) only [push_cast, zp, hfe]⟩
      by_cases c6 : (nth L0 s.leases i).till ≤ s.now + 100000
      rotate_left; · exact ⟨fun h => absurd h.t2 c6, fun _ => by simp (disch := omega) only [push_cast, zp, hfe]⟩
      exact ⟨fun _ => by simp (disch := omega) only [push_cast, zp, hfe] <;> rfl, fun h => absurd ⟨c1, c2.1, c2.2, fun h => absurd h c0, c5, c6⟩ h⟩
  · show Lqy _ _ = _
    rw [eqy_11]; simp (disch := omega) only [push_cast]
theorem svs_6 (hT : SrtK s.things) (nT : s.things.length ≤ 600) (nP : s.pins.length ≤ 100) (hN : ∀ p ∈ s.pins, p.name.size ≤ 4611686018427387904) : Lqy (some 6) [.i 0, .i s.width, .i s.now, .i s.given, .i s.births, .l (encK s.things), .l (encP s.pins), .l (encL s.leases)]
    = if (∀ j, 0 ≤ j → j < s.pins.length → pP s.things s.pins j) then Lqy (some 11) [.i 0, .i s.width, .i s.now, .i s.given, .i s.births, .l (encK s.things), .l (encP s.pins), .l (encL s.leases)] else some [.b false] := by
  refine zu (f := fun i : Nat => Lqy (some 6) [.i (i : Int), .i s.width, .i s.now, .i s.given, .i s.births, .l (encK s.things), .l (encP s.pins), .l (encL s.leases)]) (fun i hi => ?_) ?_ 0 (Nat.zero_le _)
  · show (_ → Lqy _ _ = Lqy _ _) ∧ (_ → Lqy _ _ = _)
    rw [eqy_6]
    have hf := zbi (T := s.things) (x := (nth P0 s.pins i).sum)
    have hfe := zcl s.width s.now s.given s.births s.things (encP s.pins) (encL s.leases) (nth P0 s.pins i).sum hT (by omega)
    have hne := zi5 (nth P0 s.pins i).name (hN _ (zi hi))
    unfold nameB at hne
    by_cases c2 : NameOk (nth P0 s.pins i).name
    rotate_left; · exact ⟨fun h => absurd h.nm c2, fun _ => by simp (disch := omega) only [push_cast, hne]⟩
    by_cases c0 : 0 < i
    · cases c4 : slt (nth P0 s.pins (i - 1)).name (nth P0 s.pins i).name
      · exact ⟨fun h => absurd (h.adj c0) (by simp [c4]), fun _ => by simp (disch := omega) only [push_cast, hne, c4]⟩
      · by_cases c1 : hasT s.things (nth P0 s.pins i).sum
        rotate_left; · exact ⟨fun h => absurd h.has c1, fun _ => by have := hf.2 c1; simp (disch := omega) only [push_cast, hne, c4, hfe]⟩
        have c1' : ¬ findT s.things (nth P0 s.pins i).sum < 0 := fun h => hf.1 h c1
        exact ⟨fun _ => by simp (disch := omega) only [push_cast, hne, c4, hfe] <;> rfl, fun h => absurd ⟨c1, c2, fun _ => c4⟩ h⟩
    · by_cases c1 : hasT s.things (nth P0 s.pins i).sum
      rotate_left; · exact ⟨fun h => absurd h.has c1, fun _ => by have := hf.2 c1; simp (disch := omega) only [push_cast, hne, hfe]⟩
      have c1' : ¬ findT s.things (nth P0 s.pins i).sum < 0 := fun h => hf.1 h c1
      exact ⟨fun _ => by simp (disch := omega) only [push_cast, hne, hfe] <;> rfl, fun h => absurd ⟨c1, c2, fun h => absurd h c0⟩ h⟩
  · show Lqy _ _ = _
    rw [eqy_6]; simp (disch := omega) only [push_cast]
theorem zt2 (T : List Kept) : List.replicate 601 ([.b false] : List C) = near T 0 := by
  unfold near bsT
  simp only [List.take_zero, List.map_nil, List.not_mem_nil, decide_false]
  rw [List.map_const', List.length_range]
theorem zsj (s : State) (hN : ∀ p ∈ s.pins, p.name.size ≤ 4611686018427387904) : Lqy none (encSt s) = some [.b (decide (VS s))] := by
  unfold encSt
  rw [eqy_i]
  have hv := zr4 s
  by_cases h1 : 1 ≤ s.width ∧ s.width ≤ 8
  rotate_left; · rw [decide_eq_false fun V : VS s => h1 V.wd]; have : zj s.width = false := by cases h : zj s.width; { rfl }; { exact absurd (zz.1 h) h1 }
                 simp (disch := omega) only [push_cast, zq, this]
  have hw : zj s.width = true := zz.2 h1
  by_cases h2 : 0 ≤ s.now ∧ s.now ≤ 1000000000
  rotate_left; · rw [decide_eq_false fun V : VS s => h2 V.now]; simp (disch := omega) only [push_cast, zq, hw, zp]
  by_cases h3 : 0 ≤ s.given ∧ s.given ≤ 1000000000
  rotate_left; · rw [decide_eq_false fun V : VS s => h3 V.given]; simp (disch := omega) only [push_cast, zq, hw, zp]
  by_cases h4 : 0 ≤ s.births ∧ s.births ≤ 1000000000
  rotate_left; · rw [decide_eq_false fun V : VS s => h4 V.births]; simp (disch := omega) only [push_cast, zq, hw, zp]
  by_cases h5 : s.things.length ≤ 600
  rotate_left; · rw [decide_eq_false fun V : VS s => h5 V.nT]; simp (disch := omega) only [push_cast, zq, hw, zp]
  by_cases h6 : s.pins.length ≤ 100
  rotate_left; · rw [decide_eq_false fun V : VS s => h6 V.nP]; simp (disch := omega) only [push_cast, zq, hw, zp]
  by_cases h7 : s.leases.length ≤ 200
  rotate_left; · rw [decide_eq_false fun V : VS s => h7 V.nL]; simp (disch := omega) only [push_cast, zq, hw, zp]
  have hto : Lqc none [.i s.width, .i s.now, .i s.given, .i s.births, .l (encK s.things), .l (encP s.pins), .l (encL s.leases)] = _ := (eqc_i _ _ _ _ _ _ _).trans ((by rw [zt2 s.things]; rfl : _ = Lqc (some 4) [.i 0, .i s.width, .i s.now, .i s.given, .i s.births, .l (encK s.things), .l (encP s.pins), .l (encL s.leases), .l (near s.things 0), .l (encN (farL s.things 0))]).trans (sto_4 h5 h4))
  by_cases h8 : ∀ j, 0 ≤ j → j < s.things.length → tP s.width s.births s.things j
  rotate_left; · rw [if_neg h8] at hto; rw [decide_eq_false fun V : VS s => h8 (hv.1 V).2.2.2.2.2.2.2.1]; simp (disch := omega) only [push_cast, zq, hw, zp, hto]
  have hs := (zi2 _ _ _).1 h8
  rw [if_pos h8, zrl hs.1 h5 fun k hk => (hs.2.1 k hk).1.refs] at hto
  by_cases h9 : ∀ j, 0 ≤ j → j < s.things.length → ∀ i, 0 ≤ i → i < (nth K0 s.things j).thing.refs.length → refIn s.things (nth K0 s.things j).born (nth .empty (nth K0 s.things j).thing.refs i)
  rotate_left; · rw [if_neg h9] at hto; rw [decide_eq_false fun V : VS s => h9 (hv.1 V).2.2.2.2.2.2.2.2.1]; simp (disch := omega) only [push_cast, zq, hw, zp, hto]
  rw [if_pos h9] at hto
  simp (disch := omega) only [push_cast, zq, hw, zp, hto, svs_6 hs.1 h5 h6 hN]
  by_cases h10 : ∀ j, 0 ≤ j → j < s.pins.length → pP s.things s.pins j
  rotate_left; · rw [if_neg h10, decide_eq_false fun V : VS s => h10 (hv.1 V).2.2.2.2.2.2.2.2.2.1]
  rw [if_pos h10, zu7 h2 hs.1 h5 h7]
  by_cases h11 : ∀ j, 0 ≤ j → j < s.leases.length → lP s.now s.given s.things s.leases j
  rotate_left; · rw [if_neg h11, decide_eq_false fun V : VS s => h11 (hv.1 V).2.2.2.2.2.2.2.2.2.2]
  rw [if_pos h11, decide_eq_true (hv.2 ⟨h1, h2, h3, h4, h5, h6, h7, h8, h9, h10, h11⟩)]
end
end KV
end
section
namespace KV
open Go Go.Eng
open Classical
def eHold (name sum : Bs) : Entry := ⟨2, sum, name, 0, ⟨E0, []⟩⟩
theorem zs0 {v : Vault} (h : SmallV v) (name sum : Bs) (hn : name.size ≤ 4611686018427387904) : Lqdb none (encV v ++ [.s name, .s sum]) = some (zo (doS v (eHold name sum))) := by
  have := zdo h (eHold name sum) hn
  show Lqdb none [.i v.width, .i v.limit, .l (encS v.safe), .l (encS v.loose), .i v.st.width, .i v.st.now, .i v.st.given, .i v.st.births, .l (encK v.st.things), .l (encP v.st.pins), .l (encL v.st.leases), .i v.rd.phase, .l (encS v.rd.queue), .l (encS v.rd.marked), .i v.rd.top, .i v.rd.at_, .i v.rd.rounds, .s name, .s sum] = _
  rw [eqdb_i, show Lql none [.i v.width, .i v.limit, .l (encS v.safe), .l (encS v.loose), .i v.st.width, .i v.st.now, .i v.st.given, .i v.st.births, .l (encK v.st.things), .l (encP v.st.pins), .l (encL v.st.leases), .i v.rd.phase, .l (encS v.rd.queue), .l (encS v.rd.marked), .i v.rd.top, .i v.rd.at_, .i v.rd.rounds, .i 2, .s sum, .s name, .i 0, .s E0, .l []] = _ from this, Option.bind_some, zck]
def zf2 (name : Bs) : Entry := ⟨3, E0, name, 0, ⟨E0, []⟩⟩
theorem ztx {v : Vault} (h : SmallV v) (name : Bs) (hn : name.size ≤ 4611686018427387904) : Lqdc none (encV v ++ [.s name]) = some (zo (doS v (zf2 name))) := by
  have := zdo h (zf2 name) hn
  show Lqdc none [.i v.width, .i v.limit, .l (encS v.safe), .l (encS v.loose), .i v.st.width, .i v.st.now, .i v.st.given, .i v.st.births, .l (encK v.st.things), .l (encP v.st.pins), .l (encL v.st.leases), .i v.rd.phase, .l (encS v.rd.queue), .l (encS v.rd.marked), .i v.rd.top, .i v.rd.at_, .i v.rd.rounds, .s name] = _
  rw [eqdc_i, show Lql none [.i v.width, .i v.limit, .l (encS v.safe), .l (encS v.loose), .i v.st.width, .i v.st.now, .i v.st.given, .i v.st.births, .l (encK v.st.things), .l (encP v.st.pins), .l (encL v.st.leases), .i v.rd.phase, .l (encS v.rd.queue), .l (encS v.rd.marked), .i v.rd.top, .i v.rd.at_, .i v.rd.rounds, .i 3, .s E0, .s name, .i 0, .s E0, .l []] = _ from this, Option.bind_some, zck]
def zfk (sum : Bs) (hold : Int) : Entry := ⟨4, sum, E0, hold, ⟨E0, []⟩⟩
theorem zo0 {v : Vault} (h : SmallV v) (sum : Bs) (hold : Int)  : Lqdd none (encV v ++ [.s sum, .i hold]) = some (zo (doS v (zfk sum hold))) := by
  have := zdo h (zfk sum hold) (by show (0 : Nat) ≤ 4611686018427387904; omega)
  show Lqdd none [.i v.width, .i v.limit, .l (encS v.safe), .l (encS v.loose), .i v.st.width, .i v.st.now, .i v.st.given, .i v.st.births, .l (encK v.st.things), .l (encP v.st.pins), .l (encL v.st.leases), .i v.rd.phase, .l (encS v.rd.queue), .l (encS v.rd.marked), .i v.rd.top, .i v.rd.at_, .i v.rd.rounds, .s sum, .i hold] = _
  rw [eqdd_i, show Lql none [.i v.width, .i v.limit, .l (encS v.safe), .l (encS v.loose), .i v.st.width, .i v.st.now, .i v.st.given, .i v.st.births, .l (encK v.st.things), .l (encP v.st.pins), .l (encL v.st.leases), .i v.rd.phase, .l (encS v.rd.queue), .l (encS v.rd.marked), .i v.rd.top, .i v.rd.at_, .i v.rd.rounds, .i 4, .s sum, .s E0, .i hold, .s E0, .l []] = _ from this, Option.bind_some, zck]
def zf6 (n : Int) : Entry := ⟨5, E0, E0, n, ⟨E0, []⟩⟩
theorem zpl {v : Vault} (h : SmallV v) (n : Int)  : Lqde none (encV v ++ [.i n]) = some (zo (doS v (zf6 n))) := by
  have := zdo h (zf6 n) (by show (0 : Nat) ≤ 4611686018427387904; omega)
  show Lqde none [.i v.width, .i v.limit, .l (encS v.safe), .l (encS v.loose), .i v.st.width, .i v.st.now, .i v.st.given, .i v.st.births, .l (encK v.st.things), .l (encP v.st.pins), .l (encL v.st.leases), .i v.rd.phase, .l (encS v.rd.queue), .l (encS v.rd.marked), .i v.rd.top, .i v.rd.at_, .i v.rd.rounds, .i n] = _
  rw [eqde_i, show Lql none [.i v.width, .i v.limit, .l (encS v.safe), .l (encS v.loose), .i v.st.width, .i v.st.now, .i v.st.given, .i v.st.births, .l (encK v.st.things), .l (encP v.st.pins), .l (encL v.st.leases), .i v.rd.phase, .l (encS v.rd.queue), .l (encS v.rd.marked), .i v.rd.top, .i v.rd.at_, .i v.rd.rounds, .i 5, .s E0, .s E0, .i n, .s E0, .l []] = _ from this, Option.bind_some, zck]
def eWait (n : Int) : Entry := ⟨6, E0, E0, n, ⟨E0, []⟩⟩
theorem zjy {v : Vault} (h : SmallV v) (hc : CutV v) (n : Int)  : Lqcv none (encV v ++ [.i n]) = some (zo (doE v (eWait n) false)) := by
  have := zkv h hc (eWait n) false (by show (0 : Nat) ≤ 4611686018427387904; omega)
  show Lqcv none [.i v.width, .i v.limit, .l (encS v.safe), .l (encS v.loose), .i v.st.width, .i v.st.now, .i v.st.given, .i v.st.births, .l (encK v.st.things), .l (encP v.st.pins), .l (encL v.st.leases), .i v.rd.phase, .l (encS v.rd.queue), .l (encS v.rd.marked), .i v.rd.top, .i v.rd.at_, .i v.rd.rounds, .i n] = _
  rw [eqcv_i, show Lqbm none [.i v.width, .i v.limit, .l (encS v.safe), .l (encS v.loose), .i v.st.width, .i v.st.now, .i v.st.given, .i v.st.births, .l (encK v.st.things), .l (encP v.st.pins), .l (encL v.st.leases), .i v.rd.phase, .l (encS v.rd.queue), .l (encS v.rd.marked), .i v.rd.top, .i v.rd.at_, .i v.rd.rounds, .i 6, .s E0, .s E0, .i n, .s E0, .l [], .b false] = _ from this, Option.bind_some, zck]
theorem zqe {v : Vault} (h : SmallV v) (n : Int)  : Lqdf none (encV v ++ [.i n]) = some (zo (doS v (eWait n))) := by
  have := zdo h (eWait n) (by show (0 : Nat) ≤ 4611686018427387904; omega)
  show Lqdf none [.i v.width, .i v.limit, .l (encS v.safe), .l (encS v.loose), .i v.st.width, .i v.st.now, .i v.st.given, .i v.st.births, .l (encK v.st.things), .l (encP v.st.pins), .l (encL v.st.leases), .i v.rd.phase, .l (encS v.rd.queue), .l (encS v.rd.marked), .i v.rd.top, .i v.rd.at_, .i v.rd.rounds, .i n] = _
  rw [eqdf_i, show Lql none [.i v.width, .i v.limit, .l (encS v.safe), .l (encS v.loose), .i v.st.width, .i v.st.now, .i v.st.given, .i v.st.births, .l (encK v.st.things), .l (encP v.st.pins), .l (encL v.st.leases), .i v.rd.phase, .l (encS v.rd.queue), .l (encS v.rd.marked), .i v.rd.top, .i v.rd.at_, .i v.rd.rounds, .i 6, .s E0, .s E0, .i n, .s E0, .l []] = _ from this, Option.bind_some, zck]
theorem zi9 {v : Vault} (h : SmallV v) (t : Thing) (hold : Int) (ht : t.refs.length ≤ 1099511627776) : Lqco none (encV v ++ [.s t.text, .l (encS t.refs), .i hold]) = some (zo (doS v (ePut t hold))) := by
  have := zdo h (ePut t hold) (by show (0 : Nat) ≤ 4611686018427387904; omega)
  show Lqco none [.i v.width, .i v.limit, .l (encS v.safe), .l (encS v.loose), .i v.st.width, .i v.st.now, .i v.st.given, .i v.st.births, .l (encK v.st.things), .l (encP v.st.pins), .l (encL v.st.leases), .i v.rd.phase, .l (encS v.rd.queue), .l (encS v.rd.marked), .i v.rd.top, .i v.rd.at_, .i v.rd.rounds, .s t.text, .l (encS t.refs), .i hold] = _
  rw [eqco_i, zfa _ _ (by rw [z4]; exact ht)]
  simp (disch := omega) only [push_cast]
  rw [show Lql none [.i v.width, .i v.limit, .l (encS v.safe), .l (encS v.loose), .i v.st.width, .i v.st.now, .i v.st.given, .i v.st.births, .l (encK v.st.things), .l (encP v.st.pins), .l (encL v.st.leases), .i v.rd.phase, .l (encS v.rd.queue), .l (encS v.rd.marked), .i v.rd.top, .i v.rd.at_, .i v.rd.rounds, .i 1, .s E0, .s E0, .i hold, .s t.text, .l (encS t.refs)] = _ from this, Option.bind_some, zck]
theorem zqc {e : Entry} {w : Int} (h : zg e w = true) : if uS e.kind = true then (e.sum.size : Int) = w else e.sum = E0 := by
  unfold zg at h
  simp only [Bool.and_eq_true] at h
  have := h.2.2.1
  unfold sumB at this
  split at this
  · rename_i hu; rw [if_pos hu]; exact of_decide_eq_true this
  · rename_i hu; rw [if_neg hu]; exact of_decide_eq_true this
theorem zsb {e : Entry} {w : Int} (h : zg e w = true) : 1 ≤ w ∧ w ≤ 8 := by
  unfold zg at h
  simp only [Bool.and_eq_true] at h
  exact zz.1 h.2.1
theorem zhi {s : State} {e : Entry} (h : (putS s e).code = 0) : (putS s e).sum = sumM (formM e.thing) s.width := by
  unfold putS fail at h ⊢
  repeat' split
  all_goals first | rfl | (rename_i h1; simp_all; done) | simp_all
theorem ne_E0 {x : Bs} {w : Int} (h : (x.size : Int) = w) (hw : 1 ≤ w) : x ≠ E0 := by
  rintro rfl
  have : (E0 : Bs).size = 0 := rfl
  omega
theorem zn7 {v : Vault} {e : Entry} {a b : Bool} (h : VV v → zg e v.width = true → (chg v.st e).code = 0 → a = b) : doE v e a = doE v e b := by
  unfold doE
  by_cases V : VV v
  rotate_left; · rw [if_pos V, if_pos V]
  rw [if_neg (not_not_intro V), if_neg (not_not_intro V)]
  by_cases he : zg e v.width = true
  rotate_left; · rw [if_pos he, if_pos he]
  rw [if_neg (not_not_intro he), if_neg (not_not_intro he)]
  by_cases hc : (chg v.st e).code = 0
  rotate_left; · rw [if_pos hc, if_pos hc]
  rw [h V he hc]
theorem doS_t {v : Vault} {e : Entry} (hk : e.kind = 1 ∨ e.kind = 2 ∨ e.kind = 4 ∨ e.kind = 7) : doS v e = doE v e true := by
  refine zn7 fun V he hc => decide_eq_true ?_
  have hw := zsb he
  unfold zbh
  by_cases h1 : e.kind = 1
  · rw [if_pos h1]
    have : chg v.st e = putS v.st e := by unfold chg; rw [if_pos h1]
    rw [this] at hc ⊢
    rw [zhi hc]
    exact ne_E0 (zeq V.vs.1.wd) V.vs.1.wd.1
  · rw [if_neg h1]
    have := zqc he
    rw [if_pos (by unfold uS; simp; omega)] at this
    exact ne_E0 this hw.1
theorem zg1 (w lim : Int) (a b : List Bs) (ha : Small a) (hb : Small b) (hn : a.length + b.length ≤ 1099511627776) : Lqbw none [.i w, .i lim, .l (encS a), .l (encS b)] = some (encO (openM w lim a b)) := by
  rw [eqbw_i]
  unfold openM
  by_cases h1 : zj w = true
  rotate_left; · have : zj w = false := by simpa using h1
                 rw [if_neg fun h => h1 h.1]; simp (disch := omega) only [push_cast, zq, this]; rfl
  by_cases h2 : 0 ≤ lim ∧ lim ≤ 1000000
  rotate_left; · rw [if_neg fun h => h2 h.2.1]; simp (disch := omega) only [push_cast, zq, h1, zp]; rfl
  by_cases h3 : LogOk a b
  rotate_left; · rw [if_neg fun h => h3 h.2.2]; simp (disch := omega) only [push_cast, zq, h1, zp, zb7 _ _ ha hb]; rfl
  have hl := h3.n
  rw [if_pos ⟨h1, h2, h3⟩]
  simp (disch := omega) only [push_cast, zq, h1, zp, zb7 _ _ ha hb, zi1 _ _ hn, zjc _ _ (ha.app hb hn), zje _ _ ha hb]
  rw [if_pos ⟨trivial, by rw [List.length_append]; omega⟩]
  cases runL w (empty w) (a ++ b) 0 with
  | inl s => simp only [zd9]; simp (disch := omega) only [push_cast]; rfl
  | inr n => simp only [zd9]; simp (disch := omega) only [push_cast]; rfl
theorem zpq (a b : List Bs) (k : Int) (ha : Small a) (hb : Small b) : Lqdz none [.l (encS a), .l (encS b), .i k] = some [.l [], .l (encS (if LogOk a b then a ++ b.take k.toNat else []))] := by
  have h1 := ha.1; have h2 := hb.1
  rw [eqdz_i, mostE]
  by_cases h : LogOk a b
  rotate_left; · rw [if_neg h]; simp (disch := omega) only [push_cast, zb7 a b ha hb, decide_eq_false h]; rfl
  have hl := h.n
  rw [if_pos h]
  have hsub : ∀ n, Eng.sub (encS b) 0 n = encS (b.take n) := fun n => by rw [zcy]; simp
  have hlen : ∀ n, (b.take n).length ≤ b.length := fun n => by rw [List.length_take]; omega
  have l0 := hlen 0; have l1 := hlen b.length; have l2 := hlen k.toNat
  by_cases c1 : k < 0
  · have : k.toNat = 0 := by omega
    rw [this]
    simp (disch := omega) only [push_cast, zb7 a b ha hb, decide_eq_true h, hsub, List.nil_append]
    rw [zn]
  by_cases c2 : (b.length : Int) < k
  · have : b.take k.toNat = b.take b.length := by rw [List.take_length, List.take_of_length_le (by omega)]
    rw [this]
    simp (disch := omega) only [push_cast, zb7 a b ha hb, decide_eq_true h, hsub, List.nil_append]
    rw [zn]
  · simp (disch := omega) only [push_cast, zb7 a b ha hb, decide_eq_true h, hsub, List.nil_append]
    rw [zn]
noncomputable def zca (v : Vault) : Vault := if VV v then { v with safe := v.safe ++ v.loose, loose := [] } else V0
noncomputable def loseM (v : Vault) (k : Int) : Vault := if VV v then (match openM v.width v.limit (v.safe ++ v.loose.take k.toNat) [] with | .inl x => x | .inr _ => V0) else V0
def encLo (v : Vault) : Lv := [.i v.width, .i v.limit, .i v.st.width, .i v.st.now, .i v.st.given, .i v.st.births, .i v.rd.phase, .l (encS v.rd.queue), .l (encS v.rd.marked), .i v.rd.top, .i v.rd.at_, .i v.rd.rounds, .l (encS v.safe), .l (encS v.loose), .l (encK v.st.things), .l (encP v.st.pins), .l (encL v.st.leases)]
theorem ztu {v : Vault} (V : VV v) : VV (zca v) := by
  unfold zca
  rw [if_pos V]
  refine ⟨V.wd, V.lim, ⟨fun x hx => ?_, (fun x hx => nomatch hx), ?_⟩, ?_, V.rd⟩
  · rcases List.mem_append.1 hx with h | h
    · exact V.log.sa x h
    · exact V.log.sb x h
  · have := V.log.n
    show (v.safe ++ v.loose).length + 0 ≤ 4000
    rw [List.length_append]; omega
  · show runL v.width (empty v.width) ((v.safe ++ v.loose) ++ []) 0 = .inl v.st
    rw [List.append_nil]; exact V.run
theorem zin {v : Vault} (V : VV v) (k : Int) : ∃ s, runL v.width (empty v.width) (v.safe ++ v.loose.take k.toNat) 0 = .inl s ∧ openM v.width v.limit (v.safe ++ v.loose.take k.toNat) [] = .inl ⟨v.width, v.limit, v.safe ++ v.loose.take k.toNat, [], s, R0⟩ ∧ VV ⟨v.width, v.limit, v.safe ++ v.loose.take k.toNat, [], s, R0⟩ := by
  have hl : LogOk (v.safe ++ v.loose.take k.toNat) [] := by
    refine ⟨fun x hx => ?_, (fun x hx => nomatch hx), ?_⟩
    · rcases List.mem_append.1 hx with h | h
      · exact V.log.sa x h
      · exact V.log.sb x (List.mem_of_mem_take h)
    · have := V.log.n
      show (v.safe ++ v.loose.take k.toNat).length + 0 ≤ 4000
      rw [List.length_append, List.length_take]; omega
  obtain ⟨s, hs⟩ : ∃ s, runL v.width (empty v.width) (v.safe ++ v.loose.take k.toNat) 0 = .inl s := by
    have := V.run
    rw [← List.take_append_drop k.toNat v.loose, ← List.append_assoc, ze1] at this
    cases hr : runL v.width (empty v.width) (v.safe ++ v.loose.take k.toNat) 0 with
    | inl s => exact ⟨s, rfl⟩
    | inr n => rw [hr] at this; cases this
  refine ⟨s, hs, ?_, ?_⟩
  · unfold openM; rw [if_pos ⟨V.wd, V.lim, hl⟩, List.append_nil, hs]
  · have W := zcq _ _ _ _ (zcj (zz.1 V.wd)) rfl hs
    have hb := W.1.births
    exact ⟨V.wd, V.lim, hl, by rw [List.append_nil]; exact hs, (show RoundOk s.width s.births R0 from ⟨⟨Int.le_refl _, (by show (0 : Int) ≤ 2; omega)⟩, ⟨Int.le_refl _, (by show (0 : Int) ≤ 1000000000; omega)⟩, Nat.zero_le _, Nat.zero_le _, (fun x hx => nomatch hx), List.nodup_nil, (fun x hx => nomatch hx), fun _ => ⟨rfl, rfl, rfl, rfl⟩, fun h => absurd rfl h⟩)⟩
theorem zqt {v : Vault} (V : VV v) (k : Int) : VV (loseM v k) := by
  obtain ⟨s, h1, h2, h3⟩ := zin V k
  unfold loseM; rw [if_pos V, h2]; exact h3
theorem zr5 (a b : List Bs) (ha : Small a) (hb : Small b) : Lqdx none [.l (encS a), .l (encS b)] = some [.l (encS (if LogOk a b then a ++ b else [])), .l []] := by
  have h1 := ha.1; have h2 := hb.1
  rw [eqdx_i, mostE]
  by_cases h : LogOk a b
  rotate_left; · rw [if_neg h]; simp (disch := omega) only [push_cast, zb7 a b ha hb, decide_eq_false h]; rfl
  have hl := h.n
  rw [if_pos h]
  simp (disch := omega) only [push_cast, zb7 a b ha hb, decide_eq_true h, List.nil_append]
  rw [zn]
theorem zox {v : Vault} (h : SmallV v) (k : Int) : Lqdg none (encV v ++ [.i k]) = some (encLo (loseM v k)) := by
  have hvv := zdy h
  unfold encV at hvv
  show Lqdg none [.i v.width, .i v.limit, .l (encS v.safe), .l (encS v.loose), .i v.st.width, .i v.st.now, .i v.st.given, .i v.st.births, .l (encK v.st.things), .l (encP v.st.pins), .l (encL v.st.leases), .i v.rd.phase, .l (encS v.rd.queue), .l (encS v.rd.marked), .i v.rd.top, .i v.rd.at_, .i v.rd.rounds, .i k] = _
  rw [eqdg_i, hvv]
  unfold loseM
  by_cases V : VV v
  rotate_left; · rw [if_neg V, decide_eq_false V]; rfl
  rw [if_pos V, decide_eq_true V]
  obtain ⟨s, h1, h2, h3⟩ := zin V k
  have hs := h3.small
  simp (disch := omega) only [push_cast, zpq v.safe v.loose k h.a h.b]
  rw [if_pos V.log, show ([] : Rw) = encS [] from rfl, zg1 _ _ _ _ hs.a hs.b hs.ab, h2]
  rfl
theorem zur {v : Vault} (h : SmallV v) : Lqdy none (encV v) = some (vI (zca v) ++ vL (zca v)) := by
  have hvv := zdy h
  unfold encV at hvv ⊢
  rw [eqdy_i, hvv]
  unfold zca
  by_cases V : VV v
  rotate_left; · rw [if_neg V, decide_eq_false V]; rfl
  rw [if_pos V, decide_eq_true V]
  have hcp := ze0 V
  unfold encV at hcp
  rw [hcp]
  simp only [vI, vL, List.cons_append, List.nil_append]
  have hl := V.log.n
  simp (disch := omega) only [push_cast, zr5 v.safe v.loose h.a h.b]
  rw [if_pos V.log]
  rfl
end KV
end
section
namespace KV
open Go Go.Eng
open Classical
section
variable {s : State} {x : Bs} (V : VS s)
include V
theorem zua (hr : ¬ isRef s.things x) : Lq8 (some 7) [.s x, .i 0, .i s.width, .i s.now, .i s.given, .i s.births, .l (encK s.things), .l (encP s.pins), .l (encL s.leases), .i 0, .i 0, .i 0, .i 0, .i 0, .s E0, .i 0, .s E0, .s E0, .l (encK []), .l [], .l [], .l []] =
    some [.i 0, .i s.width, .i s.now, .i s.given, .i s.births, .l (encP s.pins), .l (encL s.leases), .s E0, .i 0, .s E0, .s E0, .l (encK (delK x s.things))] := by
  have h1 := V.nT
  refine zel K0 (l := s.things) (p := fun k => !decide (k.sum = x)) (f := fun i a => Lq8 (some 7) [.s x, .i (i : Int), .i s.width, .i s.now, .i s.given, .i s.births, .l (encK s.things), .l (encP s.pins), .l (encL s.leases), .i 0, .i 0, .i 0, .i 0, .i 0, .s E0, .i 0, .s E0, .s E0, .l (encK a), .l [], .l [], .l []]) (fun i a hi ha => ?_) ?_
  · show Lq8 _ _ = Lq8 _ _
    have hm := zi (d := K0) hi
    have hrl := zb0 V _ hm
    have hn : ¬ x ∈ (nth K0 s.things i).thing.refs := fun h => hr ⟨_, hm, h⟩
    rw [eq8_7, mostE]
    by_cases hc : (nth K0 s.things i).sum = x
    · rw [if_neg (by simp [hc])]; simp (disch := omega) only [push_cast, z0 _ x (show (nth K0 s.things i).thing.refs.length ≤ 4611686018427387904 by omega), decide_eq_false hn]
    · rw [if_pos (by simp [hc]), ← zbc]; simp (disch := omega) only [push_cast, z0 _ x (show (nth K0 s.things i).thing.refs.length ≤ 4611686018427387904 by omega), decide_eq_false hn] <;> rfl
  · show Lq8 _ _ = _
    rw [eq8_7]; simp (disch := omega) only [push_cast] <;> rfl
theorem zn6 (hr : isRef s.things x) : ∀ (i : Nat) (a : List Kept), i ≤ s.things.length → (a.length ≤ i ∧ ∃ j, i ≤ j ∧ j < s.things.length ∧ x ∈ (nth K0 s.things j).thing.refs) → Lq8 (some 7) [.s x, .i (i : Int), .i s.width, .i s.now, .i s.given, .i s.births, .l (encK s.things), .l (encP s.pins), .l (encL s.leases), .i 0, .i 0, .i 0, .i 0, .i 0, .s E0, .i 0, .s E0, .s E0, .l (encK a), .l [], .l [], .l []] =
    some [.i 6, .i 0, .i 0, .i 0, .i 0, .l [], .l [], .s E0, .i 0, .s E0, .s E0, .l []] := by
  have h1 := V.nT
  intro i a hi hI
  refine zgk (f := fun i a => Lq8 (some 7) [.s x, .i (i : Int), .i s.width, .i s.now, .i s.given, .i s.births, .l (encK s.things), .l (encP s.pins), .l (encL s.leases), .i 0, .i 0, .i 0, .i 0, .i 0, .s E0, .i 0, .s E0, .s E0, .l (encK a), .l [], .l [], .l []]) (n := s.things.length) (I := fun i a => a.length ≤ i ∧ ∃ j, i ≤ j ∧ j < s.things.length ∧ x ∈ (nth K0 s.things j).thing.refs)
    (T := fun r => r = some [.i 6, .i 0, .i 0, .i 0, .i 0, .l [], .l [], .s E0, .i 0, .s E0, .s E0, .l []]) (fun i a hi hI => ?_) (fun a hI => ?_) i a hi hI
  · obtain ⟨ha, j, hj1, hj2, hj3⟩ := hI
    have hm := zi (d := K0) hi
    have hrl := zb0 V _ hm
    by_cases hn : x ∈ (nth K0 s.things i).thing.refs
    · right
      show Lq8 _ _ = _
      rw [eq8_7]
      simp (disch := omega) only [push_cast, z0 _ x (show (nth K0 s.things i).thing.refs.length ≤ 4611686018427387904 by omega), decide_eq_true hn]
    · left
      have hj : i + 1 ≤ j := by
        rcases Nat.eq_or_lt_of_le hj1 with h | h
        · rw [h] at hn; exact absurd hj3 hn
        · exact h
      by_cases hc : (nth K0 s.things i).sum = x
      · refine ⟨a, ?_, by omega, j, hj, hj2, hj3⟩
        show Lq8 _ _ = Lq8 _ _
        rw [eq8_7]
        simp (disch := omega) only [push_cast, z0 _ x (show (nth K0 s.things i).thing.refs.length ≤ 4611686018427387904 by omega), decide_eq_false hn]
      · refine ⟨a ++ [nth K0 s.things i], ?_, by simp; omega, j, hj, hj2, hj3⟩
        show Lq8 _ _ = Lq8 _ _
        rw [eq8_7, mostE, ← zbc]
        simp (disch := omega) only [push_cast, z0 _ x (show (nth K0 s.things i).thing.refs.length ≤ 4611686018427387904 by omega), decide_eq_false hn] <;> rfl
  · obtain ⟨_, j, h1, h2, _⟩ := hI; omega
theorem zj9 (hT : hasT s.things x) : Lq8 none [.i s.width, .i s.now, .i s.given, .i s.births, .l (encK s.things), .l (encP s.pins), .l (encL s.leases), .s x] =
    some (if held s x ∨ isRef s.things x then [.i 6, .i 0, .i 0, .i 0, .i 0, .l [], .l [], .s E0, .i 0, .s E0, .s E0, .l []] else [.i 0, .i s.width, .i s.now, .i s.given, .i s.births, .l (encP s.pins), .l (encL s.leases), .s E0, .i 0, .s E0, .s E0, .l (encK (delK x s.things))]) := by
  have h2 := V.nP; have h3 := V.nL
  have hh := zlb s x (by omega) (by omega)
  unfold encSt at hh
  rw [eq8_i]
  simp (disch := omega) only [push_cast, zdn V, show Lqw none [.i s.width, .i s.now, .i s.given, .i s.births, .l (encK s.things), .l (encP s.pins), .l (encL s.leases), .s x] = _ from hh]
  rw [decide_eq_false (show ¬ findT s.things x < 0 from fun h => zbi.1 h hT)]
  by_cases c1 : held s x
  · rw [if_pos (Or.inl c1), decide_eq_true c1]; simp (disch := omega) only [push_cast] <;> rfl
  · rw [decide_eq_false c1]
    by_cases c2 : isRef s.things x
    · rw [if_pos (Or.inr c2)]
      have := zn6 V c2 0 [] (Nat.zero_le _) ⟨Nat.le_refl _, by
        obtain ⟨k, hk1, hk2⟩ := c2
        obtain ⟨j, hj, rfl⟩ := z9 K0 hk1
        exact ⟨j, Nat.zero_le _, hj, hk2⟩⟩
      simp (disch := omega) only [push_cast]
      rw [show Lq8 (some 7) [.s x, .i 0, .i s.width, .i s.now, .i s.given, .i s.births, .l (encK s.things), .l (encP s.pins), .l (encL s.leases), .i 0, .i 0, .i 0, .i 0, .i 0, .s E0, .i 0, .s E0, .s E0, .l [], .l [], .l [], .l []] = _ from this]
    · rw [if_neg (by rintro (h | h); exact c1 h; exact c2 h)]
      have := zua V c2
      simp (disch := omega) only [push_cast]
      rw [show Lq8 (some 7) [.s x, .i 0, .i s.width, .i s.now, .i s.given, .i s.births, .l (encK s.things), .l (encP s.pins), .l (encL s.leases), .i 0, .i 0, .i 0, .i 0, .i 0, .s E0, .i 0, .s E0, .s E0, .l [], .l [], .l [], .l []] = _ from this]
end
noncomputable def addU (l : List Bs) (x : Bs) : List Bs := if x ∈ l then l else l ++ [x]
theorem zsw (l : List Bs) (x : Bs) : (addU l x).length ≤ l.length + 1 := by unfold addU; split <;> simp
theorem zco (l : List Bs) : ∀ a, (l.foldl addU a).length ≤ a.length + l.length := by
  induction l with
  | nil => intro a; simp
  | cons x l ih => intro a; rw [List.foldl_cons, List.length_cons]; have := ih (addU a x); have := zsw a x; omega
theorem zup {l : List Bs} {x y : Bs} : y ∈ addU l x ↔ y ∈ l ∨ y = x := by
  unfold addU
  split
  · rename_i h; exact ⟨.inl, fun h2 => h2.elim id fun e => by rw [e]; exact h⟩
  · simp
theorem zfz (l : List Bs) : ∀ a y, y ∈ l.foldl addU a ↔ y ∈ a ∨ y ∈ l := by
  induction l with
  | nil => intro a y; simp
  | cons x l ih => intro a y; rw [List.foldl_cons, ih, zup, List.mem_cons, or_assoc]
theorem zfo (l : List Bs) (a : List Bs) (i : Nat) (h : i < l.length) : ((l.take (i + 1)).foldl addU a) = addU ((l.take i).foldl addU a) (nth .empty l i) := by
  rw [zbb .empty h, List.foldl_append]; rfl
noncomputable def zbd (s : State) : List Bs := (s.leases.map (·.sum)).foldl addU ((s.pins.map (·.sum)).foldl addU [])
theorem zkn (P : List Pin) (i : Nat) (h : i < P.length) : nth .empty (P.map (·.sum)) i = (nth P0 P i).sum := by
  rw [zm _ _ _ (by rw [List.length_map]; exact h), zm _ _ _ h, List.getElem_map]
theorem ziv (P : List Lease) (i : Nat) (h : i < P.length) : nth .empty (P.map (·.sum)) i = (nth L0 P i).sum := by
  rw [zm _ _ _ (by rw [List.length_map]; exact h), zm _ _ _ h, List.getElem_map]
theorem zr2 (s : State) (h1 : s.pins.length ≤ 1000000) (h2 : s.leases.length ≤ 1000000) : Lqba none (encSt s) = some [.l (encS (zbd s))] := by
  unfold encSt
  have l2 : ∀ a : List Bs, a.length ≤ 1000000 → Lqba (some 8) [.i 0, .i s.width, .i s.now, .i s.given, .i s.births, .l (encK s.things), .l (encP s.pins), .l (encL s.leases), .l (encS a)] = some [.l (encS ((s.leases.map (·.sum)).foldl addU a))] := by
    intro a0 ha0
    exact z6 (f := fun (i : Nat) (a : List Bs) => Lqba (some 8) [.i (i : Int), .i s.width, .i s.now, .i s.given, .i s.births, .l (encK s.things), .l (encP s.pins), .l (encL s.leases), .l (encS a)]) (n := s.leases.length)
      (I := fun i a => a = ((s.leases.map (·.sum)).take i).foldl addU a0) (fun i a hi hI => ⟨addU a (nth L0 s.leases i).sum, by
        show Lqba _ _ = Lqba _ _
        have hl : a.length ≤ 1000000 + i := by rw [hI]; have := zco ((s.leases.map (·.sum)).take i) a0; rw [List.length_take] at this; omega
        rw [eqba_8, mostE]
        unfold addU
        by_cases hm : (nth L0 s.leases i).sum ∈ a
        · rw [if_pos hm]; simp (disch := omega) only [push_cast, z0 a _ (show a.length ≤ 4611686018427387904 by omega), decide_eq_true hm] <;> rfl
        · rw [if_neg hm, ← zn]; simp (disch := omega) only [push_cast, z0 a _ (show a.length ≤ 4611686018427387904 by omega), decide_eq_false hm] <;> rfl, by
        show addU a _ = _
        rw [zfo _ _ _ (by rw [List.length_map]; exact hi), hI, ziv _ _ hi]⟩) (fun a hI => by
        show Lqba _ _ = _
        rw [eqba_8]
        simp (disch := omega) only [push_cast]
        rw [hI, List.take_of_length_le (by rw [List.length_map]; exact Nat.le_refl _)]) 0 a0 (Nat.zero_le _) rfl
  rw [eqba_i]
  have l1 := z6 (f := fun (i : Nat) (a : List Bs) => Lqba (some 3) [.i (i : Int), .i s.width, .i s.now, .i s.given, .i s.births, .l (encK s.things), .l (encP s.pins), .l (encL s.leases), .l (encS a)]) (n := s.pins.length) (T := some [.l (encS (zbd s))])
      (I := fun i a => a = ((s.pins.map (·.sum)).take i).foldl addU []) (fun i a hi hI => ⟨addU a (nth P0 s.pins i).sum, by
        show Lqba _ _ = Lqba _ _
        have hl : a.length ≤ i := by rw [hI]; have := zco ((s.pins.map (·.sum)).take i) []; rw [List.length_take] at this; simp at this; omega
        rw [eqba_3, mostE]
        unfold addU
        by_cases hm : (nth P0 s.pins i).sum ∈ a
        · rw [if_pos hm]; simp (disch := omega) only [push_cast, z0 a _ (show a.length ≤ 4611686018427387904 by omega), decide_eq_true hm] <;> rfl
        · rw [if_neg hm, ← zn]; simp (disch := omega) only [push_cast, z0 a _ (show a.length ≤ 4611686018427387904 by omega), decide_eq_false hm] <;> rfl, by
        show addU a _ = _
        rw [zfo _ _ _ (by rw [List.length_map]; exact hi), hI, zkn _ _ hi]⟩) (fun a hI => by
        show Lqba _ _ = _
        have hl : a.length ≤ s.pins.length := by rw [hI]; have := zco ((s.pins.map (·.sum)).take s.pins.length) []; rw [List.length_take] at this; simp at this; omega
        rw [eqba_3]
        simp (disch := omega) only [push_cast]
        refine (l2 a (by omega)).trans ?_
        unfold zbd
        rw [hI, List.take_of_length_le (by rw [List.length_map]; exact Nat.le_refl _)]) 0 [] (Nat.zero_le _) rfl
  exact l1
noncomputable def bestI (T : List Kept) (a : Int) : Nat → Int
  | 0 => -1
  | i + 1 => if (nth K0 T i).born < a ∧ (bestI T a i < 0 ∨ (nth K0 T (bestI T a i).toNat).born < (nth K0 T i).born) then (i : Int) else bestI T a i
theorem zce (T : List Kept) (a : Int) : ∀ i, -1 ≤ bestI T a i ∧ bestI T a i < i
  | 0 => by simp [bestI]
  | i + 1 => by
    have := zce T a i
    simp only [bestI]
    split <;> omega
theorem zhf (T : List Kept) (a : Int) : ∀ i, (bestI T a i < 0 → ∀ j, j < i → ¬ (nth K0 T j).born < a) ∧ (0 ≤ bestI T a i → (nth K0 T (bestI T a i).toNat).born < a ∧ ∀ j, j < i → (nth K0 T j).born < a → (nth K0 T j).born ≤ (nth K0 T (bestI T a i).toNat).born)
  | 0 => by
    refine ⟨fun _ j hj => by omega, fun h => ?_⟩
    simp [bestI] at h
  | i + 1 => by
    obtain ⟨h1, h2⟩ := zhf T a i
    have h3 := zce T a i
    simp only [bestI]
    split
    · rename_i hc
      refine ⟨fun h => by omega, fun _ => ?_⟩
      rw [zb3]
      refine ⟨hc.1, fun j hj hb => ?_⟩
      rcases Nat.lt_or_ge j i with hji | hji
      · rcases hc.2 with h4 | h4
        · exact absurd hb (h1 h4 j hji)
        · rcases (by omega : bestI T a i < 0 ∨ 0 ≤ bestI T a i) with h5 | h5
          · exact absurd hb (h1 h5 j hji)
          · have := (h2 h5).2 j hji hb; omega
      · obtain rfl : j = i := by omega
        exact Int.le_refl _
    · rename_i hc
      refine ⟨fun h j hj hb => ?_, fun h => ⟨(h2 h).1, fun j hj hb => ?_⟩⟩
      · rcases Nat.lt_or_ge j i with hji | hji
        · exact h1 h j hji hb
        · obtain rfl : j = i := by omega
          exact hc ⟨hb, .inl h⟩
      · rcases Nat.lt_or_ge j i with hji | hji
        · exact (h2 h).2 j hji hb
        · obtain rfl : j = i := by omega
          rcases (by omega : (nth K0 T (bestI T a j).toNat).born < (nth K0 T j).born ∨ (nth K0 T j).born ≤ (nth K0 T (bestI T a j).toNat).born) with h6 | h6
          · exact absurd ⟨hb, .inr h6⟩ hc
          · omega
noncomputable def bestT (T : List Kept) (a : Int) : Int := bestI T a T.length
theorem zu3 (s : State) (a : Int) (hn : s.things.length ≤ 1000000) : Lqbo none (encSt s ++ [.i a]) = some [.i (bestT s.things a)] := by
  show Lqbo none [.i s.width, .i s.now, .i s.given, .i s.births, .l (encK s.things), .l (encP s.pins), .l (encL s.leases), .i a] = _
  rw [eqbo_i]
  have := z6 (f := fun (i : Nat) (b : Int) => Lqbo (some 3) [.i a, .i b, .i (i : Int), .i s.width, .i s.now, .i s.given, .i s.births, .l (encK s.things), .l (encP s.pins), .l (encL s.leases)]) (n := s.things.length) (T := some [.i (bestT s.things a)])
    (I := fun i b => b = bestI s.things a i) (fun i b hi hI => ⟨bestI s.things a (i + 1), by
      show Lqbo _ _ = Lqbo _ _
      have hb := zce s.things a i
      rw [eqbo_3]
      simp only [bestI]
      rw [← hI] at hb ⊢
      by_cases c1 : (nth K0 s.things i).born < a
      rotate_left; · rw [if_neg fun h => c1 h.1]; simp (disch := omega) only [push_cast]
      by_cases c2 : b < 0
      · rw [if_pos ⟨c1, .inl c2⟩]; simp (disch := omega) only [push_cast]
      by_cases c3 : (nth K0 s.things b.toNat).born < (nth K0 s.things i).born
      · rw [if_pos ⟨c1, .inr c3⟩]; simp (disch := omega) only [push_cast]
      · rw [if_neg fun h => h.2.elim c2 c3]; simp (disch := omega) only [push_cast], rfl⟩) (fun b hI => by
      show Lqbo _ _ = _
      rw [eqbo_3]
      simp (disch := omega) only [push_cast]
      rw [hI]; rfl) 0 (-1) (Nat.zero_le _) rfl
  exact this
noncomputable def unitM (s : State) (r : Round) : Round × Bs :=
  if r.phase = 0 then (⟨1, zbd s, r.marked, s.births, s.births + 1, r.rounds⟩, E0)
  else match r.queue with
  | x :: q => if hasT s.things x ∧ x ∉ r.marked then (⟨r.phase, q ++ (nth K0 s.things (lb (qK x) s.things)).thing.refs.filter fun y => !decide (y ∈ r.marked ++ [x]), r.marked ++ [x], r.top, r.at_, r.rounds⟩, E0) else (⟨r.phase, q, r.marked, r.top, r.at_, r.rounds⟩, E0)
  | [] => if bestT s.things r.at_ < 0 then (⟨0, [], [], 0, 0, r.rounds + 1⟩, E0)
    else (⟨2, [], r.marked, r.top, (nth K0 s.things (bestT s.things r.at_).toNat).born, r.rounds⟩, if (nth K0 s.things (bestT s.things r.at_).toNat).sum ∈ r.marked ∨ held s (nth K0 s.things (bestT s.things r.at_).toNat).sum ∨ isRef s.things (nth K0 s.things (bestT s.things r.at_).toNat).sum then E0 else (nth K0 s.things (bestT s.things r.at_).toNat).sum)
noncomputable def zl (s : State) (x : Bs) : State := if x = E0 then s else { s with things := delK x s.things }
def oneD (x : Bs) : List Bs := if x = E0 then [] else [x]
def encUn (s : State) (r : Round) (d : Bs) : Lv := [.i 0, .i s.width, .i s.now, .i s.given, .i s.births, .l (encK s.things), .l (encP s.pins), .l (encL s.leases), .i r.phase, .l (encS r.queue), .l (encS r.marked), .i r.top, .i r.at_, .i r.rounds, .l (encS (oneD d))]
theorem VS.sumNe {s : State} (V : VS s) {k : Kept} (hk : k ∈ s.things) : k.sum ≠ E0 := by
  have := V.wd
  intro h
  have h2 := (V.okT k hk).2.1
  have h3 := zeq (s := formM k.thing) V.wd
  rw [← h2, h] at h3
  have : (E0 : Bs).size = 0 := rfl
  omega
theorem zm5 (l m : List Bs) (i : Nat) (hi : i < l.length) : (l.take (i + 1)).filter (fun y => !decide (y ∈ m)) = (l.take i).filter (fun y => !decide (y ∈ m)) ++ (if nth .empty l i ∈ m then [] else [nth .empty l i]) := by
  rw [zbb .empty hi, List.filter_append]
  congr 1
  split
  · rename_i h; simp [h]
  · rename_i h; simp [h]
theorem zmg {s : State} (V : VS s) {r : Round} (h : RoundOk s.width s.births r) (hr : r.rounds < 1000000000) : Lqbh none (encSt s ++ encR r) = some (encUn (zl s (unitM s r).2) (unitM s r).1 (unitM s r).2) := by
  show Lqbh none [.i s.width, .i s.now, .i s.given, .i s.births, .l (encK s.things), .l (encP s.pins), .l (encL s.leases), .i r.phase, .l (encS r.queue), .l (encS r.marked), .i r.top, .i r.at_, .i r.rounds] = _
  have n1 := V.nT; have n2 := V.nP; have n3 := V.nL; have hb := V.births; have hq := h.nQ; have hm := h.nM; have hrd := h.rds
  have hro := zr2 s (by omega) (by omega)
  have hnx := zu3 s r.at_ (by omega)
  unfold encSt at hro
  have hnx' : Lqbo none [.i s.width, .i s.now, .i s.given, .i s.births, .l (encK s.things), .l (encP s.pins), .l (encL s.leases), .i r.at_] = _ := hnx
  rw [eqbh_i, mostE]
  have st0 : zl s E0 = s := if_pos rfl
  by_cases h0 : r.phase = 0
  · have : unitM s r = (⟨1, zbd s, r.marked, s.births, s.births + 1, r.rounds⟩, E0) := by unfold unitM; rw [if_pos h0]
    rw [this, st0]
    simp (disch := omega) only [push_cast, hro]; rfl
  cases hqq : r.queue with
  | cons x q =>
    rw [hqq] at hq
    simp only [List.length_cons] at hq
    have hsub : Eng.sub (encS (x :: q)) 1 (q.length + 1) = encS q := by rw [zcy]; simp
    have hx0 : (rd (encS (x :: q)) 0 0).str = x := rfl
    have hf := zbi (T := s.things) (x := x)
    by_cases c1 : hasT s.things x
    rotate_left
    · have : unitM s r = (⟨r.phase, q, r.marked, r.top, r.at_, r.rounds⟩, E0) := by unfold unitM; rw [if_neg h0, hqq]; simp only; rw [if_neg fun h => c1 h.1]
      rw [this, st0]
      have hneg := hf.2 c1
      simp (disch := omega) only [push_cast, hsub, hx0, zcl _ _ _ _ s.things _ _ x V.srtT (by omega), List.nil_append]; rfl
    have c1' : ¬ findT s.things x < 0 := fun h => hf.1 h c1
    by_cases c2 : x ∈ r.marked
    · have : unitM s r = (⟨r.phase, q, r.marked, r.top, r.at_, r.rounds⟩, E0) := by unfold unitM; rw [if_neg h0, hqq]; simp only; rw [if_neg fun h => h.2 c2]
      rw [this, st0]
      simp (disch := omega) only [push_cast, hsub, hx0, zcl _ _ _ _ s.things _ _ x V.srtT (by omega), List.nil_append, z0 r.marked x (by omega), decide_eq_true c2]; rfl
    have : unitM s r = (⟨r.phase, q ++ (nth K0 s.things (lb (qK x) s.things)).thing.refs.filter fun y => !decide (y ∈ r.marked ++ [x]), r.marked ++ [x], r.top, r.at_, r.rounds⟩, E0) := by unfold unitM; rw [if_neg h0, hqq]; simp only; rw [if_pos ⟨c1, c2⟩]
    rw [this, st0]
    have hfi : findT s.things x = (lb (qK x) s.things : Int) := if_pos c1
    have hlt := ((zbk V.srtT x).1 c1).1
    have hrl := (V.okT _ (zi (d := K0) hlt)).1.refs
    have hml : (r.marked ++ [x]).length ≤ 4611686018427387904 := by rw [List.length_append]; simp; omega
    have lp := z6 (f := fun (i : Nat) (a : List Bs) => Lqbh (some 15) [.l (encS (nth K0 s.things (lb (qK x) s.things)).thing.refs), .i (i : Int), .i s.width, .i s.now, .i s.given, .i s.births, .l (encK s.things), .l (encP s.pins), .l (encL s.leases), .i r.phase, .l (encS (x :: q)), .i r.top, .i r.at_, .i r.rounds, .i 0, .i 0, .i 0, .i 0, .i 0, .i 0, .i 0, .i 0, .i 0, .l (encS a), .l (encS (r.marked ++ [x])), .l [], .l [], .l [], .l [], .l [], .l []])
      (n := (nth K0 s.things (lb (qK x) s.things)).thing.refs.length) (T := some (encUn s ⟨r.phase, q ++ (nth K0 s.things (lb (qK x) s.things)).thing.refs.filter fun y => !decide (y ∈ r.marked ++ [x]), r.marked ++ [x], r.top, r.at_, r.rounds⟩ E0))
      (I := fun i a => a = q ++ ((nth K0 s.things (lb (qK x) s.things)).thing.refs.take i).filter fun y => !decide (y ∈ r.marked ++ [x])) (fun i a hi hI => ⟨a ++ (if nth .empty (nth K0 s.things (lb (qK x) s.things)).thing.refs i ∈ r.marked ++ [x] then [] else [nth .empty (nth K0 s.things (lb (qK x) s.things)).thing.refs i]), by
        show Lqbh _ _ = Lqbh _ _
        have ha : a.length ≤ 24000 := by
          rw [hI, List.length_append]
          have := List.length_filter_le (fun y => !decide (y ∈ r.marked ++ [x])) ((nth K0 s.things (lb (qK x) s.things)).thing.refs.take i)
          rw [List.length_take] at this; omega
        rw [eqbh_15, mostE]
        by_cases hc : nth .empty (nth K0 s.things (lb (qK x) s.things)).thing.refs i ∈ r.marked ++ [x]
        · rw [if_pos hc, List.append_nil]; simp (disch := omega) only [push_cast, z0 _ (nth .empty (nth K0 s.things (lb (qK x) s.things)).thing.refs i) hml, decide_eq_true hc]
        · rw [if_neg hc, ← zn a]; simp (disch := omega) only [push_cast, z0 _ (nth .empty (nth K0 s.things (lb (qK x) s.things)).thing.refs i) hml, decide_eq_false hc] <;> rfl, by
        show a ++ _ = _
        rw [zm5 _ _ _ hi, hI, List.append_assoc]⟩) (fun a hI => by
        show Lqbh _ _ = _
        rw [eqbh_15]
        simp (disch := omega) only [push_cast]
        rw [hI, List.take_length]; rfl) 0 q (Nat.zero_le _) (by simp)
    simp (disch := omega) only [push_cast, hsub, hx0, zcl _ _ _ _ s.things _ _ x V.srtT (by omega), List.nil_append, z0 r.marked x (by omega), decide_eq_false c2, hfi]
    rw [z7, zn]
    exact lp
  | nil =>
    have hbl := zce s.things r.at_ s.things.length
    have hbt : bestI s.things r.at_ s.things.length = bestT s.things r.at_ := rfl
    rw [hbt] at hbl
    by_cases c1 : bestT s.things r.at_ < 0
    · have : unitM s r = (⟨0, [], [], 0, 0, r.rounds + 1⟩, E0) := by unfold unitM; rw [if_neg h0, hqq]; simp only; rw [if_pos c1]
      rw [this, st0]
      simp (disch := omega) only [push_cast, hnx']; rfl
    obtain ⟨n, hn⟩ : ∃ n : Nat, bestT s.things r.at_ = n := ⟨(bestT s.things r.at_).toNat, by omega⟩
    have hnl : n < s.things.length := by omega
    have hmem := zi (d := K0) hnl
    have hne := V.sumNe hmem
    have hT : hasT s.things (nth K0 s.things n).sum := ⟨_, hmem, rfl⟩
    have hu : unitM s r = (⟨2, [], r.marked, r.top, (nth K0 s.things n).born, r.rounds⟩, if (nth K0 s.things n).sum ∈ r.marked ∨ held s (nth K0 s.things n).sum ∨ isRef s.things (nth K0 s.things n).sum then E0 else (nth K0 s.things n).sum) := by
      unfold unitM; rw [if_neg h0, hqq]; simp only; rw [if_neg c1, hn, zb3]
    rw [hu]
    simp only
    by_cases c2 : (nth K0 s.things n).sum ∈ r.marked
    · rw [if_pos (Or.inl c2), st0]
      simp (disch := omega) only [push_cast, hnx', hn, z0 r.marked (nth K0 s.things n).sum (by omega), decide_eq_true c2]; rfl
    by_cases c3 : held s (nth K0 s.things n).sum ∨ isRef s.things (nth K0 s.things n).sum
    · rw [if_pos (Or.inr c3), st0]
      have := zj9 V hT
      rw [if_pos c3] at this
      simp (disch := omega) only [push_cast, hnx', hn, z0 r.marked (nth K0 s.things n).sum (by omega), decide_eq_false c2, this]; rfl
    · have hno : ¬ ((nth K0 s.things n).sum ∈ r.marked ∨ held s (nth K0 s.things n).sum ∨ isRef s.things (nth K0 s.things n).sum) := fun h => h.elim c2 c3
      rw [if_neg hno]
      have := zj9 V hT
      rw [if_neg c3] at this
      simp (disch := omega) only [push_cast, hnx', hn, z0 r.marked (nth K0 s.things n).sum (by omega), decide_eq_false c2, this]
      unfold zl encUn oneD; rw [if_neg hne, if_neg hne]; rfl
end KV
end
section
namespace KV
open Go Go.Eng
open Classical
theorem put_1 (x : Bs) (a : List Bs) (p t at_ r : Int) (m : Rw) (ha : a.length ≤ 1000000) : Lqdn none [.s x, .m (setM a), .i p, .l m, .i t, .i at_, .i r, .l (encS a)] = some [.m (setM (addU a x)), .i p, .l m, .i t, .i at_, .i r, .l (encS (addU a x))] := by
  rw [eqdn_i, mostE]
  unfold addU
  by_cases h : x ∈ a
  · rw [if_pos h]; simp (disch := omega) only [push_cast, inM, decide_eq_true h]
  · rw [if_neg h, ← zn]; simp (disch := omega) only [push_cast, inM, decide_eq_false h, zgn x a h]; rfl
def encNx (r : Round) (d : Bs) : Lv := [.i r.phase, .l (encS r.marked), .i r.top, .i r.at_, .i r.rounds, .s d, .b true, .l (encS r.queue)]
theorem zsm {s : State} (V : VS s) {r : Round} (h : RoundOk s.width s.births r) : Lqf none (encR r ++ encSt s) = some (if r.rounds = 1000000000 then [.i 0, .l [], .i 0, .i 0, .i 0, .s E0, .b false, .l []] else encNx (unitM s r).1 (unitM s r).2) := by
  show Lqf none [.i r.phase, .l (encS r.queue), .l (encS r.marked), .i r.top, .i r.at_, .i r.rounds, .i s.width, .i s.now, .i s.given, .i s.births, .l (encK s.things), .l (encP s.pins), .l (encL s.leases)] = _
  have n1 := V.nT; have n2 := V.nP; have n3 := V.nL; have hb := V.births; have hq := h.nQ; have hm := h.nM; have hrd := h.rds
  have hcr := zib r (by omega) (by omega)
  have hcr' : Lqcb none [.i r.phase, .l (encS r.queue), .l (encS r.marked), .i r.top, .i r.at_, .i r.rounds] = some [.i r.phase, .i r.top, .i r.at_, .i r.rounds, .l (encS r.queue), .l (encS r.marked)] := hcr
  rw [eqf_i, mostE]
  by_cases hr : r.rounds = 1000000000
  · rw [if_pos hr]; simp (disch := omega) only [push_cast, hcr']
  rw [if_neg hr]
  by_cases h0 : r.phase = 0
  · have hrest := h.rest h0
    have : unitM s r = (⟨1, zbd s, r.marked, s.births, s.births + 1, r.rounds⟩, E0) := by unfold unitM; rw [if_pos h0]
    rw [this]
    have l2 : ∀ a : List Bs, a.length ≤ 500000 → Lqf (some 14) [.l (encL s.leases), .i (s.leases.length : Int), .i 0, .i 0, .i 0, .i 0, .i 0, .i 1, .l (encS r.marked), .i s.births, .i (s.births + 1), .i r.rounds, .l [], .l [], .l (encS a), .m (setM a)] = some (encNx ⟨1, (s.leases.map (·.sum)).foldl addU a, r.marked, s.births, s.births + 1, r.rounds⟩ E0) := by
      intro a0 ha0
      exact z6 (f := fun (i : Nat) (a : List Bs) => Lqf (some 14) [.l (encL s.leases), .i (s.leases.length : Int), .i (i : Int), .i 0, .i 0, .i 0, .i 0, .i 1, .l (encS r.marked), .i s.births, .i (s.births + 1), .i r.rounds, .l [], .l [], .l (encS a), .m (setM a)]) (n := s.leases.length)
        (I := fun i a => a = ((s.leases.map (·.sum)).take i).foldl addU a0) (fun i a hi hI => ⟨addU a (nth L0 s.leases i).sum, by
          show Lqf _ _ = Lqf _ _
          have hl : a.length ≤ 500000 + i := by rw [hI]; have := zco ((s.leases.map (·.sum)).take i) a0; rw [List.length_take] at this; omega
          rw [eqf_14]
          simp (disch := omega) only [push_cast, put_1 (nth L0 s.leases i).sum a 1 s.births (s.births + 1) r.rounds (encS r.marked) (by omega)] <;> rfl, by
          show addU a _ = _
          rw [zfo _ _ _ (by rw [List.length_map]; exact hi), hI, ziv _ _ hi]⟩) (fun a hI => by
          show Lqf _ _ = _
          rw [eqf_14]
          simp (disch := omega) only [push_cast]
          rw [hI, List.take_of_length_le (by rw [List.length_map]; exact Nat.le_refl _)]; rfl) 0 a0 (Nat.zero_le _) rfl
    have l1 := z6 (f := fun (i : Nat) (a : List Bs) => Lqf (some 9) [.l (encP s.pins), .i (s.pins.length : Int), .i (i : Int), .i s.width, .i s.now, .i s.given, .i s.births, .l (encK s.things), .l (encP s.pins), .l (encL s.leases), .i 0, .i 0, .i 0, .i 0, .i 1, .l (encS r.marked), .i s.births, .i (s.births + 1), .i r.rounds, .l [], .l [], .l (encS a), .m (setM a)]) (n := s.pins.length) (T := some (encNx ⟨1, zbd s, r.marked, s.births, s.births + 1, r.rounds⟩ E0))
        (I := fun i a => a = ((s.pins.map (·.sum)).take i).foldl addU []) (fun i a hi hI => ⟨addU a (nth P0 s.pins i).sum, by
          show Lqf _ _ = Lqf _ _
          have hl : a.length ≤ i := by rw [hI]; have := zco ((s.pins.map (·.sum)).take i) []; rw [List.length_take] at this; simp at this; omega
          rw [eqf_9]
          simp (disch := omega) only [push_cast, put_1 (nth P0 s.pins i).sum a 1 s.births (s.births + 1) r.rounds (encS r.marked) (by omega)] <;> rfl, by
          show addU a _ = _
          rw [zfo _ _ _ (by rw [List.length_map]; exact hi), hI, zkn _ _ hi]⟩) (fun a hI => by
          show Lqf _ _ = _
          have hl : a.length ≤ s.pins.length := by rw [hI]; have := zco ((s.pins.map (·.sum)).take s.pins.length) []; rw [List.length_take] at this; simp at this; omega
          rw [eqf_9]
          simp (disch := omega) only [push_cast]
          refine (l2 a (by omega)).trans ?_
          unfold zbd
          rw [hI, List.take_of_length_le (by rw [List.length_map]; exact Nat.le_refl _)]) 0 [] (Nat.zero_le _) rfl
    have l1' : Lqf (some 9) [.l (encP s.pins), .i (s.pins.length : Int), .i 0, .i s.width, .i s.now, .i s.given, .i s.births, .l (encK s.things), .l (encP s.pins), .l (encL s.leases), .i 0, .i 0, .i 0, .i 0, .i 1, .l (encS r.marked), .i s.births, .i (s.births + 1), .i r.rounds, .l [], .l [], .l [], .m []] = _ := l1
    rw [hrest.1] at hcr' ⊢
    simp (disch := omega) only [push_cast, hcr']
    exact l1'
  cases hqq : r.queue with
  | cons x q =>
    rw [hqq] at hq hcr'
    simp only [List.length_cons] at hq
    have hsub : Eng.sub (encS (x :: q)) 1 (q.length + 1) = encS q := by rw [zcy]; simp
    have hx0 : (rd (encS (x :: q)) 0 0).str = x := rfl
    by_cases c1 : hasT s.things x
    rotate_left
    · have : unitM s r = (⟨r.phase, q, r.marked, r.top, r.at_, r.rounds⟩, E0) := by unfold unitM; rw [if_neg h0, hqq]; simp only; rw [if_neg fun h => c1 h.1]
      rw [this]
      simp (disch := omega) only [push_cast, hcr', hsub, hx0, zbp _ _ _ _ s.things _ _ x V.srtT (by omega), decide_eq_false c1]; rfl
    by_cases c2 : x ∈ r.marked
    · have : unitM s r = (⟨r.phase, q, r.marked, r.top, r.at_, r.rounds⟩, E0) := by unfold unitM; rw [if_neg h0, hqq]; simp only; rw [if_neg fun h => h.2 c2]
      rw [this]
      simp (disch := omega) only [push_cast, hcr', hsub, hx0, zbp _ _ _ _ s.things _ _ x V.srtT (by omega), decide_eq_true c1, zbw r.marked x (by omega), decide_eq_true c2]; rfl
    have : unitM s r = (⟨r.phase, q ++ (nth K0 s.things (lb (qK x) s.things)).thing.refs.filter fun y => !decide (y ∈ r.marked ++ [x]), r.marked ++ [x], r.top, r.at_, r.rounds⟩, E0) := by unfold unitM; rw [if_neg h0, hqq]; simp only; rw [if_pos ⟨c1, c2⟩]
    rw [this]
    have hlt := ((zbk V.srtT x).1 c1).1
    have hrl := (V.okT _ (zi (d := K0) hlt)).1.refs
    have hml : (r.marked ++ [x]).length ≤ 4611686018427387904 := by rw [List.length_append]; simp; omega
    have lp := z6 (f := fun (i : Nat) (a : List Bs) => Lqf (some 26) [.l (encS (nth K0 s.things (lb (qK x) s.things)).thing.refs), .i ((nth K0 s.things (lb (qK x) s.things)).thing.refs.length : Int), .i (i : Int), .i 0, .i 0, .i 0, .i 0, .i r.phase, .i r.top, .i r.at_, .i r.rounds, .l [], .l [], .l (encS a), .l (encS (r.marked ++ [x]))])
      (n := (nth K0 s.things (lb (qK x) s.things)).thing.refs.length) (T := some (encNx ⟨r.phase, q ++ (nth K0 s.things (lb (qK x) s.things)).thing.refs.filter fun y => !decide (y ∈ r.marked ++ [x]), r.marked ++ [x], r.top, r.at_, r.rounds⟩ E0))
      (I := fun i a => a = q ++ ((nth K0 s.things (lb (qK x) s.things)).thing.refs.take i).filter fun y => !decide (y ∈ r.marked ++ [x])) (fun i a hi hI => ⟨a ++ (if nth .empty (nth K0 s.things (lb (qK x) s.things)).thing.refs i ∈ r.marked ++ [x] then [] else [nth .empty (nth K0 s.things (lb (qK x) s.things)).thing.refs i]), by
        show Lqf _ _ = Lqf _ _
        have ha : a.length ≤ 24000 := by
          rw [hI, List.length_append]
          have := List.length_filter_le (fun y => !decide (y ∈ r.marked ++ [x])) ((nth K0 s.things (lb (qK x) s.things)).thing.refs.take i)
          rw [List.length_take] at this; omega
        rw [eqf_26, mostE]
        by_cases hc : nth .empty (nth K0 s.things (lb (qK x) s.things)).thing.refs i ∈ r.marked ++ [x]
        · rw [if_pos hc, List.append_nil]; simp (disch := omega) only [push_cast, zbw _ (nth .empty (nth K0 s.things (lb (qK x) s.things)).thing.refs i) hml, decide_eq_true hc]
        · rw [if_neg hc, ← zn a]; simp (disch := omega) only [push_cast, zbw _ (nth .empty (nth K0 s.things (lb (qK x) s.things)).thing.refs i) hml, decide_eq_false hc] <;> rfl, by
        show a ++ _ = _
        rw [zm5 _ _ _ hi, hI, List.append_assoc]⟩) (fun a hI => by
        show Lqf _ _ = _
        rw [eqf_26]
        simp (disch := omega) only [push_cast]
        rw [hI, List.take_length]; rfl) 0 q (Nat.zero_le _) (by simp)
    simp (disch := omega) only [push_cast, hcr', hsub, hx0, zbp _ _ _ _ s.things _ _ x V.srtT (by omega), decide_eq_true c1, zbw r.marked x (by omega), decide_eq_false c2]
    rw [z7, zn]
    exact lp
  | nil =>
    rw [hqq] at hcr'
    have hu : unitM s r = if bestT s.things r.at_ < 0 then (⟨0, [], [], 0, 0, r.rounds + 1⟩, E0)
      else (⟨2, [], r.marked, r.top, (nth K0 s.things (bestT s.things r.at_).toNat).born, r.rounds⟩, if (nth K0 s.things (bestT s.things r.at_).toNat).sum ∈ r.marked ∨ held s (nth K0 s.things (bestT s.things r.at_).toNat).sum ∨ isRef s.things (nth K0 s.things (bestT s.things r.at_).toNat).sum then E0 else (nth K0 s.things (bestT s.things r.at_).toNat).sum) := by
      unfold unitM; rw [if_neg h0, hqq]
    rw [hu]
    have lp := z6 (f := fun (i : Nat) (b : Int) => Lqf (some 35) [.i b, .l (encK s.things), .i (s.things.length : Int), .i (i : Int), .i s.width, .i s.now, .i s.given, .i s.births, .l (encK s.things), .l (encP s.pins), .l (encL s.leases), .i r.phase, .l (encS []), .l (encS r.marked), .i r.top, .i r.at_, .i r.rounds, .i 0, .i 0, .i 0, .i 0, .i 2, .i r.top, .i r.at_, .i r.rounds, .l [], .l [], .l (encS []), .l (encS r.marked)]) (n := s.things.length)
      (T := some (encNx (if bestT s.things r.at_ < 0 then ((⟨0, [], [], 0, 0, r.rounds + 1⟩ : Round), E0)
      else (⟨2, [], r.marked, r.top, (nth K0 s.things (bestT s.things r.at_).toNat).born, r.rounds⟩, if (nth K0 s.things (bestT s.things r.at_).toNat).sum ∈ r.marked ∨ held s (nth K0 s.things (bestT s.things r.at_).toNat).sum ∨ isRef s.things (nth K0 s.things (bestT s.things r.at_).toNat).sum then E0 else (nth K0 s.things (bestT s.things r.at_).toNat).sum)).1 (if bestT s.things r.at_ < 0 then ((⟨0, [], [], 0, 0, r.rounds + 1⟩ : Round), E0)
      else (⟨2, [], r.marked, r.top, (nth K0 s.things (bestT s.things r.at_).toNat).born, r.rounds⟩, if (nth K0 s.things (bestT s.things r.at_).toNat).sum ∈ r.marked ∨ held s (nth K0 s.things (bestT s.things r.at_).toNat).sum ∨ isRef s.things (nth K0 s.things (bestT s.things r.at_).toNat).sum then E0 else (nth K0 s.things (bestT s.things r.at_).toNat).sum)).2))
      (I := fun i b => b = bestI s.things r.at_ i) (fun i b hi hI => ⟨bestI s.things r.at_ (i + 1), by
        show Lqf _ _ = Lqf _ _
        have hb := zce s.things r.at_ i
        rw [eqf_35]
        simp only [bestI]
        rw [← hI] at hb ⊢
        by_cases c1 : (nth K0 s.things i).born < r.at_
        rotate_left; · rw [if_neg fun h => c1 h.1]; simp (disch := omega) only [push_cast]
        by_cases c2 : b < 0
        · rw [if_pos ⟨c1, .inl c2⟩]; simp (disch := omega) only [push_cast]
        by_cases c3 : (nth K0 s.things b.toNat).born < (nth K0 s.things i).born
        · rw [if_pos ⟨c1, .inr c3⟩]; simp (disch := omega) only [push_cast]
        · rw [if_neg fun h => h.2.elim c2 c3]; simp (disch := omega) only [push_cast], rfl⟩) (fun b hI => by
        show Lqf _ _ = _
        have hbl := zce s.things r.at_ s.things.length
        rw [← hI] at hbl
        rw [show bestT s.things r.at_ = b from hI.symm, eqf_35]
        by_cases c1 : b < 0
        · rw [if_pos c1]; simp (disch := omega) only [push_cast]; rfl
        rw [if_neg c1]
        obtain ⟨n, rfl⟩ : ∃ n : Nat, b = n := ⟨b.toNat, by omega⟩
        have hnl : n < s.things.length := by omega
        have hh := zmw s (nth K0 s.things n).sum (by omega) (by omega)
        have hi := zjb s.width s.now s.given s.births s.things (encP s.pins) (encL s.leases) (nth K0 s.things n).sum (by omega) (fun k hk => by have := (V.okT k hk).1.refs; omega)
        have hh' : Lq0 none [.s (nth K0 s.things n).sum, .i s.width, .i s.now, .i s.given, .i s.births, .l (encK s.things), .l (encP s.pins), .l (encL s.leases)] = _ := hh
        by_cases c2 : (nth K0 s.things n).sum ∈ r.marked
        · simp (disch := omega) only [push_cast, zbw r.marked (nth K0 s.things n).sum (by omega), decide_eq_true c2]
          rw [if_pos (Or.inl c2)]; rfl
        by_cases c3 : held s (nth K0 s.things n).sum
        · simp (disch := omega) only [push_cast, zbw r.marked (nth K0 s.things n).sum (by omega), decide_eq_false c2, hh', decide_eq_true c3]
          rw [if_pos (Or.inr (Or.inl c3))]; rfl
        by_cases c4 : isRef s.things (nth K0 s.things n).sum
        · simp (disch := omega) only [push_cast, zbw r.marked (nth K0 s.things n).sum (by omega), decide_eq_false c2, hh', decide_eq_false c3, hi, decide_eq_true c4]
          rw [if_pos (Or.inr (Or.inr c4))]; rfl
        · simp (disch := omega) only [push_cast, zbw r.marked (nth K0 s.things n).sum (by omega), decide_eq_false c2, hh', decide_eq_false c3, hi, decide_eq_false c4]
          rw [if_neg fun h => h.elim c2 fun h => h.elim c3 c4]; rfl) 0 (-1) (Nat.zero_le _) rfl
    simp (disch := omega) only [push_cast, hcr']
    exact lp
end KV
end
section
namespace KV
open Go Go.Eng
open Classical
def eDrop (x : Bs) : Entry := ⟨7, x, E0, 0, ⟨E0, []⟩⟩
theorem zd3 {s : State} {r : Round} (V : VS s) (h : (unitM s r).2 ≠ E0) : hasT s.things (unitM s r).2 ∧ ¬ held s (unitM s r).2 ∧ ¬ isRef s.things (unitM s r).2 ∧ (unitM s r).2 ∉ r.marked ∧ r.phase ≠ 0 ∧ r.queue = [] := by
  unfold unitM at h ⊢
  split at h
  · exact absurd rfl h
  · rename_i h0
    rw [if_neg h0]
    split at h
    · split at h <;> exact absurd rfl h
    · rename_i hq
      split at h
      · exact absurd rfl h
      · rename_i hb
        rw [if_neg hb]
        simp only at h ⊢
        have hbl := zce s.things r.at_ s.things.length
        have hbt : bestI s.things r.at_ s.things.length = bestT s.things r.at_ := rfl
        rw [hbt] at hbl
        split at h
        · exact absurd rfl h
        · rename_i hc
          rw [if_neg hc]
          have hm := zi (d := K0) (show (bestT s.things r.at_).toNat < s.things.length by omega)
          exact ⟨⟨_, hm, rfl⟩, fun h => hc (.inr (.inl h)), fun h => hc (.inr (.inr h)), fun h => hc (.inl h), h0, hq⟩
theorem ze4 {s : State} {x : Bs} (V : VS s) (h1 : hasT s.things x) (h2 : ¬ held s x) (h3 : ¬ isRef s.things x) : x ≠ E0 ∧ zg (eDrop x) s.width = true ∧ (chg s (eDrop x)).code = 0 ∧ (chg s (eDrop x)).st = zl s x := by
  obtain ⟨k, hk, rfl⟩ := h1
  have hne := V.sumNe hk
  have hsz : (k.sum.size : Int) = s.width := by rw [(V.okT k hk).2.1]; exact zeq V.wd
  have hw : zj s.width = true := zz.2 V.wd
  refine ⟨hne, ?_, ?_, ?_⟩
  · have a1 : sumB 7 k.sum s.width = true := by
      unfold sumB; rw [if_pos (show uS 7 = true from rfl)]; exact decide_eq_true hsz
    have a2 : namB 7 E0 = true := by
      unfold namB; rw [if_neg (by decide)]; exact decide_eq_true rfl
    have a3 : thgB 7 ⟨E0, []⟩ s.width = true := by
      unfold thgB; rw [if_neg (by decide)]; rw [decide_eq_true (p := (E0 : Bs) = E0) rfl]; rfl
    show zg ⟨7, k.sum, E0, 0, ⟨E0, []⟩⟩ s.width = true
    unfold zg
    simp only
    rw [hw, a1, a2, a3]; rfl
  all_goals
    unfold chg
    rw [if_neg (show ¬ (eDrop k.sum).kind = 1 from (by show ¬ (7 : Int) = 1; omega)), if_neg (show ¬ (eDrop k.sum).kind = 2 from (by show ¬ (7 : Int) = 2; omega)), if_neg (show ¬ (eDrop k.sum).kind = 3 from (by show ¬ (7 : Int) = 3; omega)), if_neg (show ¬ (eDrop k.sum).kind = 4 from (by show ¬ (7 : Int) = 4; omega)), if_neg (show ¬ (eDrop k.sum).kind = 5 from (by show ¬ (7 : Int) = 5; omega)), if_neg (show ¬ (eDrop k.sum).kind = 6 from (by show ¬ (7 : Int) = 6; omega)), if_pos (show hasT s.things (eDrop k.sum).sum from ⟨k, hk, rfl⟩), if_neg (show ¬ (held s (eDrop k.sum).sum ∨ isRef s.things (eDrop k.sum).sum) from fun h => h.elim h2 h3)]
  · rfl
  · unfold zl; rw [if_neg hne]; rfl
theorem zh3 {s : State} {r : Round} (V : VS s) : VS (zl s (unitM s r).2) := by
  by_cases h : (unitM s r).2 = E0
  · unfold zl; rw [if_pos h]; exact V
  · obtain ⟨a, b, c, _⟩ := zd3 V h
    obtain ⟨d, e, f, g⟩ := ze4 V a b c
    rw [← g]; exact zdc V e f
theorem zfb (s : State) (x : Bs) : (zl s x).width = s.width ∧ (zl s x).births = s.births ∧ (zl s x).now = s.now ∧ (zl s x).given = s.given ∧ (zl s x).pins = s.pins ∧ (zl s x).leases = s.leases := by
  unfold zl; split <;> exact ⟨rfl, rfl, rfl, rfl, rfl, rfl⟩
theorem zmk {s : State} (V : VS s) {x : Bs} (h : x ∈ zbd s) : hasT s.things x := by
  unfold zbd at h
  rw [zfz, zfz] at h
  rcases h with (h | h) | h
  · cases h
  · obtain ⟨p, hp, rfl⟩ := List.mem_map.1 h; exact (V.okP p hp).2
  · obtain ⟨p, hp, rfl⟩ := List.mem_map.1 h; exact (V.okL p hp).2.2.1
theorem zgj (s : State) : (zbd s).length ≤ s.pins.length + s.leases.length := by
  unfold zbd
  have h1 := zco (s.leases.map (·.sum)) ((s.pins.map (·.sum)).foldl addU [])
  have h2 := zco (s.pins.map (·.sum)) []
  rw [List.length_map] at h1 h2
  simp at h2
  omega
theorem VS.szT {s : State} (V : VS s) {x : Bs} (h : hasT s.things x) : (x.size : Int) = s.width := by
  obtain ⟨k, hk, rfl⟩ := h; rw [(V.okT k hk).2.1]; exact zeq V.wd
theorem zkr {s : State} {r : Round} (V : VS s) (h : RoundOk s.width s.births r) : (unitM s r).1.queue.length ≤ 23230 ∧ (unitM s r).1.marked.length ≤ 601 := by
  have hq := h.nQ; have hm := h.nM; have n2 := V.nP; have n3 := V.nL; have hr := zgj s
  unfold unitM
  split
  · simp only; omega
  · split
    · rename_i x q hqq
      rw [hqq] at hq
      simp only [List.length_cons] at hq
      split
      · rename_i hc
        have hlt := ((zbk V.srtT x).1 hc.1).1
        have hrl := (V.okT _ (zi (d := K0) hlt)).1.refs
        have := List.length_filter_le (fun y => !decide (y ∈ r.marked ++ [x])) (nth K0 s.things (lb (qK x) s.things)).thing.refs
        simp only [List.length_append, List.length_cons, List.length_nil]
        omega
      · simp only; omega
    · split
      · simp
      · simp only [List.length_nil]; omega
theorem zi6 {s : State} {r : Round} (V : VS s) (h : RoundOk s.width s.births r) (hr : r.rounds < 1000000000) (hq : (unitM s r).1.queue.length ≤ 23200) (hm : (unitM s r).1.marked.length ≤ 600) : RoundOk s.width s.births (unitM s r).1 := by
  have hb := V.births; have hrd := h.rds
  unfold unitM at hq hm ⊢
  split at hq
  · rename_i h0
    rw [if_pos h0] at hm ⊢
    simp only at hq hm ⊢
    refine ⟨⟨by show (0 : Int) ≤ 1; omega, by show (1 : Int) ≤ 2; omega⟩, h.rds, hq, hm, h.szM, h.ndM, fun x hx => V.szT (zmk V hx), fun h1 => absurd h1 (by show ¬ (1 : Int) = 0; omega), fun _ => ⟨hb.1, Int.le_refl _, by show (1 : Int) ≤ s.births + 1; omega, Int.le_refl _, fun _ => rfl⟩⟩
  · rename_i h0
    rw [if_neg h0] at hm ⊢
    have hgo := h.go h0
    split at hq
    · rename_i x q hqq
      simp only [hqq] at hm ⊢
      have hszx : (x.size : Int) = s.width := h.szQ x (by rw [hqq]; simp)
      have hszq : ∀ y ∈ q, (y.size : Int) = s.width := fun y hy => h.szQ y (by rw [hqq]; simp [hy])
      split at hq
      · rename_i hc
        rw [if_pos hc] at hm ⊢
        simp only at hq hm ⊢
        have hlt := ((zbk V.srtT x).1 hc.1).1
        have hrs := (V.okT _ (zi (d := K0) hlt)).1.size
        refine ⟨h.ph, h.rds, hq, hm, fun y hy => ?_, ?_, fun y hy => ?_, fun h1 => absurd h1 h0, fun _ => hgo⟩
        · rcases List.mem_append.1 hy with h1 | h1
          · exact h.szM y h1
          · rw [List.mem_singleton] at h1; rw [h1]; exact hszx
        · rw [List.nodup_append]
          refine ⟨h.ndM, by simp, fun a ha b hb => ?_⟩
          rw [List.mem_singleton] at hb
          rintro rfl
          rw [hb] at ha; exact hc.2 ha
        · rcases List.mem_append.1 hy with h1 | h1
          · exact hszq y h1
          · exact hrs y (List.mem_filter.1 h1).1
      · rename_i hc
        rw [if_neg hc] at hm ⊢
        simp only at hq hm ⊢
        exact ⟨h.ph, h.rds, hq, hm, h.szM, h.ndM, hszq, fun h1 => absurd h1 h0, fun _ => hgo⟩
    · rename_i hqq
      simp only [hqq] at hm ⊢
      split at hq
      · rename_i hc
        rw [if_pos hc]
        exact ⟨⟨Int.le_refl _, by show (0 : Int) ≤ 2; omega⟩, ⟨by show 0 ≤ r.rounds + 1; omega, by show r.rounds + 1 ≤ 1000000000; omega⟩, Nat.zero_le _, Nat.zero_le _, (fun x hx => nomatch hx), List.nodup_nil, (fun x hx => nomatch hx), fun _ => ⟨rfl, rfl, rfl, rfl⟩, fun h => absurd rfl h⟩
      · rename_i hc
        rw [if_neg hc] at hm ⊢
        simp only at hq hm ⊢
        have hbl := zce s.things r.at_ s.things.length
        have hbi := (zhf s.things r.at_ s.things.length).2
        have hbt : bestI s.things r.at_ s.things.length = bestT s.things r.at_ := rfl
        rw [hbt] at hbl hbi
        have hmm := zi (d := K0) (show (bestT s.things r.at_).toNat < s.things.length by omega)
        have hk := (V.okT _ hmm).2.2
        have hlt := (hbi (by omega)).1
        refine ⟨⟨by show (0 : Int) ≤ 2; omega, Int.le_refl _⟩, h.rds, hq, hm, h.szM, h.ndM, (fun x hx => nomatch hx), fun h1 => absurd h1 (by show ¬ (2 : Int) = 0; omega), fun _ => ⟨hgo.1, hgo.2.1, hk.1, ?_, fun h1 => absurd h1 (by show ¬ (2 : Int) = 1; omega)⟩⟩
        show (nth K0 s.things (bestT s.things r.at_).toNat).born ≤ r.top + 1
        omega
noncomputable def stepV (v : Vault) : Vault := { v with st := zl v.st (unitM v.st v.rd).2, rd := (unitM v.st v.rd).1, loose := if (unitM v.st v.rd).2 = E0 then v.loose else v.loose ++ [formE (eDrop (unitM v.st v.rd).2)] }
structure VQ (v : Vault) : Prop where
  wd : zj v.width = true
  lim : 0 ≤ v.limit ∧ v.limit ≤ 1000000
  log : LogOk v.safe v.loose
  run : runL v.width (empty v.width) (v.safe ++ v.loose) 0 = .inl v.st
  nq : v.rd.queue.length ≤ 23230
  nm : v.rd.marked.length ≤ 601
  rd : v.rd.queue.length ≤ 23200 → v.rd.marked.length ≤ 600 → RoundOk v.st.width v.st.births v.rd
theorem VQ.vs {v : Vault} (h : VQ v) : VS v.st ∧ v.st.width = v.width := zcq _ _ _ _ (zcj (zz.1 h.wd)) rfl h.run
theorem VQ.vv {v : Vault} (h : VQ v) (hr : RoundOk v.st.width v.st.births v.rd) : VV v := ⟨h.wd, h.lim, h.log, h.run, hr⟩
theorem VV.vq {v : Vault} (h : VV v) : VQ v := ⟨h.wd, h.lim, h.log, h.run, by have := h.rd.nQ; omega, by have := h.rd.nM; omega, fun _ _ => h.rd⟩
theorem VQ.small {v : Vault} (h : VQ v) : SmallV v := by
  have hn := h.log.n; have hq := h.nq; have hm := h.nm; have hT := h.vs.1.nT
  refine ⟨⟨by omega, fun x hx => by have := h.log.sa x hx; omega⟩, ⟨by omega, fun x hx => by have := h.log.sb x hx; omega⟩, by omega, h.vs.1.small, by omega, by omega, by omega⟩
theorem zcw {v : Vault} (V : VV v) (hr : v.rd.rounds < 1000000000) (hl : (unitM v.st v.rd).2 = E0 ∨ v.safe.length + v.loose.length < 4000) : VQ (stepV v) := by
  have Vs := V.vs
  have hlen := zkr Vs.1 V.rd
  have hk := zfb v.st (unitM v.st v.rd).2
  have hlog : LogOk v.safe (stepV v).loose ∧ runL v.width (empty v.width) (v.safe ++ (stepV v).loose) 0 = .inl (stepV v).st := by
    unfold stepV
    simp only
    by_cases h : (unitM v.st v.rd).2 = E0
    · rw [if_pos h]; unfold zl; rw [if_pos h]; exact ⟨V.log, V.run⟩
    · rw [if_neg h]
      obtain ⟨a, b, c, _⟩ := zd3 Vs.1 h
      obtain ⟨d, e, f, g⟩ := ze4 Vs.1 a b c
      rw [Vs.2] at e
      have hz := zii e
      have hl := hl.resolve_left h
      refine ⟨⟨V.log.sa, fun x hx => ?_, ?_⟩, ?_⟩
      · rcases List.mem_append.1 hx with h1 | h1
        · exact V.log.sb x h1
        · rw [List.mem_singleton] at h1; rw [h1]; omega
      · rw [List.length_append]; simp; omega
      · rw [← List.append_assoc, ze1, V.run]
        simp only [runL, zg3 e]
        rw [if_pos f, g]
  exact ⟨V.wd, V.lim, hlog.1, hlog.2, hlen.1, hlen.2, fun h1 h2 => by
    show RoundOk (zl v.st (unitM v.st v.rd).2).width (zl v.st (unitM v.st v.rd).2).births (unitM v.st v.rd).1
    rw [hk.1, hk.2.1]
    exact zi6 Vs.1 V.rd hr h1 h2⟩
abbrev Swp := Option (Vault × List Bs × Nat)
noncomputable def clrS : Nat → Vault → List Bs → Nat → Swp
  | 0, v, d, u => some (v, d, u)
  | n + 1, v, d, u => if 1000000000 ≤ v.rd.rounds ∨ 23200 < (unitM v.st v.rd).1.queue.length ∨ 600 < (unitM v.st v.rd).1.marked.length then none
    else if (unitM v.st v.rd).2 ≠ E0 ∧ 4000 ≤ v.safe.length + v.loose.length then some (v, d, u) else clrS n (stepV v) (d ++ oneD (unitM v.st v.rd).2) (u + 1)
noncomputable def clrI : Nat → Vault → List Bs → Nat → Swp
  | 0, v, d, u => some (v, d, u)
  | n + 1, v, d, u => if ¬ RoundOk v.st.width v.st.births v.rd ∨ v.rd.rounds = 1000000000 then none
    else if (unitM v.st v.rd).2 ≠ E0 ∧ 4000 ≤ v.safe.length + v.loose.length then some (v, d, u) else clrI n (stepV v) (d ++ oneD (unitM v.st v.rd).2) (u + 1)
def zi3 : Swp → Lv
  | some (v, d, u) => .i 0 :: (vI v ++ (.i (u : Int) :: (vL v ++ [.l (encS d)])))
  | none => .i 1 :: (vI V0 ++ (.i 0 :: (vL V0 ++ [.l []])))
def zer : Swp → Lv
  | some (v, d, u) => [.i 0, .i v.width, .i v.limit, .i v.st.width, .i v.st.now, .i v.st.given, .i v.st.births, .i v.rd.phase, .l (encS v.rd.marked), .i v.rd.top, .i v.rd.at_, .i v.rd.rounds, .i (u : Int), .l (encS v.safe), .l (encS v.loose), .l (encK v.st.things), .l (encP v.st.pins), .l (encL v.st.leases), .l (encS v.rd.queue), .l (encS d)]
  | none => [.i 1, .i 0, .i 0, .i 0, .i 0, .i 0, .i 0, .i 0, .l [], .i 0, .i 0, .i 0, .i 0, .l [], .l [], .l [], .l [], .l [], .l [], .l []]
theorem zqx (i1 i2 i3 i4 i5 i6 i7 i8 i9 i10 i11 : Int) (l1 l2 l3 l4 l5 l6 l7 : Rw) : ∀ (n : Nat) (v : Vault) (d : List Bs) (u : Nat), VQ v → u + n ≤ 10000 → d.length ≤ u →
    Lqb3 (some 5) [.i ((u + n : Nat) : Int), .i 0, .i 0, .i 0, .i 0, .i 0, .i 0, .i 0, .i 0, .i 0, .i 0, .i 0, .i 0, .i v.width, .i v.limit, .i v.st.width, .i v.st.now, .i v.st.given, .i v.st.births, .i v.rd.phase, .l (encS v.rd.marked), .i v.rd.top, .i v.rd.at_, .i v.rd.rounds, .i 0, .i i1, .i i2, .i i3, .i i4, .i i5, .i i6, .i i7, .i i8, .i i9, .i i10, .i (u : Int), .l [], .l [], .l [], .l [], .l [], .l [], .l [], .l [], .l (encS v.safe), .l (encS v.loose), .l (encK v.st.things), .l (encP v.st.pins), .l (encL v.st.leases), .l (encS v.rd.queue), .l l1, .l l2, .l l3, .l l4, .l l5, .l l6, .l l7, .l (encS d)] = some (zer (clrI n v d u)) := by
  intro n
  induction n with
  | zero =>
    intro v d u V hu hd
    rw [eqb3_5]
    simp (disch := omega) only [push_cast]
    rfl
  | succ n ih =>
    intro v d u V hu hd
    have Vs := V.vs
    have hro := zk3 v.st v.rd Vs.1.births
    have hro' : Lqs none [.i v.rd.phase, .l (encS v.rd.queue), .l (encS v.rd.marked), .i v.rd.top, .i v.rd.at_, .i v.rd.rounds, .i v.st.width, .i v.st.now, .i v.st.given, .i v.st.births, .l (encK v.st.things), .l (encP v.st.pins), .l (encL v.st.leases)] = _ := hro
    rw [eqb3_5, hro', mostE]
    simp only [clrI]
    by_cases hr : RoundOk v.st.width v.st.births v.rd
    rotate_left
    · rw [if_pos (Or.inl hr)]; simp (disch := omega) only [push_cast, decide_eq_false hr]; rfl
    have hnx := zsm Vs.1 hr
    have hnx' : Lqf none [.i v.rd.phase, .l (encS v.rd.queue), .l (encS v.rd.marked), .i v.rd.top, .i v.rd.at_, .i v.rd.rounds, .i v.st.width, .i v.st.now, .i v.st.given, .i v.st.births, .l (encK v.st.things), .l (encP v.st.pins), .l (encL v.st.leases)] = _ := hnx
    have hrd := hr.rds
    by_cases h9 : v.rd.rounds = 1000000000
    · rw [if_pos (Or.inr h9)]; rw [if_pos h9] at hnx'; simp (disch := omega) only [push_cast, decide_eq_true hr, hnx']; rfl
    rw [if_neg (fun h => h.elim (fun h => h hr) h9)]
    rw [if_neg h9] at hnx'
    have VVv := V.vv hr
    have hlog := V.log.n
    by_cases hd0 : (unitM v.st v.rd).2 = E0
    · rw [if_neg fun h => h.1 hd0]
      have hs := zcw VVv (by omega) (.inl hd0)
      have := ih (stepV v) (d ++ oneD (unitM v.st v.rd).2) (u + 1) hs (by omega) (by rw [List.length_append]; unfold oneD; split <;> simp <;> omega)
      rw [show u + 1 + n = u + (n + 1) by omega] at this
      unfold stepV zl oneD at this
      simp only [if_pos hd0, List.append_nil] at this
      unfold encNx at hnx'
      rw [hd0] at hnx'
      have e1 : oneD (unitM v.st v.rd).2 = [] := if_pos hd0
      have e2 : stepV v = { v with rd := (unitM v.st v.rd).1 } := by unfold stepV zl; rw [if_pos hd0, if_pos hd0]
      rw [e1, List.append_nil, e2]
      simp (disch := omega) only [push_cast, decide_eq_true hr, hnx']
      exact this
    obtain ⟨a, b, c, _⟩ := zd3 Vs.1 hd0
    obtain ⟨e1, e2, e3, e4⟩ := ze4 Vs.1 a b c
    have hch := zig Vs.1 e2
    have hch' : Lqa none [.i 7, .s (unitM v.st v.rd).2, .s E0, .i 0, .s E0, .l [], .i v.st.width, .i v.st.now, .i v.st.given, .i v.st.births, .l (encK v.st.things), .l (encP v.st.pins), .l (encL v.st.leases)] = _ := hch
    have e2' := e2
    rw [Vs.2] at e2'
    have hfe := znb (eDrop (unitM v.st v.rd).2) v.width (by show (0 : Nat) ≤ 4611686018427387904; omega)
    rw [if_pos e2'] at hfe
    have hfe' : Lqci none [.i 7, .s (unitM v.st v.rd).2, .s E0, .i 0, .s E0, .l [], .i v.width] = _ := hfe
    unfold encNx at hnx'
    by_cases hf : 4000 ≤ v.safe.length + v.loose.length
    · rw [if_pos ⟨hd0, hf⟩]
      simp (disch := omega) only [push_cast, decide_eq_true hr, hnx', decide_eq_false hd0]
      rfl
    rw [if_neg fun h => hf h.2]
    have hs := zcw VVv (by omega) (.inr (by omega))
    have := ih (stepV v) (d ++ oneD (unitM v.st v.rd).2) (u + 1) hs (by omega) (by rw [List.length_append]; unfold oneD; split <;> simp <;> omega)
    rw [show u + 1 + n = u + (n + 1) by omega] at this
    have e5 : oneD (unitM v.st v.rd).2 = [(unitM v.st v.rd).2] := if_neg hd0
    have e6 : (stepV v).loose = v.loose ++ [formE (eDrop (unitM v.st v.rd).2)] := if_neg hd0
    rw [e5, e6] at this
    rw [e5]
    have e7 : (stepV v).st = (chg v.st (eDrop (unitM v.st v.rd).2)).st := e4.symm
    rw [e7] at this
    simp (disch := omega) only [push_cast, decide_eq_true hr, hnx', decide_eq_false hd0, hch', zy, encSt, List.cons_append, List.nil_append, hfe']
    rw [z7, zn, z7, zn]
    exact this
theorem zp1 {v : Vault} (h : SmallV v) (hc : CutV v) (n : Int) : Lqb3 none (encV v ++ [.i n]) = some (zer (if VV v ∧ 0 ≤ n ∧ n ≤ 10000 then clrI n.toNat v [] 0 else none)) := by
  show Lqb3 none [.i v.width, .i v.limit, .l (encS v.safe), .l (encS v.loose), .i v.st.width, .i v.st.now, .i v.st.given, .i v.st.births, .l (encK v.st.things), .l (encP v.st.pins), .l (encL v.st.leases), .i v.rd.phase, .l (encS v.rd.queue), .l (encS v.rd.marked), .i v.rd.top, .i v.rd.at_, .i v.rd.rounds, .i n] = _
  have hvv := zf0 h hc
  have hcp := zjl h
  unfold encV at hvv hcp
  rw [eqb3_i, hvv, hcp]
  by_cases V : VV v
  rotate_left; · rw [if_neg fun h => V h.1, decide_eq_false V]; simp (disch := omega) only [push_cast]; rfl
  rw [decide_eq_true V]
  by_cases h0 : 0 ≤ n
  rotate_left; · rw [if_neg fun h => h0 h.2.1]; simp (disch := omega) only [push_cast]; rfl
  by_cases h1 : n ≤ 10000
  rotate_left; · rw [if_neg fun h => h1 h.2.2]; simp (disch := omega) only [push_cast]; rfl
  rw [if_pos ⟨V, h0, h1⟩]
  obtain ⟨m, rfl⟩ : ∃ m : Nat, n = m := ⟨n.toNat, by omega⟩
  have := zqx 0 0 0 0 0 0 0 0 0 0 0 [] [] [] [] [] [] [] m v [] 0 V.vq (by omega) (Nat.le_refl _)
  simp only [vI, vL, List.cons_append, List.nil_append]
  rw [Nat.zero_add] at this
  simp (disch := omega) only [push_cast]
  exact this
theorem zs2 (a1 a5 a6 a7 a8 a12 a15 a16 a17 : Int) (a3 a4 a9 a10 a11 a13 a14 : Rw) (w2 : Int) : ∀ (n : Nat) (v : Vault) (d : List Bs) (u : Nat), VV v → u + n ≤ 10000 → d.length ≤ u → 
    Lqcg (some 4) [.i ((u + n : Nat) : Int), .i v.width, .i w2, .l a3, .l a4, .i a5, .i a6, .i a7, .i a8, .l a9, .l a10, .l a11, .i a12, .l a13, .l a14, .i a15, .i a16, .i a17, .i 0, .i 0, .i 0, .i 0, .i 0, .i 0, .i 0, .i 0, .i 0, .i 0, .i 0, .i 0, .i 0, .i v.width, .i v.limit, .i v.st.width, .i v.st.now, .i v.st.given, .i v.st.births, .l (encK v.st.things), .l (encP v.st.pins), .l (encL v.st.leases), .i v.rd.phase, .l (encS v.rd.queue), .l (encS v.rd.marked), .i v.rd.top, .i v.rd.at_, .i v.rd.rounds, .i (u : Int), .l [], .l [], .l [], .l [], .l [], .l [], .l [], .l [], .l (encS v.safe), .l (encS v.loose), .l (encS d)] = some (zi3 (clrS n v d u)) := by
  intro n
  induction n with
  | zero =>
    intro v d u V hu hd
    have hcp := ze0 V
    unfold encV at hcp
    rw [eqcg_4]
    simp (disch := omega) only [push_cast, hcp]
    rfl
  | succ n ih =>
    intro v d u V hu hd
    have Vs := V.vs
    have hrd := V.rd.rds
    have hlog := V.log.n
    rw [eqcg_4, mostE]
    simp only [clrS]
    by_cases h9 : 1000000000 ≤ v.rd.rounds
    · rw [if_pos (Or.inl h9)]; simp (disch := omega) only [push_cast]; rfl
    have hun := zmg Vs.1 V.rd (by omega)
    have hun' : Lqbh none [.i v.st.width, .i v.st.now, .i v.st.given, .i v.st.births, .l (encK v.st.things), .l (encP v.st.pins), .l (encL v.st.leases), .i v.rd.phase, .l (encS v.rd.queue), .l (encS v.rd.marked), .i v.rd.top, .i v.rd.at_, .i v.rd.rounds] = _ := hun
    unfold encUn at hun'
    by_cases hq : 23200 < (unitM v.st v.rd).1.queue.length
    · rw [if_pos (Or.inr (Or.inl hq))]; simp (disch := omega) only [push_cast, hun']; rfl
    by_cases hm : 600 < (unitM v.st v.rd).1.marked.length
    · rw [if_pos (Or.inr (Or.inr hm))]; simp (disch := omega) only [push_cast, hun']; rfl
    rw [if_neg (fun h => h.elim h9 fun h => h.elim hq hm)]
    have hk := zfb v.st (unitM v.st v.rd).2
    by_cases hd0 : (unitM v.st v.rd).2 = E0
    · rw [if_neg fun h => h.1 hd0]
      have hs := zcw V (by omega) (.inl hd0)
      have := ih (stepV v) (d ++ oneD (unitM v.st v.rd).2) (u + 1) (hs.vv (hs.rd (by show (unitM v.st v.rd).1.queue.length ≤ 23200; omega) (by show (unitM v.st v.rd).1.marked.length ≤ 600; omega))) (by omega) (by rw [List.length_append]; unfold oneD; split <;> simp <;> omega)
      rw [show u + 1 + n = u + (n + 1) by omega] at this
      have e1 : oneD (unitM v.st v.rd).2 = [] := if_pos hd0
      have e2 : stepV v = { v with rd := (unitM v.st v.rd).1 } := by unfold stepV zl; rw [if_pos hd0, if_pos hd0]
      rw [e1, List.append_nil, e2] at this
      rw [e1, List.append_nil, e2]
      have e3 : zl v.st (unitM v.st v.rd).2 = v.st := if_pos hd0
      rw [e3, e1] at hun'
      simp (disch := omega) only [push_cast, hun', show encS [] = [] from rfl]
      exact this
    obtain ⟨a, b, c, _⟩ := zd3 Vs.1 hd0
    obtain ⟨e1, e2, e3, e4⟩ := ze4 Vs.1 a b c
    have e2' := e2
    rw [Vs.2] at e2'
    have hfe := zdu (eDrop (unitM v.st v.rd).2) v.width (by show (0 : Nat) ≤ 4611686018427387904; omega)
    rw [if_pos e2'] at hfe
    have hfe' : Lqv none [.i 7, .s (unitM v.st v.rd).2, .s E0, .i 0, .s E0, .l [], .i v.width] = _ := hfe
    have e5 : oneD (unitM v.st v.rd).2 = [(unitM v.st v.rd).2] := if_neg hd0
    rw [e5] at hun'
    have hx0 : (rd (encS [(unitM v.st v.rd).2]) 0 0).str = (unitM v.st v.rd).2 := rfl
    have hcp := ze0 V
    unfold encV at hcp
    by_cases hf : 4000 ≤ v.safe.length + v.loose.length
    · rw [if_pos ⟨hd0, hf⟩]
      simp (disch := omega) only [push_cast, hun', hcp]
      rfl
    rw [if_neg fun h => hf h.2]
    have hs := zcw V (by omega) (.inr (by omega))
    have := ih (stepV v) (d ++ oneD (unitM v.st v.rd).2) (u + 1) (hs.vv (hs.rd (by show (unitM v.st v.rd).1.queue.length ≤ 23200; omega) (by show (unitM v.st v.rd).1.marked.length ≤ 600; omega))) (by omega) (by rw [List.length_append]; unfold oneD; split <;> simp <;> omega)
    rw [show u + 1 + n = u + (n + 1) by omega] at this
    have e6 : (stepV v).loose = v.loose ++ [formE (eDrop (unitM v.st v.rd).2)] := if_neg hd0
    rw [e5, e6] at this
    rw [e5]
    simp (disch := omega) only [push_cast, hun', hx0, hfe']
    rw [z7, zn, z7, zn]
    exact this
theorem zrz {v : Vault} (h : SmallV v) (n : Int) : Lqcg none (encV v ++ [.i n]) = some (zi3 (if VV v ∧ 0 ≤ n ∧ n ≤ 10000 then clrS n.toNat v [] 0 else none)) := by
  show Lqcg none [.i v.width, .i v.limit, .l (encS v.safe), .l (encS v.loose), .i v.st.width, .i v.st.now, .i v.st.given, .i v.st.births, .l (encK v.st.things), .l (encP v.st.pins), .l (encL v.st.leases), .i v.rd.phase, .l (encS v.rd.queue), .l (encS v.rd.marked), .i v.rd.top, .i v.rd.at_, .i v.rd.rounds, .i n] = _
  have hvv := zdy h
  unfold encV at hvv
  rw [eqcg_i, hvv]
  by_cases V : VV v
  rotate_left; · rw [if_neg fun h => V h.1, decide_eq_false V]; simp (disch := omega) only [push_cast]; rfl
  rw [decide_eq_true V]
  by_cases h0 : 0 ≤ n ∧ n ≤ 10000
  rotate_left; · rw [if_neg fun h => h0 h.2]; simp (disch := omega) only [push_cast, zp]; rfl
  rw [if_pos ⟨V, h0.1, h0.2⟩]
  obtain ⟨m, rfl⟩ : ∃ m : Nat, n = m := ⟨n.toNat, by omega⟩
  have hcp := ze0 V
  unfold encV at hcp
  have := zs2 v.limit v.st.width v.st.now v.st.given v.st.births v.rd.phase v.rd.top v.rd.at_ v.rd.rounds (encS v.safe) (encS v.loose) (encK v.st.things) (encP v.st.pins) (encL v.st.leases) (encS v.rd.queue) (encS v.rd.marked) v.limit m v [] 0 V (by omega) (Nat.le_refl _)
  rw [Nat.zero_add] at this
  simp only [vI, vL, List.cons_append, List.nil_append] at hcp
  simp (disch := omega) only [push_cast, zp, decide_eq_true h0, hcp]
  exact this
end KV
end
section
namespace KV
open Go Go.Eng
open Classical
structure RB (b : Rw) : Prop where
  n : b.length ≤ 2000
  by_ : ∀ i, 0 ≤ (rd b i 0).int ∧ (rd b i 0).int ≤ 255
theorem zdg {a n : Int} (ha : 0 ≤ a) (hn : 1 ≤ n) : 0 ≤ a.tmod n ∧ a.tmod n < n := by
  rw [Int.tmod_eq_emod_of_nonneg ha]; exact ⟨Int.emod_nonneg _ (by omega), Int.emod_lt_of_pos _ (by omega)⟩
theorem zqu {a b : Int} (ha : 0 ≤ a) (hb : 0 ≤ b) (ha2 : a < 4611686018427387904) (hb2 : b < 4611686018427387904) :
    0 ≤ IntKind.i64.wrap ((BitVec.ofInt IntKind.i64.bits a ^^^ BitVec.ofInt IntKind.i64.bits b).toNat : Int) := by
  show 0 ≤ IntKind.i64.wrap ((BitVec.ofInt 64 a ^^^ BitVec.ofInt 64 b).toNat : Int)
  rw [BitVec.toNat_xor, BitVec.toNat_ofInt, BitVec.toNat_ofInt]
  have e1 : (a % ((2 ^ 64 : Nat) : Int)).toNat = a.toNat := by
    rw [Int.emod_eq_of_lt ha (by have : (2 ^ 64 : Nat) = 18446744073709551616 := rfl; omega)]
  have e2 : (b % ((2 ^ 64 : Nat) : Int)).toNat = b.toNat := by
    rw [Int.emod_eq_of_lt hb (by have : (2 ^ 64 : Nat) = 18446744073709551616 := rfl; omega)]
  rw [e1, e2]
  have h : a.toNat ^^^ b.toNat < 2 ^ 62 := Nat.xor_lt_two_pow (by have : (2 ^ 62 : Nat) = 4611686018427387904 := rfl; omega) (by have : (2 ^ 62 : Nat) = 4611686018427387904 := rfl; omega)
  have : (2 ^ 62 : Nat) = 4611686018427387904 := rfl
  rw [w64 (by omega)]; omega
theorem zk {b : Rw} (hb : RB b) (n : Int) (hn : n ≤ 1000000000000) (p : Int) (hp : 0 ≤ p ∧ p ≤ 1000000000) : ∃ x : Int, Lqb none [.i n, .l b, .i p] = some [.i x, .l b, .i (p + 1)] ∧ 0 ≤ x ∧ (x < n ∨ x = 0) := by
  obtain ⟨p, rfl⟩ : ∃ q : Nat, p = (q : Int) := ⟨p.toNat, by omega⟩
  rw [eqb_i]
  have e1 : IntKind.i64.wrap ((p : Int) + 1) = (p : Int) + 1 := w64 (by omega)
  have e2 : IntKind.i64.wrap ((p : Int) + 1 - 1) = (p : Int) := by rw [w64 (by omega)]; omega
  rw [e1, e2]
  by_cases h1 : 1 ≤ n
  rotate_left; · exact ⟨0, by simp (disch := omega) only [push_cast], by omega, .inr rfl⟩
  by_cases h2 : b.length = 0
  · exact ⟨0, by simp (disch := omega) only [push_cast], by omega, .inr rfl⟩
  by_cases h3 : p < b.length
  · have hr := hb.by_ p
    have ht := zdg hr.1 h1
    refine ⟨((rd b p 0).int).tmod n, ?_, ht.1, .inl ht.2⟩
    simp (disch := omega) only [push_cast]
  · have hbn := hb.n
    obtain ⟨m, hm⟩ : ∃ m : Nat, b.length = m := ⟨_, rfl⟩
    rw [hm] at h2 h3 hbn ⊢
    have t1 := zdg (a := (p : Int)) (n := (m : Int)) (by omega) (by omega)
    have t2 := zdg (a := (p : Int) * 7 + 3) (n := (m : Int)) (by omega) (by omega)
    have t3 : 0 ≤ (p : Int).tdiv (m : Int) ∧ (p : Int).tdiv (m : Int) ≤ p := by
      rw [Int.tdiv_eq_ediv_of_nonneg (by omega)]
      exact ⟨Int.ediv_nonneg (by omega) (by omega), Int.ediv_le_self _ (by omega)⟩
    have r1 := hb.by_ ((p : Int).tmod (m : Int)).toNat
    have r2 := hb.by_ (((p : Int) * 7 + 3).tmod (m : Int)).toNat
    obtain ⟨c1, hc1⟩ : ∃ c, (rd b ((p : Int).tmod (m : Int)).toNat 0).int = c := ⟨_, rfl⟩
    obtain ⟨c2, hc2⟩ : ∃ c, (rd b (((p : Int) * 7 + 3).tmod (m : Int)).toNat 0).int = c := ⟨_, rfl⟩
    obtain ⟨q, hq⟩ : ∃ q, (p : Int).tdiv (m : Int) = q := ⟨_, rfl⟩
    rw [hc1] at r1; rw [hc2] at r2; rw [hq] at t3
    have hv : 0 ≤ c1 * 131 + c2 * 1117 + (p : Int) * 29 + q * 53 := by omega
    have h64 : 0 ≤ (c1 * 131 + c2 * 1117 + (p : Int) * 29 + q * 53).tdiv 64 ∧ (c1 * 131 + c2 * 1117 + (p : Int) * 29 + q * 53).tdiv 64 ≤ c1 * 131 + c2 * 1117 + (p : Int) * 29 + q * 53 := by
      rw [Int.tdiv_eq_ediv_of_nonneg hv]; omega
    have hx := zqu hv h64.1 (by omega) (by omega)
    have ht := zdg hx h1
    refine ⟨(IntKind.i64.wrap ((BitVec.ofInt IntKind.i64.bits (c1 * 131 + c2 * 1117 + (p : Int) * 29 + q * 53) ^^^ BitVec.ofInt IntKind.i64.bits ((c1 * 131 + c2 * 1117 + (p : Int) * 29 + q * 53).tdiv 64)).toNat : Int)).tmod n, ?_, ht.1, .inl ht.2⟩
    simp (disch := omega) only [push_cast, hc1, hc2, hq]
theorem zq6 {c : Rw} (hc : ∀ i, 0 ≤ (rd c i 0).int ∧ (rd c i 0).int ≤ 255) : ∃ b, Lqc8 none [.l c] = some [.l b, .i 0] ∧ RB b := by
  rw [eqc8_i]
  by_cases h : c.length ≤ 2000
  · exact ⟨c, by simp (disch := omega) only [push_cast], h, hc⟩
  · refine ⟨Eng.sub c 0 2000, by simp (disch := omega) only [push_cast] <;> rfl, ?_, fun i => ?_⟩
    · simp [Eng.sub]; omega
    · have : rd (Eng.sub c 0 2000) i 0 = if i < 2000 then rd c i 0 else .i 0 := by
        unfold rd Eng.sub
        simp only [List.drop_zero, Nat.sub_zero, List.getD_eq_getElem?_getD, List.getElem?_take]
        split <;> rfl
      rw [this]
      split
      · exact hc i
      · exact ⟨Int.le_refl _, by show (0 : Int) ≤ 255; omega⟩
theorem zly {b : Rw} (hb : RB b) (n : Nat) (hn : n ≤ 3) : ∀ (m i : Nat) (p : Int) (acc : Rw), n + 1 - i = m → i ≤ n + 1 → 0 ≤ p ∧ p + m ≤ 1000000000 → acc.length = i →
    ∃ s p', Lqcp (some 13) [.i (n : Int), .i (i : Int), .l b, .i p, .l acc] = some [.s s, .l b, .i p'] ∧ p ≤ p' ∧ p' ≤ p + m ∧ s.size = n + 1
  | 0, i, p, acc, hm, hi, hp, ha => by
    refine ⟨bytesOf acc, p, ?_, by omega, by omega, by rw [zcr]; omega⟩
    rw [eqcp_13]; simp (disch := omega) only [push_cast]
  | m + 1, i, p, acc, hm, hi, hp, ha => by
    obtain ⟨x, hx, hx0, hx1⟩ := zk hb 6 (by omega) p (by omega)
    obtain ⟨s, p', h1, h2, h3, h4⟩ := zly hb n hn m (i + 1) (p + 1) (acc ++ [[.i (IntKind.u8.wrap (IntKind.i64.wrap (97 + x)))]]) (by omega) (by omega) (by omega) (by simp [ha])
    refine ⟨s, p', ?_, by omega, by omega, h4⟩
    rw [eqcp_13, hx, mostE, ← h1]
    simp (disch := omega) only [push_cast]
theorem zrn {b : Rw} (hb : RB b) (p : Int) (hp : 0 ≤ p ∧ p ≤ 999999000) : ∃ s p', Lqcp none [.l b, .i p] = some [.s s, .l b, .i p'] ∧ p ≤ p' ∧ p' ≤ p + 10 ∧ s.size ≤ 4 := by
  obtain ⟨x, hx, hx0, hx1⟩ := zk hb 9 (by omega) p (by omega)
  rw [eqcp_i, hx]
  by_cases c0 : x = 0
  · exact ⟨⟨#[]⟩, p + 1, by simp (disch := omega) only [push_cast], by omega, by omega, by decide⟩
  by_cases c1 : x = 1
  · exact ⟨⟨#[97, 32, 98]⟩, p + 1, by simp (disch := omega) only [push_cast], by omega, by omega, by decide⟩
  by_cases c2 : x = 2
  · exact ⟨⟨#[37, 45, 10]⟩, p + 1, by simp (disch := omega) only [push_cast], by omega, by omega, by decide⟩
  by_cases c3 : x = 3
  · exact ⟨⟨#[255, 0]⟩, p + 1, by simp (disch := omega) only [push_cast], by omega, by omega, by decide⟩
  obtain ⟨y, hy, hy0, hy1⟩ := zk hb 4 (by omega) (p + 1) (by omega)
  obtain ⟨n, rfl⟩ : ∃ n : Nat, y = (n : Int) := ⟨y.toNat, by omega⟩
  obtain ⟨s, p', h1, h2, h3, h4⟩ := zly hb n (by omega) (n + 1) 0 (p + 1 + 1) [] (by omega) (by omega) (by omega) rfl
  refine ⟨s, p', ?_, by omega, by omega, by omega⟩
  simp (disch := omega) only [push_cast, hy]
  exact h1
theorem zs1 {b : Rw} (hb : RB b) (p : Int) (hp : 0 ≤ p ∧ p ≤ 999999000) : ∃ w, Lqc9 none [.l b, .i p] = some [.i w, .l b, .i (p + 1)] ∧ (w = 1 ∨ w = 2 ∨ w = 8) := by
  obtain ⟨x, hx, hx0, hx1⟩ := zk hb 8 (by omega) p (by omega)
  rw [eqc9_i, hx]
  by_cases c0 : x < 2
  · exact ⟨1, by simp (disch := omega) only [push_cast], .inl rfl⟩
  by_cases c1 : x = 2
  · exact ⟨2, by simp (disch := omega) only [push_cast], .inr (.inl rfl)⟩
  · exact ⟨8, by simp (disch := omega) only [push_cast], .inr (.inr rfl)⟩
theorem zra {l : List Bs} (h : Asc l) (x : Bs) (hx : x ∉ l) : Asc (l.take (lb (fun a => slt a x) l) ++ x :: l.drop (lb (fun a => slt a x) l)) := by
  unfold Asc at h ⊢
  have mono : ∀ a b, slt a b = true → slt b x = true → slt a x = true := fun a b h1 h2 => zbq h1 h2
  have hd : ∀ a ∈ l.drop (lb (fun a => slt a x) l), slt x a = true := fun a ha => by
    obtain ⟨j, hj, rfl⟩ := List.mem_iff_getElem.1 ha
    rw [List.length_drop] at hj
    have := lb_hi .empty h mono (lb (fun a => slt a x) l + j) (by omega) (by omega)
    rw [List.getElem_drop, ← zm .empty l _ (by omega)]
    rcases zh9.1 this with h1 | h1
    · exact absurd (h1 ▸ zi (by omega)) hx
    · exact h1
  have ht : ∀ a ∈ l.take (lb (fun a => slt a x) l), slt a x = true := fun a ha => by
    obtain ⟨j, hj, rfl⟩ := List.mem_iff_getElem.1 ha
    rw [List.length_take] at hj
    have := lb_lt (fun a => slt a x) .empty l j (by omega)
    rw [List.getElem_take, ← zm .empty l _ (by omega)]; exact this
  rw [List.pairwise_append, List.pairwise_cons]
  refine ⟨h.sublist (List.take_sublist _ _), ⟨hd, h.sublist (List.drop_sublist _ _)⟩, fun a ha b hb => ?_⟩
  rcases List.mem_cons.1 hb with rfl | hb
  · exact ht a ha
  · exact zbq (ht a ha) (hd b hb)
theorem zmp (l : List Bs) (i : Nat) (hi : i < l.length) (out : List Bs) (ho : Asc out) (hol : out.length ≤ 1000000) (hl : l.length ≤ 1000000) : ∀ m k : Nat, lb (fun a => slt a (nth .empty l i)) out - k = m → k ≤ lb (fun a => slt a (nth .empty l i)) out →
    Lqq (some 6) [.l (encS l), .i (i : Int), .i (k : Int), .l (encS out)] = Lqq (some 3) [.l (encS l), .i ((i + 1 : Nat) : Int), .l (encS (if nth .empty l i ∈ out then out else out.take (lb (fun a => slt a (nth .empty l i)) out) ++ nth .empty l i :: out.drop (lb (fun a => slt a (nth .empty l i)) out)))]
  | m + 1, k, hm, hk => by
    have hle := lb_le (fun a => slt a (nth .empty l i)) out
    have hq := lb_lt (fun a => slt a (nth .empty l i)) .empty out k (by omega)
    rw [← zmp l i hi out ho hol hl m (k + 1) (by omega) (by omega), eqq_6]
    simp (disch := omega) only [push_cast, hq]
  | 0, k, hm, hk => by
    have hle := lb_le (fun a => slt a (nth .empty l i)) out
    have hke : k = lb (fun a => slt a (nth .empty l i)) out := by omega
    generalize hx : nth .empty l i = x at *
    have mono : ∀ a b, slt a b = true → slt b x = true → slt a x = true := fun a b h1 h2 => zbq h1 h2
    have hmem : x ∈ out ↔ k < out.length ∧ nth .empty out k = x := by
      have := zdi (q := fun a => slt a x) (p := fun a => a = x) .empty ho (fun a h => by rw [h]; exact zdt x) (fun a b hab hb => by rw [← hb]; exact hab)
      rw [hke, ← this]
      exact ⟨fun h => ⟨x, h, rfl⟩, fun ⟨a, h1, h2⟩ => h2 ▸ h1⟩
    have nine : x ∉ out → Lqq (some 9) [.l (encS l), .i (i : Int), .i (k : Int), .l (encS out)] = Lqq (some 3) [.l (encS l), .i ((i + 1 : Nat) : Int), .l (encS (out.take k ++ x :: out.drop k))] := fun hn => by
      have s1 : Eng.sub (encS out) 0 k = encS (out.take k) := by rw [zcy]; simp
      have s2 : Eng.sub (encS out) k out.length = encS (out.drop k) := by rw [zcy, List.take_of_length_le (by simp)]
      rw [eqq_9, mostE]
      simp (disch := omega) only [push_cast, hx, s1, s2, List.nil_append, List.length_append, List.length_take, List.length_drop]
      rw [z7, zn, zn, List.append_assoc]; rfl
    rw [eqq_6]
    by_cases h1 : k < out.length
    · have hq : slt (nth .empty out k) x = false := by rw [hke]; exact lb_at (fun a => slt a x) .empty out (by omega)
      by_cases h2 : nth .empty out k = x
      · rw [if_pos (hmem.2 ⟨h1, h2⟩)]
        simp (disch := omega) only [push_cast, hx, hq]
      · have hn : x ∉ out := fun h => h2 (hmem.1 h).2
        rw [if_neg hn]
        simp (disch := omega) only [push_cast, hx, hq]
        rw [nine hn, hke]; simp (disch := omega) only [push_cast]
    · have hn : x ∉ out := fun h => h1 (hmem.1 h).1
      rw [if_neg hn]
      simp (disch := omega) only [push_cast]
      rw [nine hn, hke]; simp (disch := omega) only [push_cast]
theorem znr (l : List Bs) (hl : l.length ≤ 1000000) : ∃ out : List Bs, Lqq none [.l (encS l)] = some [.l (encS out)] ∧ Asc out ∧ (∀ x, x ∈ out ↔ x ∈ l) ∧ out.length ≤ l.length := by
  rw [eqq_i]
  refine zgk (f := fun (i : Nat) (out : List Bs) => Lqq (some 3) [.l (encS l), .i (i : Int), .l (encS out)]) (n := l.length) (I := fun i out => Asc out ∧ (∀ x, x ∈ out ↔ x ∈ l.take i) ∧ out.length ≤ i)
    (T := fun r => ∃ out : List Bs, r = some [.l (encS out)] ∧ Asc out ∧ (∀ x, x ∈ out ↔ x ∈ l) ∧ out.length ≤ l.length) (fun i out hi hI => .inl ?_) (fun out hI => ?_) 0 [] (Nat.zero_le _) ⟨List.Pairwise.nil, fun x => by simp, Nat.zero_le _⟩
  · obtain ⟨ho, hm, hlen⟩ := hI
    refine ⟨if nth .empty l i ∈ out then out else out.take (lb (fun a => slt a (nth .empty l i)) out) ++ nth .empty l i :: out.drop (lb (fun a => slt a (nth .empty l i)) out), ?_, ?_, fun x => ?_, ?_⟩
    · show Lqq _ _ = Lqq _ _
      rw [← zmp l i hi out ho (by omega) hl (lb (fun a => slt a (nth .empty l i)) out) 0 (by omega) (Nat.zero_le _), eqq_3]; simp (disch := omega) only [push_cast]
    · split
      · exact ho
      · rename_i h; exact zra ho _ h
    · rw [zbb .empty hi, List.mem_append, List.mem_singleton, ← hm]
      split
      · rename_i h; exact ⟨.inl, fun h1 => by rcases h1 with h1 | rfl; exact h1; exact h⟩
      · rw [List.mem_append, List.mem_cons]
        conv => rhs; rw [← List.take_append_drop (lb (fun a => slt a (nth .empty l i)) out) out, List.mem_append]
        constructor
        · rintro (h | h | h)
          · exact .inl (.inl h)
          · exact .inr h
          · exact .inl (.inr h)
        · rintro ((h | h) | h)
          · exact .inl h
          · exact .inr (.inr h)
          · exact .inr (.inl h)
    · have := lb_le (fun a => slt a (nth .empty l i)) out
      split
      · omega
      · simp; omega
  · refine ⟨out, ?_, hI.1, fun x => by rw [hI.2.1 x, List.take_length], hI.2.2⟩
    show Lqq _ _ = _
    rw [eqq_3]; simp (disch := omega) only [push_cast]
end KV
end
section
namespace KV
open Go Go.Eng
open Classical
theorem zpi : ∀ (n : Nat) (s out : Bs) (T : Nat), out.size + n * s.size = T → T ≤ 1000000000 → s.size ≤ 1000000000 → n ≤ 1000000000 → ∃ r, Lqcl (some 2) [.s s, .i (n : Int), .s out] = some [.s r] ∧ r.size = T := by
  intro n
  induction n using Nat.strongRecOn with
  | ind n ih =>
    intro s out T hT hB hs hn
    rw [eqcl_2]
    by_cases h0 : n = 0
    · subst h0; exact ⟨out, by simp (disch := omega) only [push_cast], by omega⟩
    have hd : IntKind.i64.wrap ((n : Int).tdiv 2) = ((n / 2 : Nat) : Int) := by
      rw [Int.tdiv_eq_ediv_of_nonneg (by omega), w64 (by omega)]; omega
    have hm : ((n : Int).tmod 2) = ((n % 2 : Nat) : Int) := by rw [Int.tmod_eq_emod_of_nonneg (by omega)]; omega
    have hss : (s ++ s).size = s.size + s.size := z5 s s
    have hmul : n * s.size = (n / 2) * (s.size + s.size) + (n % 2) * s.size := by
      conv => lhs; rw [← Nat.div_add_mod n 2]
      rw [Nat.add_mul, Nat.mul_comm 2 (n / 2), Nat.mul_assoc, Nat.two_mul]
    have hsT : s.size ≤ T := by
      have : 1 * s.size ≤ n * s.size := Nat.mul_le_mul_right _ (by omega)
      omega
    rw [hd, hm, mostE]
    by_cases h1 : n % 2 = 1
    · rw [h1] at hmul ⊢
      have hh : 2 ≤ n → s.size + s.size ≤ T := fun h2 => by
        have : 1 * (s.size + s.size) ≤ (n / 2) * (s.size + s.size) := Nat.mul_le_mul_right _ (by omega)
        omega
      by_cases h2 : 2 ≤ n
      · obtain ⟨r, hr, hr2⟩ := ih (n / 2) (by omega) (s ++ s) (out ++ s) T (by rw [z5, hss]; omega) hB (by have := hh h2; omega) (by omega)
        refine ⟨r, ?_, hr2⟩
        rw [← hr]
        simp (disch := omega) only [push_cast]
      · have hn1 : n / 2 = 0 := by omega
        refine ⟨out ++ s, ?_, by rw [z5]; rw [hn1] at hmul; omega⟩
        rw [hn1]
        simp (disch := omega) only [push_cast]
        rw [eqcl_2]; simp (disch := omega) only [push_cast]
    · have h2 : n % 2 = 0 := by omega
      rw [h2] at hmul ⊢
      have : 1 * (s.size + s.size) ≤ (n / 2) * (s.size + s.size) := Nat.mul_le_mul_right _ (by omega)
      obtain ⟨r, hr, hr2⟩ := ih (n / 2) (by omega) (s ++ s) out T (by rw [hss]; omega) hB (by omega) (by omega)
      refine ⟨r, ?_, hr2⟩
      rw [← hr]
      simp (disch := omega) only [push_cast]
theorem zts (s : Bs) (n : Int) (h0 : 0 ≤ n ∧ n ≤ 1000000000) (hs : s.size = 1) : ∃ r, Lqcl none [.s s, .i n] = some [.s r] ∧ (r.size : Int) = n := by
  obtain ⟨n, rfl⟩ : ∃ m : Nat, n = (m : Int) := ⟨n.toNat, by omega⟩
  rw [eqcl_i]
  obtain ⟨r, h1, h2⟩ := zpi n s ⟨#[]⟩ n (by show 0 + n * s.size = n; rw [hs]; omega) (by omega) (by omega) (by omega)
  exact ⟨r, h1, by omega⟩
inductive SpT (t t' : Thing) : Prop where
  | text (h : t'.refs = t.refs) (hs : t'.text.size ≤ 2001 ∨ t'.text.size ≤ t.text.size + 1)
  | more (r : Bs) (h : t'.text = t.text) (hr : t'.refs = t.refs ++ [r]) (hs : r.size = 1 ∨ r ∈ t.refs)
  | ones (h : t'.text = t.text) (hr : ∀ r ∈ t'.refs, r.size = 1) (hn : t'.refs.length ≤ 31)
theorem zkk {b : Rw} (n : Nat) (hn : n ≤ 31) (p : Int) (x y : Bs) : ∀ (m i : Nat) (acc : List Bs), n - i = m → i ≤ n → acc.length = i → (∀ r ∈ acc, r.size = 1) →
    ∃ l : List Bs, Lqb2 (some 15) [.i (n : Int), .i (i : Int), .l b, .i p, .s x, .s y, .l [], .l (encS acc)] = some [.s y, .l b, .i p, .l (encS l)] ∧ (∀ r ∈ l, r.size = 1) ∧ l.length = n
  | 0, i, acc, hm, hi, ha, hr => ⟨acc, by rw [eqb2_15]; simp (disch := omega) only [push_cast], hr, by omega⟩
  | m + 1, i, acc, hm, hi, ha, hr => by
    obtain ⟨l, h1, h2, h3⟩ := zkk n hn p x y m (i + 1) (acc ++ [bytesOf [[.i (IntKind.u8.wrap (IntKind.i64.wrap (33 + (i : Int))))]]]) (by omega) (by omega) (by simp [ha]) (fun r h => by
      rcases List.mem_append.1 h with h | h
      · exact hr r h
      · rw [List.mem_singleton] at h; rw [h, zcr]; rfl)
    refine ⟨l, ?_, h2, h3⟩
    rw [eqb2_15, ← h1, mostE, ← zn]
    simp (disch := omega) only [push_cast]; rfl
theorem zlw {b : Rw} (hb : RB b) (t : Thing) (ht : t.refs.length ≤ 1000000000 ∧ t.text.size ≤ 1000000000) (p : Int) (hp : 0 ≤ p ∧ p ≤ 999998000) :
    ∃ (t' : Thing) (p' : Int), Lqb2 none [.s t.text, .l (encS t.refs), .l b, .i p] = some [.s t'.text, .l b, .i p', .l (encS t'.refs)] ∧ p ≤ p' ∧ p' ≤ p + 10 ∧ SpT t t' := by
  obtain ⟨x, hx, hx0, hx1⟩ := zk hb 5 (by omega) p (by omega)
  rw [eqb2_i, zfa _ _ (by rw [z4]; omega), mostE]
  by_cases c0 : x = 0
  · obtain ⟨y, hy, hy0, hy1⟩ := zk hb 2 (by omega) (p + 1) (by omega)
    obtain ⟨r, hr, hr2⟩ := zts ⟨#[116]⟩ (2000 + y) (by omega) rfl
    refine ⟨⟨r, t.refs⟩, p + 1 + 1, ?_, by omega, by omega, .text rfl (.inl (by simp only; omega))⟩
    simp (disch := omega) only [push_cast, hx, hy, hr]
  by_cases c1 : x = 1
  · refine ⟨⟨t.text, t.refs ++ [⟨#[120]⟩]⟩, p + 1, ?_, by omega, by omega, .more ⟨#[120]⟩ rfl rfl (.inl rfl)⟩
    simp (disch := omega) only [push_cast, hx]
    rw [z7, zn]
  by_cases c2 : x = 2
  · by_cases h0 : 0 < t.refs.length
    · refine ⟨⟨t.text, t.refs ++ [nth .empty t.refs 0]⟩, p + 1, ?_, by omega, by omega, .more _ rfl rfl (.inr (zi h0))⟩
      simp (disch := omega) only [push_cast, hx]
      rw [z7, zn]
    · refine ⟨t, p + 1, ?_, by omega, by omega, .text rfl (.inr (Nat.le_succ _))⟩
      simp (disch := omega) only [push_cast, hx]
  by_cases c3 : x = 3
  · obtain ⟨y, hy, hy0, hy1⟩ := zk hb 2 (by omega) (p + 1) (by omega)
    obtain ⟨n, hn⟩ : ∃ n : Nat, 30 + y = (n : Int) := ⟨(30 + y).toNat, by omega⟩
    obtain ⟨l, h1, h2, h3⟩ := zkk (b := b) n (by omega) (p + 1 + 1) E0 t.text n 0 [] (by omega) (by omega) rfl (fun r hr => by cases hr)
    refine ⟨⟨t.text, l⟩, p + 1 + 1, ?_, by omega, by omega, .ones rfl h2 (by simp only; omega)⟩
    simp (disch := omega) only [push_cast, hx, hy, hn]
    exact h1
  · refine ⟨⟨t.text ++ ⟨#[122]⟩, t.refs⟩, p + 1, ?_, by omega, by omega, .text rfl (.inr (by simp only; rw [z5]; exact Nat.le_refl _))⟩
    have : (⟨#[122]⟩ : Bs).size = 1 := rfl
    simp (disch := omega) only [push_cast, hx, this]
end KV
end
section
namespace KV
open Go Go.Eng
open Classical
theorem zkf (t : Thing) (w : Int) : (formT t w).size ≤ 2241 := by
  unfold formT
  split
  · rename_i h
    have := zbj (zcs.1 h)
    rw [zbl]; omega
  · exact Nat.zero_le _
end KV
end
section
namespace KV
open Go Go.Eng
open Classical
structure Act where
  kind : Int
  text : Bs
  refs : Int
  name : Bs
  pick : Int
  ticks : Int
def encA (a : Act) : Lv := [.i a.kind, .s a.text, .i a.refs, .s a.name, .i a.pick, .i a.ticks]
structure ActOk (a : Act) : Prop where
  kind : (1 ≤ a.kind ∧ a.kind ≤ 6) ∨ a.kind = 8 ∨ a.kind = 9 ∨ a.kind = 10
  text : a.text.size ≤ 4
  refs : 0 ≤ a.refs ∧ a.refs < 8
  name : a.name.size ≤ 1
  pick : 0 ≤ a.pick ∧ a.pick < 40
  ticks : 1 ≤ a.ticks ∧ a.ticks ≤ 200
def nameL : Rw := [[.s (⟨#[112]⟩ : ByteArray)], [.s (⟨#[113]⟩ : ByteArray)], [.s (⟨#[114]⟩ : ByteArray)]]
def tickL : Rw := [[.i 1], [.i 3], [.i 10], [.i 40], [.i 200]]
theorem zrj (i : Nat) : ((rd nameL i 0).str).size ≤ 1 := by
  match i with
  | 0 => exact Nat.le_refl _
  | 1 => exact Nat.le_refl _
  | 2 => exact Nat.le_refl _
  | n + 3 => exact Nat.zero_le _
theorem zp5 (i : Nat) (h : i < 5) : 1 ≤ (rd tickL i 0).int ∧ (rd tickL i 0).int ≤ 200 := by
  match i, h with
  | 0, _ => exact ⟨Int.le_refl _, by show (1 : Int) ≤ 200; omega⟩
  | 1, _ => exact ⟨by show (1 : Int) ≤ 3; omega, by show (3 : Int) ≤ 200; omega⟩
  | 2, _ => exact ⟨by show (1 : Int) ≤ 10; omega, by show (10 : Int) ≤ 200; omega⟩
  | 3, _ => exact ⟨by show (1 : Int) ≤ 40; omega, by show (40 : Int) ≤ 200; omega⟩
  | 4, _ => exact ⟨by show (1 : Int) ≤ 200; omega, Int.le_refl _⟩
theorem znh {b : Rw} (hb : RB b) (p : Int) (hp : 0 ≤ p ∧ p ≤ 999998000) : ∃ (a : Act) (p' : Int), Lqcz none [.l b, .i p] = some (encA a ++ [.l b, .i p']) ∧ p ≤ p' ∧ p' ≤ p + 20 ∧ ActOk a := by
  obtain ⟨s, p1, h1, h2, h3, hs⟩ := zrn hb p (by omega)
  obtain ⟨x2, e2, r2, s2⟩ := zk hb 8 (by omega) p1 (by omega)
  obtain ⟨x3, e3, r3, s3⟩ := zk hb 3 (by omega) (p1 + 1) (by omega)
  obtain ⟨x4, e4, r4, s4⟩ := zk hb 40 (by omega) (p1 + 1 + 1) (by omega)
  obtain ⟨x5, e5, r5, s5⟩ := zk hb 5 (by omega) (p1 + 1 + 1 + 1) (by omega)
  obtain ⟨x6, e6, r6, s6⟩ := zk hb 20 (by omega) (p1 + 1 + 1 + 1 + 1) (by omega)
  have ht := zp5 x5.toNat (by omega)
  have hnm := zrj x3.toNat
  refine ⟨⟨if x6 < 7 then 1 else if x6 < 10 then 2 else if x6 = 10 then 3 else if x6 = 11 then 4 else if x6 = 12 then 5 else if x6 < 15 then 6 else if x6 = 15 then 8 else if x6 = 16 then 9 else 10, s, x2, (rd nameL x3.toNat 0).str, x4, (rd tickL x5.toNat 0).int⟩, p1 + 1 + 1 + 1 + 1 + 1, ?_, by omega, by omega, ?_⟩
  · rw [eqcz_i, h1]
    simp (disch := omega) only [push_cast, e2, e3, e4, e5, e6]
    by_cases c1 : x6 < 7
    · rw [if_pos c1]; simp (disch := omega) only [push_cast]; rfl
    rw [if_neg c1]
    by_cases c2 : x6 < 10
    · rw [if_pos c2]; simp (disch := omega) only [push_cast]; rfl
    rw [if_neg c2]
    by_cases c3 : x6 = 10
    · rw [if_pos c3]; simp (disch := omega) only [push_cast]; rfl
    rw [if_neg c3]
    by_cases c4 : x6 = 11
    · rw [if_pos c4]; simp (disch := omega) only [push_cast]; rfl
    rw [if_neg c4]
    by_cases c5 : x6 = 12
    · rw [if_pos c5]; simp (disch := omega) only [push_cast]; rfl
    rw [if_neg c5]
    by_cases c6 : x6 < 15
    · rw [if_pos c6]; simp (disch := omega) only [push_cast]; rfl
    rw [if_neg c6]
    by_cases c7 : x6 = 15
    · rw [if_pos c7]; simp (disch := omega) only [push_cast]; rfl
    rw [if_neg c7]
    by_cases c8 : x6 = 16
    · rw [if_pos c8]; simp (disch := omega) only [push_cast]; rfl
    rw [if_neg c8]; simp (disch := omega) only [push_cast]; rfl
  · refine ⟨?_, hs, by simp only; omega, hnm, by simp only; omega, ht⟩
    show (1 ≤ (if x6 < 7 then (1 : Int) else _) ∧ _) ∨ _
    simp only
    repeat' split
    all_goals omega
theorem zq1 (a : Act) (s : State) (ha : ActOk a) (hT : 0 < s.things.length) (hn : s.things.length ≤ 1000000) : ∀ (m k : Nat) (acc : List Bs), 4 - k = m → k ≤ 4 → acc.length ≤ k → (∀ r ∈ acc, hasT s.things r) →
    ∃ l : List Bs, Lqbn (some 5) [.i (k : Int), .i a.kind, .s a.text, .i a.refs, .s a.name, .i a.pick, .i a.ticks, .i s.width, .i s.now, .i s.given, .i s.births, .l (encK s.things), .l (encP s.pins), .l (encL s.leases), .s E0, .s a.text, .l (encS acc), .l [], .l []] = some [.s a.text, .l (encS l)] ∧ l.length ≤ 4 ∧ Asc l ∧ ∀ r ∈ l, hasT s.things r := by
  intro m
  have fin : ∀ acc : List Bs, acc.length ≤ 4 → (∀ r ∈ acc, hasT s.things r) → ∃ l : List Bs, (Lqq none [.l (encS acc)]).bind (fun y1 => some ([.s a.text, .l ((g y1 0).list)] : Lv)) = some ([.s a.text, .l (encS l)] : Lv) ∧ l.length ≤ 4 ∧ Asc l ∧ ∀ r ∈ l, hasT s.things r := by
    intro acc h1 h2
    obtain ⟨out, e, h3, h4, h5⟩ := znr acc (by omega)
    exact ⟨out, by rw [e]; rfl, by omega, h3, fun r hr => h2 r ((h4 r).1 hr)⟩
  have hr := ha.refs
  have hp := ha.pick
  have hd : 0 ≤ a.refs.tdiv 2 ∧ a.refs.tdiv 2 ≤ 3 := by rw [Int.tdiv_eq_ediv_of_nonneg hr.1]; omega
  induction m with
  | zero =>
    intro k acc hm hk hl hh
    have : k = 4 := by omega
    subst this
    obtain ⟨l, e, r⟩ := fin acc (by omega) hh
    refine ⟨l, ?_, r⟩
    rw [eqbn_5]
    simp (disch := omega) only [push_cast]
    exact e
  | succ m ih =>
    intro k acc hm hk hl hh
    by_cases c : (k : Int) < a.refs.tdiv 2
    · have ht := zdg (a := a.pick + 5 * (k : Int)) (n := (s.things.length : Int)) (by omega) (by omega)
      obtain ⟨j, hj⟩ : ∃ j : Nat, (a.pick + 5 * (k : Int)).tmod (s.things.length : Int) = j := ⟨((a.pick + 5 * (k : Int)).tmod (s.things.length : Int)).toNat, by omega⟩
      obtain ⟨l, e, r⟩ := ih (k + 1) (acc ++ [(nth K0 s.things j).sum]) (by omega) (by omega) (by simp; omega) (fun r hr => by
        rcases List.mem_append.1 hr with h | h
        · exact hh r h
        · rw [List.mem_singleton] at h; rw [h]; exact ⟨_, zi (by omega), rfl⟩)
      refine ⟨l, ?_, r⟩
      rw [eqbn_5, mostE]
      rw [← zn] at e
      simp (disch := omega) only [push_cast, hj]
      exact e
    · obtain ⟨l, e, r⟩ := fin acc (by omega) hh
      refine ⟨l, ?_, r⟩
      rw [eqbn_5]
      simp (disch := omega) only [push_cast]
      exact e
theorem zlp (a : Act) (s : State) (ha : ActOk a) (hn : s.things.length ≤ 1000000) : ∃ l : List Bs, Lqbn none (encA a ++ encSt s) = some [.s a.text, .l (encS l)] ∧ l.length ≤ 4 ∧ Asc l ∧ ∀ r ∈ l, hasT s.things r := by
  show ∃ l : List Bs, Lqbn none [.i a.kind, .s a.text, .i a.refs, .s a.name, .i a.pick, .i a.ticks, .i s.width, .i s.now, .i s.given, .i s.births, .l (encK s.things), .l (encP s.pins), .l (encL s.leases)] = _ ∧ _
  rw [eqbn_i]
  by_cases h : 0 < s.things.length
  · obtain ⟨l, e, r⟩ := zq1 a s ha h hn 4 0 [] rfl (by omega) (Nat.le_refl _) (fun r hr => nomatch hr)
    exact ⟨l, by simp (disch := omega) only [push_cast]; exact e, r⟩
  · obtain ⟨out, e, h3, h4, h5⟩ := znr [] (Nat.zero_le _)
    have e' : Lqq none [.l []] = some [.l (encS out)] := e
    refine ⟨out, by simp (disch := omega) only [push_cast, e'], by have : out.length ≤ 0 := h5; omega, h3, fun r hr => nomatch (h4 r).1 hr⟩
theorem zjr (a : Act) (s : State) (ha : ActOk a) (hn : s.things.length ≤ 1000000) : ∃ x : Bs, Lqc0 none (encA a ++ encSt s) = some [.s x] := by
  show ∃ x : Bs, Lqc0 none [.i a.kind, .s a.text, .i a.refs, .s a.name, .i a.pick, .i a.ticks, .i s.width, .i s.now, .i s.given, .i s.births, .l (encK s.things), .l (encP s.pins), .l (encL s.leases)] = _
  rw [eqc0_i]
  have hp := ha.pick
  by_cases h : s.things.length = 0
  · refine ⟨sumM ⟨#[110, 111, 110, 101]⟩ s.width, ?_⟩
    simp (disch := omega) only [push_cast, zbr (⟨#[110, 111, 110, 101]⟩ : ByteArray) s.width (by show (4 : Nat) ≤ 1099511627776; omega)]
  · have ht := zdg (a := a.pick) (n := (s.things.length : Int)) (by omega) (by omega)
    obtain ⟨j, hj⟩ : ∃ j : Nat, a.pick.tmod (s.things.length : Int) = j := ⟨(a.pick.tmod (s.things.length : Int)).toNat, by omega⟩
    exact ⟨(nth K0 s.things j).sum, by simp (disch := omega) only [push_cast, hj]⟩
theorem zod (a : Act) (s : State) (ha : ActOk a) (hn : s.leases.length ≤ 1000000) : ∃ x : Int, Lqda none (encA a ++ encSt s) = some [.i x] := by
  show ∃ x : Int, Lqda none [.i a.kind, .s a.text, .i a.refs, .s a.name, .i a.pick, .i a.ticks, .i s.width, .i s.now, .i s.given, .i s.births, .l (encK s.things), .l (encP s.pins), .l (encL s.leases)] = _
  rw [eqda_i]
  have hp := ha.pick
  by_cases h : s.leases.length = 0
  · exact ⟨1 + a.pick, by simp (disch := omega) only [push_cast]⟩
  · have ht := zdg (a := a.pick) (n := (s.leases.length : Int)) (by omega) (by omega)
    obtain ⟨j, hj⟩ : ∃ j : Nat, a.pick.tmod (s.leases.length : Int) = j := ⟨(a.pick.tmod (s.leases.length : Int)).toNat, by omega⟩
    exact ⟨(nth L0 s.leases j).number, by simp (disch := omega) only [push_cast, hj]⟩
theorem zld : ∀ (n : Nat) (v : Vault) (d : List Bs) (u : Nat) (r : Vault × List Bs × Nat), VV v → clrS n v d u = some r → VV r.1
  | 0, v, d, u, r, V, h => by simp only [clrS] at h; cases h; exact V
  | n + 1, v, d, u, r, V, h => by
    simp only [clrS] at h
    split at h
    · cases h
    · rename_i hc
      have hlog := V.log.n
      split at h
      · cases h; exact V
      · rename_i hd
        have hs := zcw V (by omega) (by by_cases h0 : (unitM v.st v.rd).2 = E0; { exact .inl h0 }; { exact .inr (by have : ¬ 4000 ≤ v.safe.length + v.loose.length := fun h => hd ⟨h0, h⟩; omega) })
        exact zld n _ _ _ _ (hs.vv (hs.rd (by show (unitM v.st v.rd).1.queue.length ≤ 23200; omega) (by show (unitM v.st v.rd).1.marked.length ≤ 600; omega))) h
def GV (v : Vault) : Prop := VV v ∨ v = V0
theorem GV.small {v : Vault} (h : GV v) : SmallV v := by
  rcases h with h | rfl
  · exact h.small
  · exact ⟨⟨Nat.zero_le _, fun x hx => nomatch hx⟩, ⟨Nat.zero_le _, fun x hx => nomatch hx⟩, Nat.zero_le _, ⟨Nat.zero_le _, Nat.zero_le _, Nat.zero_le _, fun x hx => nomatch hx⟩, Nat.zero_le _, Nat.zero_le _, Nat.zero_le _⟩
theorem GV.nT {v : Vault} (h : GV v) : v.st.things.length ≤ 1000000 ∧ v.st.leases.length ≤ 1000000 := by
  rcases h with h | rfl
  · have h1 := h.vs.1.nT; have h2 := h.vs.1.nL; omega
  · exact ⟨Nat.zero_le _, Nat.zero_le _⟩
def vA (v : Vault) : Lv := [.i v.width, .i v.limit, .l (encS v.safe), .i v.st.width, .i v.st.now, .i v.st.given, .i v.st.births, .l (encK v.st.things), .i v.rd.phase, .l (encS v.rd.queue), .l (encS v.rd.marked), .i v.rd.top, .i v.rd.at_, .i v.rd.rounds]
def vB (v : Vault) : Lv := [.l (encS v.loose), .l (encP v.st.pins), .l (encL v.st.leases)]
theorem zef (v : Vault) (d : Did) : Lqbq (some 21) (vA v ++ ([.i 0, .i 0, .i 0, .i 0, .i 0, .i 0, .i 0, .i 0, .i 0, .i 0] ++ (.i d.code :: (vI d.v ++ ([.s d.sum, .i d.lease, .s d.a, .s d.b] ++ (vB v ++ (vL d.v ++ [.l [], .l [], .l [], .l [], .l [], .l [], .l []]))))))) = some (vA (if d.code = 0 then d.v else v) ++ vB (if d.code = 0 then d.v else v)) := by
  show Lqbq (some 21) [.i v.width, .i v.limit, .l (encS v.safe), .i v.st.width, .i v.st.now, .i v.st.given, .i v.st.births, .l (encK v.st.things), .i v.rd.phase, .l (encS v.rd.queue), .l (encS v.rd.marked), .i v.rd.top, .i v.rd.at_, .i v.rd.rounds,
    .i 0, .i 0, .i 0, .i 0, .i 0, .i 0, .i 0, .i 0, .i 0, .i 0, .i d.code, .i d.v.width, .i d.v.limit, .i d.v.st.width, .i d.v.st.now, .i d.v.st.given, .i d.v.st.births, .i d.v.rd.phase, .i d.v.rd.top, .i d.v.rd.at_, .i d.v.rd.rounds, .s d.sum, .i d.lease, .s d.a, .s d.b, .l (encS v.loose), .l (encP v.st.pins), .l (encL v.st.leases), .l (encS d.v.safe), .l (encS d.v.loose), .l (encK d.v.st.things), .l (encP d.v.st.pins), .l (encL d.v.st.leases), .l (encS d.v.rd.queue), .l (encS d.v.rd.marked), .l [], .l [], .l [], .l [], .l [], .l [], .l []] = _
  rw [eqbq_21]
  by_cases h : d.code = 0
  · rw [if_pos h]; simp (disch := omega) only [push_cast]; rfl
  · rw [if_neg h]; simp (disch := omega) only [push_cast]; rfl
theorem zdx {v : Vault} (h : GV v) (e : Entry) : GV (if (doS v e).code = 0 then (doS v e).v else v) := by
  by_cases hc : (doS v e).code = 0
  · rw [if_pos hc]; exact .inl (zem hc).2.2.2
  · rw [if_neg hc]; exact h
inductive Acted (v : Vault) : Vault → Prop where
  | did (e : Entry) (hk : 1 ≤ e.kind ∧ e.kind ≤ 6) (ht : e.thing.text.size ≤ 4) : Acted v (if (doS v e).code = 0 then (doS v e).v else v)
  | flush : Acted v (zca v)
  | lose (k : Int) : Acted v (loseM v k)
  | clear (n : Nat) (v' : Vault) (d : List Bs) (u : Nat) (V : VV v) (h : clrS n v [] 0 = some (v', d, u)) : Acted v v'
  | none : Acted v V0
inductive Led : Vault → Prop where
  | new (v : Vault) (ha : v.safe = []) (hb : v.loose = []) : Led v
  | act (v v' : Vault) (h : Led v) (g : GV v) (a : Acted v v') : Led v'
theorem zop {v : Vault} (h : GV v) {a : Act} (ha : ActOk a) : ∃ v', Lqbq none (vA v ++ (encA a ++ vB v)) = some (vA v' ++ vB v') ∧ GV v' ∧ Acted v v' := by
  show ∃ v', Lqbq none [.i v.width, .i v.limit, .l (encS v.safe), .i v.st.width, .i v.st.now, .i v.st.given, .i v.st.births, .l (encK v.st.things), .i v.rd.phase, .l (encS v.rd.queue), .l (encS v.rd.marked), .i v.rd.top, .i v.rd.at_, .i v.rd.rounds, .i a.kind, .s a.text, .i a.refs, .s a.name, .i a.pick, .i a.ticks, .l (encS v.loose), .l (encP v.st.pins), .l (encL v.st.leases)] = _ ∧ _
  have hsm := h.small
  have hn := h.nT
  have hnm := ha.name
  rw [eqbq_i]
  have hk := ha.kind
  have hp := ha.pick
  by_cases c1 : a.kind = 1
  · obtain ⟨l, e, h4, _⟩ := zlp a v.st ha hn.1
    have e' : Lqbn none [.i a.kind, .s a.text, .i a.refs, .s a.name, .i a.pick, .i a.ticks, .i v.st.width, .i v.st.now, .i v.st.given, .i v.st.births, .l (encK v.st.things), .l (encP v.st.pins), .l (encL v.st.leases)] = _ := e
    have ep := zi9 hsm ⟨a.text, l⟩ a.ticks (by show l.length ≤ 1099511627776; omega)
    have ep' : Lqco none [.i v.width, .i v.limit, .l (encS v.safe), .l (encS v.loose), .i v.st.width, .i v.st.now, .i v.st.given, .i v.st.births, .l (encK v.st.things), .l (encP v.st.pins), .l (encL v.st.leases), .i v.rd.phase, .l (encS v.rd.queue), .l (encS v.rd.marked), .i v.rd.top, .i v.rd.at_, .i v.rd.rounds, .s a.text, .l (encS l), .i a.ticks] = _ := ep
    refine ⟨_, ?_, zdx h (ePut ⟨a.text, l⟩ a.ticks), .did (ePut ⟨a.text, l⟩ a.ticks) (by show (1 : Int) ≤ 1 ∧ (1 : Int) ≤ 6; omega) ha.text⟩
    rw [← zef]
    simp (disch := omega) only [push_cast, e', ep']
    rfl
  by_cases c2 : a.kind = 2
  · obtain ⟨x, e⟩ := zjr a v.st ha hn.1
    have e' : Lqc0 none [.i a.kind, .s a.text, .i a.refs, .s a.name, .i a.pick, .i a.ticks, .i v.st.width, .i v.st.now, .i v.st.given, .i v.st.births, .l (encK v.st.things), .l (encP v.st.pins), .l (encL v.st.leases)] = _ := e
    have ep := zs0 hsm a.name x (by omega)
    have ep' : Lqdb none [.i v.width, .i v.limit, .l (encS v.safe), .l (encS v.loose), .i v.st.width, .i v.st.now, .i v.st.given, .i v.st.births, .l (encK v.st.things), .l (encP v.st.pins), .l (encL v.st.leases), .i v.rd.phase, .l (encS v.rd.queue), .l (encS v.rd.marked), .i v.rd.top, .i v.rd.at_, .i v.rd.rounds, .s a.name, .s x] = _ := ep
    refine ⟨_, ?_, zdx h (eHold a.name x), .did (eHold a.name x) (by show (1 : Int) ≤ 2 ∧ (2 : Int) ≤ 6; omega) (Nat.zero_le _)⟩
    rw [← zef]
    simp (disch := omega) only [push_cast, e', ep']
    rfl
  by_cases c3 : a.kind = 3
  · have ep := ztx hsm a.name (by omega)
    have ep' : Lqdc none [.i v.width, .i v.limit, .l (encS v.safe), .l (encS v.loose), .i v.st.width, .i v.st.now, .i v.st.given, .i v.st.births, .l (encK v.st.things), .l (encP v.st.pins), .l (encL v.st.leases), .i v.rd.phase, .l (encS v.rd.queue), .l (encS v.rd.marked), .i v.rd.top, .i v.rd.at_, .i v.rd.rounds, .s a.name] = _ := ep
    refine ⟨_, ?_, zdx h (zf2 a.name), .did (zf2 a.name) (by show (1 : Int) ≤ 3 ∧ (3 : Int) ≤ 6; omega) (Nat.zero_le _)⟩
    rw [← zef]
    simp (disch := omega) only [push_cast, ep']
    rfl
  by_cases c4 : a.kind = 4
  · obtain ⟨x, e⟩ := zjr a v.st ha hn.1
    have e' : Lqc0 none [.i a.kind, .s a.text, .i a.refs, .s a.name, .i a.pick, .i a.ticks, .i v.st.width, .i v.st.now, .i v.st.given, .i v.st.births, .l (encK v.st.things), .l (encP v.st.pins), .l (encL v.st.leases)] = _ := e
    have ep := zo0 hsm x a.ticks
    have ep' : Lqdd none [.i v.width, .i v.limit, .l (encS v.safe), .l (encS v.loose), .i v.st.width, .i v.st.now, .i v.st.given, .i v.st.births, .l (encK v.st.things), .l (encP v.st.pins), .l (encL v.st.leases), .i v.rd.phase, .l (encS v.rd.queue), .l (encS v.rd.marked), .i v.rd.top, .i v.rd.at_, .i v.rd.rounds, .s x, .i a.ticks] = _ := ep
    refine ⟨_, ?_, zdx h (zfk x a.ticks), .did (zfk x a.ticks) (by show (1 : Int) ≤ 4 ∧ (4 : Int) ≤ 6; omega) (Nat.zero_le _)⟩
    rw [← zef]
    simp (disch := omega) only [push_cast, e', ep']
    rfl
  by_cases c5 : a.kind = 5
  · obtain ⟨x, e⟩ := zod a v.st ha hn.2
    have e' : Lqda none [.i a.kind, .s a.text, .i a.refs, .s a.name, .i a.pick, .i a.ticks, .i v.st.width, .i v.st.now, .i v.st.given, .i v.st.births, .l (encK v.st.things), .l (encP v.st.pins), .l (encL v.st.leases)] = _ := e
    have ep := zpl hsm x
    have ep' : Lqde none [.i v.width, .i v.limit, .l (encS v.safe), .l (encS v.loose), .i v.st.width, .i v.st.now, .i v.st.given, .i v.st.births, .l (encK v.st.things), .l (encP v.st.pins), .l (encL v.st.leases), .i v.rd.phase, .l (encS v.rd.queue), .l (encS v.rd.marked), .i v.rd.top, .i v.rd.at_, .i v.rd.rounds, .i x] = _ := ep
    refine ⟨_, ?_, zdx h (zf6 x), .did (zf6 x) (by show (1 : Int) ≤ 5 ∧ (5 : Int) ≤ 6; omega) (Nat.zero_le _)⟩
    rw [← zef]
    simp (disch := omega) only [push_cast, e', ep']
    rfl
  by_cases c6 : a.kind = 6
  · have ep := zqe hsm a.ticks
    have ep' : Lqdf none [.i v.width, .i v.limit, .l (encS v.safe), .l (encS v.loose), .i v.st.width, .i v.st.now, .i v.st.given, .i v.st.births, .l (encK v.st.things), .l (encP v.st.pins), .l (encL v.st.leases), .i v.rd.phase, .l (encS v.rd.queue), .l (encS v.rd.marked), .i v.rd.top, .i v.rd.at_, .i v.rd.rounds, .i a.ticks] = _ := ep
    refine ⟨_, ?_, zdx h (eWait a.ticks), .did (eWait a.ticks) (by show (1 : Int) ≤ 6 ∧ (6 : Int) ≤ 6; omega) (Nat.zero_le _)⟩
    rw [← zef]
    simp (disch := omega) only [push_cast, ep']
    rfl
  by_cases c8 : a.kind = 8
  · have ep := zur hsm
    unfold encV at ep
    refine ⟨zca v, ?_, ?_, .flush⟩
    · simp (disch := omega) only [push_cast, ep]; rfl
    · by_cases V : VV v
      · exact .inl (ztu V)
      · right; unfold zca; rw [if_neg V]
  by_cases c9 : a.kind = 9
  · have ep := zox hsm (a.pick.tmod 6)
    have ep' : Lqdg none [.i v.width, .i v.limit, .l (encS v.safe), .l (encS v.loose), .i v.st.width, .i v.st.now, .i v.st.given, .i v.st.births, .l (encK v.st.things), .l (encP v.st.pins), .l (encL v.st.leases), .i v.rd.phase, .l (encS v.rd.queue), .l (encS v.rd.marked), .i v.rd.top, .i v.rd.at_, .i v.rd.rounds, .i (a.pick.tmod 6)] = _ := ep
    refine ⟨loseM v (a.pick.tmod 6), ?_, ?_, .lose _⟩
    · simp (disch := omega) only [push_cast, ep']; rfl
    · by_cases V : VV v
      · exact .inl (zqt V _)
      · right; unfold loseM; rw [if_neg V]
  have c10 : a.kind = 10 := by omega
  have ep := zrz hsm a.pick
  have ep' : Lqcg none [.i v.width, .i v.limit, .l (encS v.safe), .l (encS v.loose), .i v.st.width, .i v.st.now, .i v.st.given, .i v.st.births, .l (encK v.st.things), .l (encP v.st.pins), .l (encL v.st.leases), .i v.rd.phase, .l (encS v.rd.queue), .l (encS v.rd.marked), .i v.rd.top, .i v.rd.at_, .i v.rd.rounds, .i a.pick] = _ := ep
  cases hr : (if VV v ∧ 0 ≤ a.pick ∧ a.pick ≤ 10000 then clrS a.pick.toNat v [] 0 else none) with
  | none =>
    rw [hr] at ep'
    refine ⟨V0, ?_, .inr rfl, .none⟩
    simp (disch := omega) only [push_cast, ep']; rfl
  | some r =>
    rw [hr] at ep'
    obtain ⟨v', d, u⟩ := r
    have hcv : VV v ∧ clrS a.pick.toNat v [] 0 = some (v', d, u) := by
      split at hr
      · rename_i hc; exact ⟨hc.1, hr⟩
      · cases hr
    refine ⟨v', ?_, .inl (zld _ _ _ _ _ hcv.1 hcv.2), .clear _ _ _ _ hcv.1 hcv.2⟩
    simp (disch := omega) only [push_cast, ep']; rfl
end KV
end
section
namespace KV
open Go Go.Eng
open Classical
theorem znl {α : Type} : ∀ (l m : List α), l.Nodup → (∀ x ∈ l, x ∈ m) → l.length ≤ m.length
  | [], m, _, _ => Nat.zero_le _
  | a :: l, m, h, hs => by
    rw [List.nodup_cons] at h
    have ha := hs a (by simp)
    have h1 := znl l (m.erase a) h.2 fun x hx => by
      have hne : x ≠ a := fun e => h.1 (e ▸ hx)
      exact (List.mem_erase_of_ne hne).2 (hs x (by simp [hx]))
    rw [List.length_erase_of_mem ha] at h1
    have : 0 < m.length := List.length_pos_of_mem ha
    rw [List.length_cons]; omega
structure RI (N : Int) (v : Vault) : Prop where
  vv : VV v
  sub : ∀ x ∈ v.rd.marked, hasT v.st.things x
  q : v.rd.queue.length ≤ 300 + 30 * v.rd.marked.length + (v.safe.length + v.loose.length)
  cnt : ((v.safe.length + v.loose.length : Nat) : Int) + v.rd.rounds ≤ N
  t1 : v.rd.phase ≠ 0 → ∀ x, held v.st x → x ∈ v.rd.marked ∨ x ∈ v.rd.queue
  t2 : v.rd.phase ≠ 0 → ∀ k ∈ v.st.things, k.sum ∈ v.rd.marked → ∀ r ∈ k.thing.refs, r ∈ v.rd.marked ∨ r ∈ v.rd.queue
  t3 : v.rd.phase ≠ 0 → ∀ k ∈ v.st.things, v.rd.at_ ≤ k.born → k.sum ∈ v.rd.marked ∨ k.sum ∈ v.rd.queue
theorem zpt {T : List Kept} {l : List Bs} (h : l.Nodup) (hs : ∀ x ∈ l, hasT T x) : l.length ≤ T.length := by
  have := znl l (T.map (·.sum)) h fun x hx => by
    obtain ⟨k, hk, rfl⟩ := hs x hx
    exact List.mem_map.2 ⟨k, hk, rfl⟩
  rw [List.length_map] at this; exact this
theorem VS.born_inj {s : State} (V : VS s) {a b : Kept} (ha : a ∈ s.things) (hb : b ∈ s.things) (h : a.born = b.born) : a = b := by
  obtain ⟨i, hi, rfl⟩ := z9 K0 ha
  obtain ⟨j, hj, rfl⟩ := z9 K0 hb
  have nd := V.ndT
  rw [zlu] at nd
  rcases Nat.lt_trichotomy i j with h1 | h1 | h1
  · exfalso
    apply nd j (Nat.zero_le _) hj
    unfold bsT
    rw [← h]
    exact List.mem_map.2 ⟨_, by rw [zm K0 _ _ hi]; exact List.mem_take_iff_getElem.2 ⟨i, by omega, rfl⟩, rfl⟩
  · rw [h1]
  · exfalso
    apply nd i (Nat.zero_le _) hi
    unfold bsT
    rw [h]
    exact List.mem_map.2 ⟨_, by rw [zm K0 _ _ hj]; exact List.mem_take_iff_getElem.2 ⟨j, by omega, rfl⟩, rfl⟩
theorem zqv {T : List Kept} {x y : Bs} (h : hasT T y) (hne : y ≠ x) : hasT (delK x T) y := by
  obtain ⟨k, hk, rfl⟩ := h
  exact ⟨k, zbz.2 ⟨hk, hne⟩, rfl⟩
theorem zr3 {s : State} {e : Entry} (hk : 1 ≤ e.kind ∧ e.kind ≤ 6) (h : (chg s e).code = 0) : (∀ k ∈ s.things, k ∈ (chg s e).st.things) ∧ (∀ k ∈ (chg s e).st.things, k ∈ s.things ∨ (e.kind = 1 ∧ k.sum = zbh e (chg s e) ∧ k.born = s.births + 1 ∧ ¬ hasT s.things k.sum)) ∧
    (∀ x, held (chg s e).st x → held s x ∨ ((e.kind = 1 ∨ e.kind = 2 ∨ e.kind = 4) ∧ x = zbh e (chg s e))) := by
  have lentH : ∀ (t : State) (x y : Bs) (m : Int), held (lent t x m) y → held t y ∨ y = x := by
    intro t x y m hy
    rcases hy with ⟨p, hp, he⟩ | ⟨l, hl, he⟩
    · exact .inl (.inl ⟨p, hp, he⟩)
    · rcases List.mem_append.1 hl with h1 | h1
      · exact .inl (.inr ⟨l, h1, he⟩)
      · rw [List.mem_singleton] at h1; subst h1; exact .inr he.symm
  by_cases c1 : e.kind = 1
  · have hc : chg s e = putS s e := by unfold chg; rw [if_pos c1]
    have hsh : zbh e (chg s e) = (chg s e).sum := if_pos c1
    rw [hsh]
    rw [hc] at h ⊢
    rw [zhi h]
    unfold putS at h ⊢
    split at h
    · cases h
    · rename_i a1
      rw [if_neg a1]
      split at h
      · rename_i a2
        rw [if_pos a2]
        split at h
        · rename_i a3
          rw [if_pos a3]
          split at h
          · rename_i a4
            rw [if_pos a4]
            exact ⟨fun k hk => hk, fun k hk => .inl hk, fun x hx => (lentH _ _ _ _ hx).imp id fun h => ⟨.inl c1, h⟩⟩
          · cases h
        · cases h
      · rename_i a2
        rw [if_neg a2]
        split at h
        · rename_i a3
          rw [if_pos a3]
          refine ⟨fun k hk => zbv.2 (.inr hk), fun k hk => ?_, fun x hx => (lentH _ _ _ _ hx).imp id fun h => ⟨.inl c1, h⟩⟩
          rcases zbv.1 hk with h1 | h1
          · subst h1; exact .inr ⟨c1, rfl, rfl, a2⟩
          · exact .inl h1
        · cases h
  have hsh : zbh e (chg s e) = e.sum := if_neg c1
  rw [hsh]
  unfold chg at h ⊢
  rw [if_neg c1] at h ⊢
  by_cases c2 : e.kind = 2
  · rw [if_pos c2] at h ⊢
    split at h
    · rename_i a1
      rw [if_pos a1]
      split at h
      · rename_i a2
        rw [if_pos a2]
        refine ⟨fun k hk => hk, fun k hk => .inl hk, fun x hx => ?_⟩
        rcases hx with ⟨p, hp, he⟩ | ⟨l, hl, he⟩
        · rcases zl0 hp with h1 | h1
          · subst h1; exact .inr ⟨.inr (.inl c2), he.symm⟩
          · exact .inl (.inl ⟨p, h1, he⟩)
        · exact .inl (.inr ⟨l, hl, he⟩)
      · cases h
    · cases h
  rw [if_neg c2] at h ⊢
  by_cases c3 : e.kind = 3
  · rw [if_pos c3] at h ⊢
    split at h
    · rename_i a1
      rw [if_pos a1]
      refine ⟨fun k hk => hk, fun k hk => .inl hk, fun x hx => .inl ?_⟩
      rcases hx with ⟨p, hp, he⟩ | ⟨l, hl, he⟩
      · exact .inl ⟨p, (List.mem_filter.1 hp).1, he⟩
      · exact .inr ⟨l, hl, he⟩
    · cases h
  rw [if_neg c3] at h ⊢
  by_cases c4 : e.kind = 4
  · rw [if_pos c4] at h ⊢
    split at h
    · rename_i a1
      rw [if_pos a1]
      split at h
      · rename_i a2
        rw [if_pos a2]
        exact ⟨fun k hk => hk, fun k hk => .inl hk, fun x hx => (lentH _ _ _ _ hx).imp id fun h => ⟨.inr (.inr c4), h⟩⟩
      · cases h
    · cases h
  rw [if_neg c4] at h ⊢
  by_cases c5 : e.kind = 5
  · rw [if_pos c5] at h ⊢
    split at h
    · rename_i a1
      rw [if_pos a1]
      refine ⟨fun k hk => hk, fun k hk => .inl hk, fun x hx => .inl ?_⟩
      rcases hx with ⟨p, hp, he⟩ | ⟨l, hl, he⟩
      · exact .inl ⟨p, hp, he⟩
      · exact .inr ⟨l, (List.mem_filter.1 hl).1, he⟩
    · cases h
  rw [if_neg c5] at h ⊢
  have c6 : e.kind = 6 := by omega
  rw [if_pos c6] at h ⊢
  split at h
  · rename_i a1
    rw [if_pos a1]
    refine ⟨fun k hk => hk, fun k hk => .inl hk, fun x hx => .inl ?_⟩
    rcases hx with ⟨p, hp, he⟩ | ⟨l, hl, he⟩
    · exact .inl ⟨p, hp, he⟩
    · exact .inr ⟨l, (List.mem_filter.1 hl).1, he⟩
  · cases h
theorem zrh (s : State) (r : Round) (x : Bs) : (z8 s r x).marked = r.marked ∧ (z8 s r x).phase = r.phase ∧ (z8 s r x).at_ = r.at_ ∧ (z8 s r x).rounds = r.rounds ∧ (∀ y ∈ r.queue, y ∈ (z8 s r x).queue) ∧ (z8 s r x).queue.length ≤ r.queue.length + 1 := by
  unfold z8
  split
  · exact ⟨rfl, rfl, rfl, rfl, fun y hy => List.mem_append.2 (.inl hy), by simp⟩
  · exact ⟨rfl, rfl, rfl, rfl, fun y hy => hy, Nat.le_succ _⟩
theorem doE_v {v : Vault} {e : Entry} {sh : Bool} (h : (doE v e sh).code = 0) : (doE v e sh).v = { v with loose := v.loose ++ [formE e], st := (chg v.st e).st, rd := if sh = true then z8 (chg v.st e).st v.rd (zbh e (chg v.st e)) else v.rd } := by
  unfold doE at h ⊢
  split at h
  · cases h
  · rename_i a1; rw [if_neg a1]
    split at h
    · cases h
    · rename_i a2; rw [if_neg a2]
      split at h
      · rename_i a3; exact absurd h a3
      · rename_i a3; rw [if_neg a3]
        split at h
        · cases h
        · rename_i a4; rw [if_neg a4]
          split at h
          · cases h
          · rename_i a5; rw [if_neg a5]
end KV
end
section
namespace KV
open Go Go.Eng
open Classical
inductive Rch (T : List Kept) (F : List Bs) : Bs → Prop where
  | base (x : Bs) (h : x ∈ F) : Rch T F x
  | ref (k : Kept) (x : Bs) (hk : k ∈ T) (h : Rch T F k.sum) (hx : x ∈ k.thing.refs) : Rch T F x
def Liv (s : State) (x : Bs) : Prop := Rch s.things (zbd s) x
end KV
end
section
namespace KV
open Go Go.Eng
open Classical
inductive UC (s : State) (r : Round) : Round × Bs → Prop where
  | start (h0 : r.phase = 0) : UC s r (⟨1, zbd s, r.marked, s.births, s.births + 1, r.rounds⟩, E0)
  | mark (h0 : r.phase ≠ 0) (q : List Bs) (k : Kept) (hq : r.queue = k.sum :: q) (hk : k ∈ s.things) (hm : k.sum ∉ r.marked) : UC s r (⟨r.phase, q ++ k.thing.refs.filter fun y => !decide (y ∈ r.marked ++ [k.sum]), r.marked ++ [k.sum], r.top, r.at_, r.rounds⟩, E0)
  | skip (h0 : r.phase ≠ 0) (x : Bs) (q : List Bs) (hq : r.queue = x :: q) (hm : x ∈ r.marked ∨ ¬ hasT s.things x) : UC s r (⟨r.phase, q, r.marked, r.top, r.at_, r.rounds⟩, E0)
  | over (h0 : r.phase ≠ 0) (hq : r.queue = []) (hb : ∀ k ∈ s.things, r.at_ ≤ k.born) : UC s r (⟨0, [], [], 0, 0, r.rounds + 1⟩, E0)
  | keep (h0 : r.phase ≠ 0) (hq : r.queue = []) (k : Kept) (hk : k ∈ s.things) (hb : k.born < r.at_) (hbest : ∀ j ∈ s.things, j.born < r.at_ → j.born ≤ k.born) (hm : k.sum ∈ r.marked ∨ held s k.sum ∨ isRef s.things k.sum) : UC s r (⟨2, [], r.marked, r.top, k.born, r.rounds⟩, E0)
  | drop (h0 : r.phase ≠ 0) (hq : r.queue = []) (k : Kept) (hk : k ∈ s.things) (hb : k.born < r.at_) (hbest : ∀ j ∈ s.things, j.born < r.at_ → j.born ≤ k.born) (hm : k.sum ∉ r.marked) (hh : ¬ held s k.sum) (hi : ¬ isRef s.things k.sum) : UC s r (⟨2, [], r.marked, r.top, k.born, r.rounds⟩, k.sum)
theorem zet {s : State} (V : VS s) (r : Round) : UC s r (unitM s r) := by
  unfold unitM
  by_cases h0 : r.phase = 0
  · rw [if_pos h0]; exact .start h0
  rw [if_neg h0]
  cases hq : r.queue with
  | cons x q =>
    by_cases c : hasT s.things x ∧ x ∉ r.marked
    · have hi := (zbk V.srtT x).1 c.1
      simp only
      rw [if_pos c]
      have := UC.mark (s := s) (r := r) h0 q (nth K0 s.things (lb (qK x) s.things)) (by rw [hi.2]; exact hq) (zi hi.1) (by rw [hi.2]; exact c.2)
      rw [hi.2] at this
      exact this
    · simp only
      rw [if_neg c]
      refine .skip h0 x q hq ?_
      by_cases hm : x ∈ r.marked
      · exact .inl hm
      · exact .inr fun hT => c ⟨hT, hm⟩
  | nil =>
    simp only
    have hbl := zce s.things r.at_ s.things.length
    obtain ⟨b1, b2⟩ := zhf s.things r.at_ s.things.length
    have hbt : bestI s.things r.at_ s.things.length = bestT s.things r.at_ := rfl
    rw [hbt] at hbl b1 b2
    by_cases c : bestT s.things r.at_ < 0
    · rw [if_pos c]
      refine .over h0 hq fun k hk => ?_
      obtain ⟨j, hj, rfl⟩ := z9 K0 hk
      have := b1 c j hj
      omega
    rw [if_neg c]
    obtain ⟨n, hn⟩ : ∃ n : Nat, bestT s.things r.at_ = n := ⟨(bestT s.things r.at_).toNat, by omega⟩
    obtain ⟨b3, b4⟩ := b2 (by omega)
    rw [hn, zb3] at b3 b4 ⊢
    have hmem := zi (d := K0) (show n < s.things.length by omega)
    have hbest : ∀ j ∈ s.things, j.born < r.at_ → j.born ≤ (nth K0 s.things n).born := fun j hj hb => by
      obtain ⟨i, hi, rfl⟩ := z9 K0 hj
      exact b4 i hi hb
    by_cases c2 : (nth K0 s.things n).sum ∈ r.marked ∨ held s (nth K0 s.things n).sum ∨ isRef s.things (nth K0 s.things n).sum
    · rw [if_pos c2]; exact .keep h0 hq _ hmem b3 hbest c2
    · rw [if_neg c2]; exact .drop h0 hq _ hmem b3 hbest (fun h => c2 (.inl h)) (fun h => c2 (.inr (.inl h))) (fun h => c2 (.inr (.inr h)))
noncomputable def sumU (m : List Bs) : List Kept → Nat
  | [] => 0
  | k :: l => (if k.sum ∈ m then 0 else k.thing.refs.length) + sumU m l
noncomputable def belN (a : Int) : List Kept → Nat
  | [] => 0
  | k :: l => (if k.born < a then 1 else 0) + belN a l
theorem zf3 {m m' : List Bs} (h : ∀ x ∈ m, x ∈ m') : ∀ l, sumU m' l ≤ sumU m l
  | [] => Nat.le_refl _
  | k :: l => by
    have := zf3 h l
    simp only [sumU]
    by_cases c : k.sum ∈ m
    · rw [if_pos c, if_pos (h _ c)]; omega
    · rw [if_neg c]; split <;> omega
theorem zhg (m : List Bs) (p : Kept → Bool) : ∀ l, sumU m (l.filter p) ≤ sumU m l
  | [] => Nat.le_refl _
  | k :: l => by
    have := zhg m p l
    rw [List.filter_cons]
    split <;> simp only [sumU] <;> omega
theorem zid {m : List Bs} {x : Bs} (hx : x ∉ m) : ∀ (l : List Kept) (k : Kept), k ∈ l → k.sum = x → sumU (m ++ [x]) l + k.thing.refs.length ≤ sumU m l
  | a :: l, k, hk, hs => by
    have hm := zf3 (m := m) (m' := m ++ [x]) (fun y hy => List.mem_append.2 (.inl hy)) l
    simp only [sumU]
    rcases List.mem_cons.1 hk with rfl | hk
    · rw [if_pos (by rw [hs]; simp), if_neg (by rw [hs]; exact hx)]; omega
    · have := zid hx l k hk hs
      by_cases c : a.sum ∈ m
      · rw [if_pos (List.mem_append.2 (.inl c)), if_pos c]; omega
      · rw [if_neg c]; split <;> omega
theorem zcb (m : List Bs) : ∀ (l : List Kept), (∀ k ∈ l, k.thing.refs.length ≤ 30) → sumU m l ≤ 30 * l.length
  | [], _ => Nat.zero_le _
  | k :: l, h => by
    have h1 := zcb m l fun j hj => h j (by simp [hj])
    have h2 := h k (by simp)
    simp only [sumU, List.length_cons]
    split <;> omega
theorem zk8 {a b : Int} (h : a ≤ b) : ∀ l, belN a l ≤ belN b l
  | [] => Nat.le_refl _
  | k :: l => by
    have := zk8 h l
    simp only [belN]
    split <;> split <;> omega
theorem zjt (a : Int) (p : Kept → Bool) : ∀ l, belN a (l.filter p) ≤ belN a l
  | [] => Nat.le_refl _
  | k :: l => by
    have := zjt a p l
    rw [List.filter_cons]
    split <;> simp only [belN] <;> omega
theorem zh0 (a : Int) : ∀ l, belN a l ≤ l.length
  | [] => Nat.le_refl _
  | k :: l => by
    have := zh0 a l
    simp only [belN, List.length_cons]
    split <;> omega
theorem zg9 {a : Int} : ∀ (l : List Kept) (k : Kept), k ∈ l → k.born < a → belN k.born l + 1 ≤ belN a l
  | c :: l, k, hk, h => by
    have hm := zk8 (a := k.born) (b := a) (by omega) l
    simp only [belN]
    rcases List.mem_cons.1 hk with rfl | hk
    · rw [if_neg (by omega), if_pos h]; omega
    · have := zg9 l k hk h
      split <;> split <;> omega
noncomputable def far (s : State) (r : Round) : Nat := if r.phase = 0 then s.pins.length + s.leases.length + sumU [] s.things + s.things.length + 2 else r.queue.length + sumU r.marked s.things + belN r.at_ s.things + 1
noncomputable def whole (s : State) : Nat := s.pins.length + s.leases.length + sumU [] s.things + s.things.length + 2
theorem zji (s : State) (r : Round) : far s r ≤ whole s + r.queue.length := by
  unfold far whole
  have h1 := zf3 (m := []) (m' := r.marked) (fun x hx => nomatch hx) s.things
  have h2 := zh0 r.at_ s.things
  split <;> omega
theorem zgi {s : State} (V : VS s) {k : Kept} (hk : k ∈ s.things) : zl s k.sum = { s with things := delK k.sum s.things } := by
  unfold zl; rw [if_neg (V.sumNe hk)]
theorem zbe (s : State) : zl s E0 = s := if_pos rfl
theorem zmn {x : Bs} {l : List Kept} (h : hasT l x) : (delK x l).length + 1 ≤ l.length := by
  obtain ⟨k, hk, he⟩ := h
  have : (delK x l).length < l.length := by
    unfold delK
    rw [List.length_filter_lt_length_iff_exists]
    exact ⟨k, hk, by simp [he]⟩
  omega
theorem zim {s : State} (V : VS s) (r : Round) : ((unitM s r).1.rounds = r.rounds ∧ (unitM s r).1.phase ≠ 0 ∧ far (zl s (unitM s r).2) (unitM s r).1 + 1 ≤ far s r) ∨ ((unitM s r).1 = ⟨0, [], [], 0, 0, r.rounds + 1⟩ ∧ (unitM s r).2 = E0 ∧ r.phase ≠ 0 ∧ r.queue = [] ∧ (∀ k ∈ s.things, r.at_ ≤ k.born) ∧ 1 ≤ far s r) := by
  have h := zet V r
  generalize unitM s r = u at h ⊢
  have ph : ∀ (q : Round), q.phase ≠ 0 → far s q = q.queue.length + sumU q.marked s.things + belN q.at_ s.things + 1 := fun q hq => by unfold far; rw [if_neg hq]
  cases h with
  | start h0 =>
    left
    refine ⟨rfl, (by show ¬ (1 : Int) = 0; omega), ?_⟩
    simp only
    rw [zbe, ph _ (by show ¬ (1 : Int) = 0; omega)]
    unfold far; rw [if_pos h0]
    simp only
    have h1 := zgj s
    have h2 := zh0 (s.births + 1) s.things
    have h3 := zf3 (m := []) (m' := r.marked) (fun x hx => nomatch hx) s.things
    omega
  | mark h0 q k hq hk hm =>
    left
    refine ⟨rfl, h0, ?_⟩
    simp only
    have e := ph ⟨r.phase, q ++ k.thing.refs.filter fun y => !decide (y ∈ r.marked ++ [k.sum]), r.marked ++ [k.sum], r.top, r.at_, r.rounds⟩ h0
    rw [zbe, e, ph r h0, hq]
    simp only [List.length_append, List.length_cons]
    have h1 := zid hm s.things k hk rfl
    have h2 := List.length_filter_le (fun y => !decide (y ∈ r.marked ++ [k.sum])) k.thing.refs
    omega
  | skip h0 x q hq hm =>
    left
    refine ⟨rfl, h0, ?_⟩
    simp only
    have e := ph ⟨r.phase, q, r.marked, r.top, r.at_, r.rounds⟩ h0
    rw [zbe, e, ph r h0, hq]
    simp only [List.length_cons]
    omega
  | over h0 hq hb =>
    right
    exact ⟨rfl, rfl, h0, hq, hb, by rw [ph r h0]; omega⟩
  | keep h0 hq k hk hb hbest hm =>
    left
    refine ⟨rfl, (by show ¬ (2 : Int) = 0; omega), ?_⟩
    simp only
    rw [zbe, ph _ (by show ¬ (2 : Int) = 0; omega), ph r h0, hq]
    simp only
    have := zg9 s.things k hk hb
    omega
  | drop h0 hq k hk hb hbest hm hh hi =>
    left
    refine ⟨rfl, (by show ¬ (2 : Int) = 0; omega), ?_⟩
    simp only
    rw [zgi V hk, ph r h0, hq]
    unfold far
    rw [if_neg (by show ¬ (2 : Int) = 0; omega)]
    simp only
    have h1 := zg9 s.things k hk hb
    have h2 := zjt k.born (fun j => !decide (j.sum = k.sum)) s.things
    have h3 := zhg r.marked (fun j => !decide (j.sum = k.sum)) s.things
    unfold delK
    omega
noncomputable def junk (s : State) (r : Round) : Nat := (r.marked.filter fun x => !decide (hasT s.things x)).length
theorem zk2 {α : Type} (p : α → Bool) : ∀ l : List α, l.length = (l.filter p).length + (l.filter fun x => !p x).length
  | [] => rfl
  | a :: l => by
    have := zk2 p l
    rw [List.filter_cons, List.filter_cons]
    cases p a <;> simp <;> omega
theorem zph {s : State} {r : Round} (h : r.marked.Nodup) : r.marked.length ≤ junk s r + s.things.length := by
  have h1 := zk2 (fun x => decide (hasT s.things x)) r.marked
  have h2 := zpt (T := s.things) (l := r.marked.filter fun x => decide (hasT s.things x)) (h.sublist List.filter_sublist) (fun x hx => of_decide_eq_true (List.mem_filter.1 hx).2)
  unfold junk
  omega
structure CL (s : State) (r : Round) : Prop where
  vs : VS s
  rok : RoundOk s.width s.births r
  jk : junk s r + s.things.length ≤ 600
  qq : r.phase ≠ 0 → r.queue.length + sumU r.marked s.things ≤ 23200
theorem VS.rl {s : State} (V : VS s) : ∀ k ∈ s.things, k.thing.refs.length ≤ 30 := fun k hk => (V.okT k hk).1.refs
theorem zht {s : State} {r : Round} (h : CL s r) (hr : r.rounds < 1000000000) : CL (zl s (unitM s r).2) (unitM s r).1 := by
  have V := h.vs
  have hk := zfb s (unitM s r).2
  have V' := zh3 (r := r) V
  have n1 := V.nT; have n2 := V.nP; have n3 := V.nL
  have key : ((unitM s r).1.phase ≠ 0 → (unitM s r).1.queue.length + sumU (unitM s r).1.marked (zl s (unitM s r).2).things ≤ 23200) ∧ (unitM s r).1.queue.length ≤ 23200 ∧ junk (zl s (unitM s r).2) (unitM s r).1 + (zl s (unitM s r).2).things.length ≤ 600 ∧ (unitM s r).1.marked.Nodup := by
    have hu := zet V r
    have hj := h.jk
    have hn := h.rok.ndM
    generalize unitM s r = u at hu ⊢
    cases hu with
    | start h0 =>
      have hm := (h.rok.rest h0).2.1
      simp only
      rw [zbe, hm]
      have h1 := zgj s
      have h2 := zcb [] s.things V.rl
      refine ⟨fun _ => by omega, by omega, ?_, List.nodup_nil⟩
      unfold junk; simp only [List.filter_nil, List.length_nil]; omega
    | mark h0 q k hq hk hm =>
      simp only
      rw [zbe]
      have hqq := h.qq h0
      rw [hq] at hqq
      simp only [List.length_cons] at hqq
      have h1 := zid hm s.things k hk rfl
      have h2 := List.length_filter_le (fun y => !decide (y ∈ r.marked ++ [k.sum])) k.thing.refs
      have h3 : (q ++ k.thing.refs.filter fun y => !decide (y ∈ r.marked ++ [k.sum])).length + sumU (r.marked ++ [k.sum]) s.things ≤ 23200 := by rw [List.length_append]; omega
      refine ⟨fun _ => h3, by omega, ?_, ?_⟩
      · unfold junk at hj ⊢
        simp only [List.filter_append]
        rw [List.filter_cons, if_neg (by simp; exact ⟨k, hk, rfl⟩), List.filter_nil, List.append_nil]
        exact hj
      · rw [List.nodup_append]
        refine ⟨hn, by simp, fun a ha b hb => ?_⟩
        rw [List.mem_singleton] at hb
        rintro rfl
        rw [hb] at ha; exact hm ha
    | skip h0 x q hq hm =>
      simp only
      rw [zbe]
      have hqq := h.qq h0
      rw [hq] at hqq
      simp only [List.length_cons] at hqq
      exact ⟨fun _ => by omega, by omega, hj, hn⟩
    | over h0 hq hb =>
      simp only
      rw [zbe]
      refine ⟨fun h => absurd rfl h, Nat.zero_le _, ?_, List.nodup_nil⟩
      unfold junk; simp only [List.filter_nil, List.length_nil]; omega
    | keep h0 hq k hk hb hbest hm =>
      simp only
      rw [zbe]
      have hqq := h.qq h0
      rw [hq] at hqq
      exact ⟨fun _ => by simpa using hqq, Nat.zero_le _, hj, hn⟩
    | drop h0 hq k hk hb hbest hm hh hi =>
      simp only
      rw [zgi V hk]
      have hqq := h.qq h0
      rw [hq] at hqq
      have h3 := zhg r.marked (fun j => !decide (j.sum = k.sum)) s.things
      have h4 := zmn (x := k.sum) (l := s.things) ⟨k, hk, rfl⟩
      refine ⟨fun _ => ?_, Nat.zero_le _, ?_, hn⟩
      · simp only [List.length_nil] at hqq ⊢; unfold delK; omega
      · have : junk { s with things := delK k.sum s.things } ⟨2, [], r.marked, r.top, k.born, r.rounds⟩ = junk s r := by
          unfold junk
          simp only
          congr 1
          apply List.filter_congr
          intro x hx
          congr 1
          refine decide_eq_decide.2 ⟨fun ⟨j, h1, h2⟩ => ⟨j, (zbz.1 h1).1, h2⟩, fun h1 => zqv h1 ?_⟩
          rintro rfl; exact hm hx
        rw [this]
        simp only
        omega
  obtain ⟨k1, k2, k3, k4⟩ := key
  have hml := zph (s := zl s (unitM s r).2) k4
  refine ⟨V', ?_, k3, k1⟩
  rw [hk.1, hk.2.1]
  exact zi6 V h.rok hr k2 (by omega)
theorem zq0 {T : List Kept} {F : List Bs} {x : Bs} (h1 : x ∉ F) (h2 : ¬ isRef T x) (y : Bs) : Rch (delK x T) F y ↔ Rch T F y := by
  constructor
  · intro h
    induction h with
    | base y h => exact .base y h
    | ref k y hk h hy ih => exact .ref k y (zbz.1 hk).1 ih hy
  · have hx : ¬ Rch T F x := by
      intro h
      cases h with
      | base _ h => exact h1 h
      | ref k _ hk h hy => exact h2 ⟨k, hk, hy⟩
    intro h
    induction h with
    | base y h => exact .base y h
    | ref k y hk h hy ih =>
      refine .ref k y (zbz.2 ⟨hk, ?_⟩) ih hy
      rintro e; rw [e] at h; exact hx h
theorem zf5 {s : State} {x : Bs} : x ∈ zbd s ↔ held s x := by
  unfold zbd held
  rw [zfz, zfz]
  simp only [List.mem_map, List.not_mem_nil, false_or]
theorem zli {s : State} {x : Bs} (h1 : ¬ held s x) (h2 : ¬ isRef s.things x) (y : Bs) : Liv { s with things := delK x s.things } y ↔ Liv s y := by
  unfold Liv
  exact zq0 (fun h => h1 (zf5.1 h)) h2 y
theorem zso {s : State} {x : Bs} (h1 : ¬ held s x) (h2 : ¬ isRef s.things x) : ¬ Liv s x := by
  intro h
  cases h with
  | base _ h => exact h1 (zf5.1 h)
  | ref k _ hk h hy => exact h2 ⟨k, hk, hy⟩
theorem zkq {s : State} (V : VS s) {x : Bs} (h : Liv s x) : hasT s.things x := by
  cases h with
  | base _ h => exact zmk V h
  | ref k _ hk h hy => obtain ⟨j, hj, e, _⟩ := V.refs k hk x hy; exact ⟨j, hj, e⟩
theorem zrt {s : State} {r : Round} (V : VS s) (y : Bs) : Liv (zl s (unitM s r).2) y ↔ Liv s y := by
  have h := zet V r
  generalize unitM s r = u at h ⊢
  cases h with
  | drop h0 hq k hk hb hbest hm hh hi =>
    simp only
    rw [zgi V hk]; exact zli hh hi y
  | _ => simp only [zbe]
structure CR (s : State) (r : Round) : Prop where
  t1 : ∀ x, held s x → x ∈ r.marked ∨ x ∈ r.queue
  t2 : ∀ k ∈ s.things, k.sum ∈ r.marked → ∀ y ∈ k.thing.refs, y ∈ r.marked ∨ y ∈ r.queue
  t3 : ∀ k ∈ s.things, r.at_ ≤ k.born → k.sum ∈ r.marked ∨ k.sum ∈ r.queue
  lm : ∀ x ∈ r.marked, Liv s x
  lq : ∀ x ∈ r.queue, Liv s x
theorem ze7 {s : State} (V : VS s) {a b : Kept} (ha : a ∈ s.things) (hb : b ∈ s.things) (h : a.sum = b.sum) : a = b := by
  obtain ⟨i, hi, rfl⟩ := z9 K0 ha
  obtain ⟨j, hj, rfl⟩ := z9 K0 hb
  have h1 := zcn K0 V.srtT (kp (nth K0 s.things j).sum) (kR (nth K0 s.things j).sum) hi h
  have h2 := zcn K0 V.srtT (kp (nth K0 s.things j).sum) (kR (nth K0 s.things j).sum) hj rfl
  rw [h1, ← h2]
theorem CR.free {s : State} {r : Round} (h : CR s r) (V : VS s) (hq : r.queue = []) {k : Kept} (hk : k ∈ s.things) (hm : k.sum ∉ r.marked) (hbest : ∀ j ∈ s.things, j.born < r.at_ → j.born ≤ k.born) : ¬ held s k.sum ∧ ¬ isRef s.things k.sum := by
  constructor
  · intro hh
    rcases h.t1 _ hh with h1 | h1
    · exact hm h1
    · rw [hq] at h1; cases h1
  · rintro ⟨j, hj, hr⟩
    obtain ⟨k', hk', he, hb⟩ := V.refs j hj _ hr
    obtain rfl : k' = k := ze7 V hk' hk he
    have hjm : j.sum ∉ r.marked := by
      intro hjm
      rcases h.t2 j hj hjm _ hr with h1 | h1
      · exact hm h1
      · rw [hq] at h1; cases h1
    have hlt : j.born < r.at_ := by
      rcases (by omega : j.born < r.at_ ∨ r.at_ ≤ j.born) with h1 | h1
      · exact h1
      · rcases h.t3 j hj h1 with h2 | h2
        · exact absurd h2 hjm
        · rw [hq] at h2; cases h2
    have := hbest j hj hlt
    omega
theorem zud {s : State} {r : Round} (V : VS s) (rok : RoundOk s.width s.births r) (h : r.phase ≠ 0 → CR s r) (hp : (unitM s r).1.phase ≠ 0) : CR (zl s (unitM s r).2) (unitM s r).1 := by
  have hu := zet V r
  generalize unitM s r = u at hu hp ⊢
  cases hu with
  | start h0 =>
    have hm := (rok.rest h0).2.1
    simp only
    rw [zbe, hm]
    refine ⟨fun x hx => .inr (zf5.2 hx), fun k hk hm => (nomatch hm), fun k hk hb => ?_, fun x hx => (nomatch hx), fun x hx => .base x hx⟩
    simp only at hb
    have := (V.okT k hk).2.2.2; omega
  | mark h0 q k hq hk hm =>
    have C := h h0
    simp only
    rw [zbe]
    have mv : ∀ y, y ∈ r.marked ∨ y ∈ r.queue → y ∈ r.marked ++ [k.sum] ∨ y ∈ q ++ k.thing.refs.filter fun y => !decide (y ∈ r.marked ++ [k.sum]) := by
      intro y hy
      rw [hq] at hy
      rcases hy with h1 | h1
      · exact .inl (List.mem_append.2 (.inl h1))
      · rcases List.mem_cons.1 h1 with h2 | h2
        · exact .inl (List.mem_append.2 (.inr (by rw [h2]; simp)))
        · exact .inr (List.mem_append.2 (.inl h2))
    have hkl : Liv s k.sum := C.lq _ (by rw [hq]; simp)
    refine ⟨fun x hx => mv x (C.t1 x hx), fun j hj hm2 y hy => ?_, fun j hj hb => mv _ (C.t3 j hj hb), fun x hx => ?_, fun x hx => ?_⟩
    · simp only at hm2
      rcases List.mem_append.1 hm2 with h1 | h1
      · exact mv y (C.t2 j hj h1 y hy)
      · rw [List.mem_singleton] at h1
        obtain rfl := ze7 V hj hk h1
        by_cases hc : y ∈ r.marked ++ [j.sum]
        · exact .inl hc
        · exact .inr (List.mem_append.2 (.inr (List.mem_filter.2 ⟨hy, by simpa using hc⟩)))
    · rcases List.mem_append.1 hx with h1 | h1
      · exact C.lm x h1
      · rw [List.mem_singleton] at h1; rw [h1]; exact hkl
    · rcases List.mem_append.1 hx with h1 | h1
      · exact C.lq x (by rw [hq]; simp [h1])
      · exact .ref k x hk hkl (List.mem_filter.1 h1).1
  | skip h0 x q hq hm =>
    have C := h h0
    simp only
    rw [zbe]
    have hxm : x ∈ r.marked := hm.resolve_right fun h => h (zkq V (C.lq x (by rw [hq]; simp)))
    have mv : ∀ y, y ∈ r.marked ∨ y ∈ r.queue → y ∈ r.marked ∨ y ∈ q := by
      intro y hy
      rw [hq] at hy
      rcases hy with h1 | h1
      · exact .inl h1
      · rcases List.mem_cons.1 h1 with h2 | h2
        · rw [h2]; exact .inl hxm
        · exact .inr h2
    exact ⟨fun x hx => mv x (C.t1 x hx), fun j hj hm y hy => mv y (C.t2 j hj hm y hy), fun j hj hb => mv _ (C.t3 j hj hb), C.lm, fun x hx => C.lq x (by rw [hq]; simp [hx])⟩
  | over h0 hq hb => exact absurd rfl hp
  | keep h0 hq k hk hb hbest hm =>
    have C := h h0
    simp only
    rw [zbe]
    have hkm : k.sum ∈ r.marked := by
      rcases hm with h1 | h1
      · exact h1
      · rcases Classical.em (k.sum ∈ r.marked) with h2 | h2
        · exact h2
        · have := C.free V hq hk h2 hbest
          exact absurd h1 (fun h => h.elim this.1 this.2)
    have hq' := C.t1; have hq2 := C.t2; have hq3 := C.t3
    rw [hq] at hq' hq2 hq3
    refine ⟨hq', hq2, fun j hj hb2 => ?_, C.lm, fun x hx => nomatch hx⟩
    simp only at hb2
    rcases (by omega : j.born < r.at_ ∨ r.at_ ≤ j.born) with h1 | h1
    · have := hbest j hj h1
      obtain rfl := V.born_inj hj hk (by omega)
      exact .inl hkm
    · exact hq3 j hj h1
  | drop h0 hq k hk hb hbest hm hh hi =>
    have C := h h0
    simp only
    rw [zgi V hk]
    have hq' := C.t1; have hq2 := C.t2; have hq3 := C.t3
    rw [hq] at hq' hq2 hq3
    refine ⟨hq', fun j hj => hq2 j (zbz.1 hj).1, fun j hj hb2 => ?_, fun x hx => (zli hh hi x).2 (C.lm x hx), fun x hx => nomatch hx⟩
    simp only at hb2 hj
    obtain ⟨hj1, hj2⟩ := zbz.1 hj
    rcases (by omega : j.born < r.at_ ∨ r.at_ ≤ j.born) with h1 | h1
    · have := hbest j hj1 h1
      obtain rfl := V.born_inj hj1 hk (by omega)
      exact absurd rfl hj2
    · exact hq3 j hj1 h1
noncomputable def stepU (a : State × Round) : State × Round := (zl a.1 (unitM a.1 a.2).2, (unitM a.1 a.2).1)
noncomputable def iterU : Nat → State × Round → State × Round
  | 0, a => a
  | n + 1, a => iterU n (stepU a)
structure UK (s s' : State) : Prop where
  ints : s'.width = s.width ∧ s'.births = s.births ∧ s'.now = s.now ∧ s'.given = s.given
  pins : s'.pins = s.pins
  leases : s'.leases = s.leases
  sub : s'.things.Sublist s.things
  liv : ∀ x, Liv s' x ↔ Liv s x
theorem UK.refl (s : State) : UK s s := ⟨⟨rfl, rfl, rfl, rfl⟩, rfl, rfl, List.Sublist.refl _, fun _ => Iff.rfl⟩
theorem UK.trans {a b c : State} (h : UK a b) (k : UK b c) : UK a c := by
  obtain ⟨a1, a2, a3, a4⟩ := h.ints
  obtain ⟨b1, b2, b3, b4⟩ := k.ints
  exact ⟨⟨b1.trans a1, b2.trans a2, b3.trans a3, b4.trans a4⟩, k.pins.trans h.pins, k.leases.trans h.leases, k.sub.trans h.sub, fun x => (k.liv x).trans (h.liv x)⟩
theorem UK.step {s : State} (V : VS s) (r : Round) : UK s (zl s (unitM s r).2) := by
  obtain ⟨a1, a2, a3, a4, a5, a6⟩ := zfb s (unitM s r).2
  refine ⟨⟨a1, a2, a3, a4⟩, a5, a6, ?_, zrt V⟩
  unfold zl
  split
  · exact List.Sublist.refl _
  · exact List.filter_sublist
theorem zsa (m : List Bs) {l l' : List Kept} (h : l.Sublist l') : sumU m l ≤ sumU m l' := by
  induction h with
  | slnil => exact Nat.le_refl _
  | cons a h ih => simp only [sumU]; omega
  | cons_cons a h ih => simp only [sumU]; omega
theorem UK.whole {s s' : State} (h : UK s s') : whole s' ≤ whole s := by
  have h1 := h.sub.length_le
  have h2 := zsa [] h.sub
  unfold KV.whole
  rw [h.pins, h.leases]
  omega
theorem zky : ∀ (n : Nat) (a : State × Round), CL a.1 a.2 → (∀ j, j < n → (iterU j a).2.rounds < 1000000000) → CL (iterU n a).1 (iterU n a).2 ∧ UK a.1 (iterU n a).1 ∧ a.2.rounds ≤ (iterU n a).2.rounds ∧ (iterU n a).2.rounds ≤ a.2.rounds + n
  | 0, a, h, hr => ⟨h, UK.refl _, Int.le_refl _, by show a.2.rounds ≤ a.2.rounds + ((0 : Nat) : Int); omega⟩
  | n + 1, a, h, hr => by
    have h1 := zht h (hr 0 (by omega))
    have hs : (unitM a.1 a.2).1.rounds = a.2.rounds ∨ (unitM a.1 a.2).1.rounds = a.2.rounds + 1 := by
      rcases zim h.vs a.2 with ⟨h2, _⟩ | ⟨h2, _⟩
      · exact .inl h2
      · right; rw [h2]
    obtain ⟨h3, h4, h5, h6⟩ := zky n (stepU a) h1 (fun j hj => hr (j + 1) (by omega))
    have h5' : (unitM a.1 a.2).1.rounds ≤ (iterU n (stepU a)).2.rounds := h5
    have h6' : (iterU n (stepU a)).2.rounds ≤ (unitM a.1 a.2).1.rounds + n := h6
    exact ⟨h3, (UK.step h.vs a.2).trans h4, by show a.2.rounds ≤ (iterU n (stepU a)).2.rounds; omega, by show (iterU n (stepU a)).2.rounds ≤ a.2.rounds + ((n + 1 : Nat) : Int); omega⟩
theorem zif : ∀ (m : Nat) (a : State × Round), CL a.1 a.2 → far a.1 a.2 ≤ m → a.2.rounds < 1000000000 →
    ∃ n, 1 ≤ n ∧ n ≤ m ∧ (∀ j, j < n → (iterU j a).2.rounds = a.2.rounds) ∧ (∀ j, 0 < j → j < n → (iterU j a).2.phase ≠ 0) ∧ (iterU n a).2 = ⟨0, [], [], 0, 0, a.2.rounds + 1⟩ ∧ ((a.2.phase ≠ 0 → CR a.1 a.2) → ∀ k ∈ (iterU n a).1.things, Liv (iterU n a).1 k.sum)
  | 0, a, h, hf, hr => by
    exfalso
    unfold far at hf
    split at hf <;> omega
  | m + 1, a, h, hf, hr => by
    have h1 := zht h (by omega)
    rcases zim h.vs a.2 with ⟨e1, e2, e3⟩ | ⟨e1, e2, e3, e4, e5, e6⟩
    · obtain ⟨n, n1, n2, n3, n4, n5, n6⟩ := zif m (stepU a) h1 (by show far (zl a.1 (unitM a.1 a.2).2) (unitM a.1 a.2).1 ≤ m; omega) (by show (unitM a.1 a.2).1.rounds < 1000000000; omega)
      refine ⟨n + 1, by omega, by omega, fun j hj => ?_, fun j hj0 hj => ?_, ?_, fun hc => n6 fun _ => zud h.vs h.rok hc e2⟩
      · cases j with
        | zero => rfl
        | succ j => exact (n3 j (by omega)).trans e1
      · cases j with
        | zero => omega
        | succ j =>
          cases j with
          | zero => exact e2
          | succ j => exact n4 (j + 1) (by omega) (by omega)
      · have : (iterU n (stepU a)).2 = ⟨0, [], [], 0, 0, (unitM a.1 a.2).1.rounds + 1⟩ := n5
        rw [e1] at this; exact this
    · refine ⟨1, Nat.le_refl _, by omega, fun j hj => ?_, fun j hj0 hj => by omega, e1, fun hc k hk => ?_⟩
      · obtain rfl : j = 0 := by omega
        rfl
      · have hs : (iterU 1 a).1 = a.1 := by
          show zl a.1 (unitM a.1 a.2).2 = a.1
          rw [e2, zbe]
        rw [hs] at hk ⊢
        have C := hc e3
        rcases C.t3 k hk (e5 k hk) with h2 | h2
        · exact C.lm _ h2
        · rw [e4] at h2; cases h2
end KV
end
section
namespace KV
open Go Go.Eng
open Classical
noncomputable def itV : Nat → Vault → Vault
  | 0, v => v
  | n + 1, v => itV n (stepV v)
theorem zdh : ∀ (m n : Nat) (v : Vault), itV (m + n) v = itV n (itV m v)
  | 0, n, v => by rw [Nat.zero_add]; rfl
  | m + 1, n, v => by rw [Nat.succ_add]; exact zdh m n (stepV v)
theorem zhn : ∀ (n : Nat) (v : Vault), ((itV n v).st, (itV n v).rd) = iterU n (v.st, v.rd)
  | 0, v => rfl
  | n + 1, v => zhn n (stepV v)
theorem zk0 (n : Nat) (v : Vault) : (itV n v).st = (iterU n (v.st, v.rd)).1 := congrArg Prod.fst (zhn n v)
theorem zed (n : Nat) (v : Vault) : (itV n v).rd = (iterU n (v.st, v.rd)).2 := congrArg Prod.snd (zhn n v)
structure CLV (v : Vault) : Prop where
  vv : VV v
  jk : junk v.st v.rd + v.st.things.length ≤ 600
  qq : v.rd.phase ≠ 0 → v.rd.queue.length + sumU v.rd.marked v.st.things ≤ 23200
  lg : v.safe.length + v.loose.length + v.st.things.length ≤ 4000
theorem CLV.cl {v : Vault} (h : CLV v) : CL v.st v.rd := ⟨h.vv.vs.1, h.vv.rd, h.jk, h.qq⟩
theorem CLV.logx {v : Vault} (h : CLV v) (hd : (unitM v.st v.rd).2 ≠ E0) : v.safe.length + v.loose.length < 4000 := by
  obtain ⟨⟨k, hk, _⟩, _⟩ := zd3 h.vv.vs.1 hd
  have := List.length_pos_of_mem hk
  have := h.lg
  omega
theorem ziw {v : Vault} (h : CLV v) (hr : v.rd.rounds < 1000000000) : CLV (stepV v) ∧ (stepV v).safe.length + (stepV v).loose.length + (stepV v).st.things.length ≤ v.safe.length + v.loose.length + v.st.things.length := by
  have hs := zcw h.vv hr (by
    by_cases hd : (unitM v.st v.rd).2 = E0
    · exact .inl hd
    · exact .inr (h.logx hd))
  have hc := zht h.cl hr
  have hl : (stepV v).safe.length + (stepV v).loose.length + (stepV v).st.things.length ≤ v.safe.length + v.loose.length + v.st.things.length := by
    show v.safe.length + (if (unitM v.st v.rd).2 = E0 then v.loose else v.loose ++ [formE (eDrop (unitM v.st v.rd).2)]).length + (zl v.st (unitM v.st v.rd).2).things.length ≤ _
    by_cases hd : (unitM v.st v.rd).2 = E0
    · rw [if_pos hd, hd, zbe]; exact Nat.le_refl _
    · rw [if_neg hd]
      obtain ⟨hT, _⟩ := zd3 h.vv.vs.1 hd
      have := zmn hT
      unfold zl
      rw [if_neg hd, List.length_append]
      simp only [List.length_cons, List.length_nil]
      omega
  exact ⟨⟨hs.vv hc.rok, hc.jk, hc.qq, by have := h.lg; omega⟩, hl⟩
theorem zea : ∀ (n : Nat) (v : Vault), CLV v → (∀ j, j < n → (itV j v).rd.rounds < 1000000000) → CLV (itV n v) ∧ (itV n v).safe.length + (itV n v).loose.length + (itV n v).st.things.length ≤ v.safe.length + v.loose.length + v.st.things.length ∧ (itV n v).width = v.width ∧ (itV n v).limit = v.limit
  | 0, v, h, hr => ⟨h, Nat.le_refl _, rfl, rfl⟩
  | n + 1, v, h, hr => by
    obtain ⟨h1, h2⟩ := ziw h (hr 0 (by omega))
    obtain ⟨a, b, d, e⟩ := zea n (stepV v) h1 fun j hj => hr (j + 1) (by omega)
    exact ⟨a, Nat.le_trans b h2, d, e⟩
theorem zkx : ∀ (n : Nat) (v : Vault) (d : List Bs) (u : Nat), CLV v → (∀ j, j < n → (itV j v).rd.rounds < 1000000000) → ∃ d', clrI n v d u = some (itV n v, d', u + n)
  | 0, v, d, u, h, hr => ⟨d, rfl⟩
  | n + 1, v, d, u, h, hr => by
    have h0 : v.rd.rounds < 1000000000 := hr 0 (by omega)
    obtain ⟨h1, _⟩ := ziw h h0
    obtain ⟨d', e⟩ := zkx n (stepV v) (d ++ oneD (unitM v.st v.rd).2) (u + 1) h1 fun j hj => hr (j + 1) (by omega)
    refine ⟨d', ?_⟩
    simp only [clrI]
    rw [if_neg (fun h2 => h2.elim (fun h3 => h3 h.vv.rd) (by omega)), if_neg (fun h2 => by have := h.logx h2.1; omega), e, show u + 1 + n = u + (n + 1) by omega]; rfl
theorem it_UK (n : Nat) {v : Vault} (h : CLV v) (hr : ∀ j, j < n → (itV j v).rd.rounds < 1000000000) : UK v.st (itV n v).st := by
  rw [zk0]; exact (zky n (v.st, v.rd) h.cl fun j hj => by rw [← zed]; exact hr j hj).2.1
theorem zc6 : ∀ (n : Nat) (v : Vault), VS v.st → (itV n v).rd.rounds ≤ v.rd.rounds + n
  | 0, v, h => by show v.rd.rounds ≤ v.rd.rounds + ((0 : Nat) : Int); omega
  | n + 1, v, h => by
    have h1 := zc6 n (stepV v) (zh3 h)
    have h2 : (stepV v).rd.rounds ≤ v.rd.rounds + 1 := by
      show (unitM v.st v.rd).1.rounds ≤ v.rd.rounds + 1
      rcases zim h v.rd with ⟨e, _⟩ | ⟨e, _⟩
      · omega
      · rw [e]; exact Int.le_refl _
    show (itV n (stepV v)).rd.rounds ≤ v.rd.rounds + ((n + 1 : Nat) : Int)
    omega
theorem zpk {v : Vault} (h : CLV v) (hr : v.rd.rounds < 999999999) : ∃ n, n ≤ 2 * whole v.st + v.rd.queue.length ∧ (∀ j, j < n → (itV j v).rd.rounds < v.rd.rounds + 2) ∧ (itV n v).rd.rounds = v.rd.rounds + 2 ∧ ∀ k ∈ (itV n v).st.things, Liv (itV n v).st k.sum := by
  have hf := zji v.st v.rd
  obtain ⟨n1, a1, a2, a3, _, a5, _⟩ := zif (whole v.st + v.rd.queue.length) (v.st, v.rd) h.cl hf (by show v.rd.rounds < 1000000000; omega)
  have hrl : ∀ j, j < n1 → (itV j v).rd.rounds < 1000000000 := fun j hj => by rw [zed, a3 j hj]; show v.rd.rounds < 1000000000; omega
  obtain ⟨c1, _, _, _⟩ := zea n1 v h hrl
  have huk := it_UK n1 h hrl
  have hw := huk.whole
  have hrd : (itV n1 v).rd = ⟨0, [], [], 0, 0, v.rd.rounds + 1⟩ := by rw [zed]; exact a5
  have hf2 := zji (itV n1 v).st (itV n1 v).rd
  have hq0 : (itV n1 v).rd.queue.length = 0 := by rw [hrd]; rfl
  have hr1 : (itV n1 v).rd.rounds = v.rd.rounds + 1 := by rw [hrd]
  have hp0 : (itV n1 v).rd.phase = 0 := by rw [hrd]
  obtain ⟨n2, b1, b2, b3, _, b5, b6⟩ := zif (whole v.st) ((itV n1 v).st, (itV n1 v).rd) c1.cl (by show far (itV n1 v).st (itV n1 v).rd ≤ whole v.st; omega) (by show (itV n1 v).rd.rounds < 1000000000; omega)
  refine ⟨n1 + n2, by omega, fun j hj => ?_, ?_, ?_⟩
  · rcases Nat.lt_or_ge j n1 with h1 | h1
    · rw [zed, a3 j h1]; show v.rd.rounds < v.rd.rounds + 2; omega
    · obtain ⟨i, rfl⟩ : ∃ i, j = n1 + i := ⟨j - n1, by omega⟩
      rw [zdh, zed, b3 i (by omega)]
      show (itV n1 v).rd.rounds < v.rd.rounds + 2
      omega
  · rw [zdh, zed, b5]; show (itV n1 v).rd.rounds + 1 = v.rd.rounds + 2; omega
  · rw [zdh, zk0]
    exact b6 fun h => absurd hp0 h
end KV
end
section
namespace KV
open Go Go.Eng
open Classical
def GL (v : Vault) : Prop := GV v ∧ Led v
theorem zlc {b : Rw} (hb : RB b) : ∀ (n : Nat) (v : Vault) (p : Int), GL v → 0 ≤ p ∧ p + 20 * n ≤ 999998000 →
    ∃ (v' : Vault) (p' : Int), Lqbr (some 8) ([.i (n : Int), .l b, .i p, .i 0, .i 0, .i 0, .i 0, .i 0, .i 0, .i 0, .i 0, .i 0, .i 0] ++ (vA v ++ ([.l [], .l [], .l [], .l [], .l [], .l [], .l []] ++ vB v))) = some (vA v' ++ ([.l b, .i p'] ++ vB v')) ∧ p ≤ p' ∧ p' ≤ p + 20 * n ∧ GL v' := by
  intro n
  induction n with
  | zero =>
    intro v p hv hp
    refine ⟨v, p, ?_, by omega, by omega, hv⟩
    show Lqbr (some 8) [.i ((0 : Nat) : Int), .l b, .i p, .i 0, .i 0, .i 0, .i 0, .i 0, .i 0, .i 0, .i 0, .i 0, .i 0, .i v.width, .i v.limit, .l (encS v.safe), .i v.st.width, .i v.st.now, .i v.st.given, .i v.st.births, .l (encK v.st.things), .i v.rd.phase, .l (encS v.rd.queue), .l (encS v.rd.marked), .i v.rd.top, .i v.rd.at_, .i v.rd.rounds, .l [], .l [], .l [], .l [], .l [], .l [], .l [], .l (encS v.loose), .l (encP v.st.pins), .l (encL v.st.leases)] = _
    rw [eqbr_8]
    simp (disch := omega) only [push_cast]
    rfl
  | succ n ih =>
    intro v p hv hp
    obtain ⟨a, p1, ea, h1, h2, ha⟩ := znh hb p (by omega)
    obtain ⟨v1, ed, hv1, ac⟩ := zop hv.1 ha
    obtain ⟨v2, p2, er, h3, h4, hv2⟩ := ih v1 p1 ⟨hv1, .act v v1 hv.2 hv.1 ac⟩ (by omega)
    refine ⟨v2, p2, ?_, by omega, by omega, hv2⟩
    show Lqbr (some 8) [.i ((n + 1 : Nat) : Int), .l b, .i p, .i 0, .i 0, .i 0, .i 0, .i 0, .i 0, .i 0, .i 0, .i 0, .i 0, .i v.width, .i v.limit, .l (encS v.safe), .i v.st.width, .i v.st.now, .i v.st.given, .i v.st.births, .l (encK v.st.things), .i v.rd.phase, .l (encS v.rd.queue), .l (encS v.rd.marked), .i v.rd.top, .i v.rd.at_, .i v.rd.rounds, .l [], .l [], .l [], .l [], .l [], .l [], .l [], .l (encS v.loose), .l (encP v.st.pins), .l (encL v.st.leases)] = _
    rw [eqbr_8, ea]
    have ed' : Lqbq none [.i v.width, .i v.limit, .l (encS v.safe), .i v.st.width, .i v.st.now, .i v.st.given, .i v.st.births, .l (encK v.st.things), .i v.rd.phase, .l (encS v.rd.queue), .l (encS v.rd.marked), .i v.rd.top, .i v.rd.at_, .i v.rd.rounds, .i a.kind, .s a.text, .i a.refs, .s a.name, .i a.pick, .i a.ticks, .l (encS v.loose), .l (encP v.st.pins), .l (encL v.st.leases)] = _ := ed
    unfold encA
    simp only [List.cons_append, List.nil_append]
    simp (disch := omega) only [push_cast, ed']
    rw [show (n : Int) + 1 - 1 = (n : Int) by omega]
    exact er
theorem zo3 (w lim : Int) (hw : w = 1 ∨ w = 2 ∨ w = 8) (hl : 0 ≤ lim ∧ lim ≤ 1000000) : ∃ v, Lqbw none [.i w, .i lim, .l [], .l []] = some (encO (.inl v)) ∧ VV v ∧ v.rd = R0 ∧ v.safe = [] ∧ v.loose = [] := by
  have := zg1 w lim [] [] ⟨Nat.zero_le _, fun x hx => nomatch hx⟩ ⟨Nat.zero_le _, fun x hx => nomatch hx⟩ (Nat.zero_le _)
  have hwb : zj w = true := zz.2 (by omega)
  have hlog : LogOk [] [] := ⟨(fun x hx => nomatch hx), (fun x hx => nomatch hx), Nat.zero_le _⟩
  have ho : openM w lim [] [] = .inl ⟨w, lim, [], [], empty w, R0⟩ := by
    unfold openM
    rw [if_pos ⟨hwb, hl, hlog⟩]
    simp [runL]
  rw [ho] at this
  refine ⟨_, this, ⟨hwb, hl, hlog, by simp [runL], ?_⟩, rfl, rfl, rfl⟩
  exact (show RoundOk w 0 R0 from ⟨⟨Int.le_refl _, (by show (0 : Int) ≤ 2; omega)⟩, ⟨Int.le_refl _, (by show (0 : Int) ≤ 1000000000; omega)⟩, Nat.zero_le _, Nat.zero_le _, (fun x hx => nomatch hx), List.nodup_nil, (fun x hx => nomatch hx), fun _ => ⟨rfl, rfl, rfl, rfl⟩, fun h => absurd rfl h⟩)
theorem zse {b : Rw} (hb : RB b) (p : Int) (hp : 0 ≤ p ∧ p ≤ 900000000) : ∃ (v : Vault) (p' : Int), Lqbr none [.l b, .i p] = some (vA v ++ ([.l b, .i p'] ++ vB v)) ∧ p ≤ p' ∧ p' ≤ p + 600 ∧ GL v := by
  obtain ⟨x1, e1, r1, s1⟩ := zk hb 6 (by omega) p (by omega)
  have go : ∀ (lim q : Int), 0 ≤ lim ∧ lim ≤ 1000000 → p ≤ q ∧ q ≤ p + 2 → ∃ (w : Int) (v0 : Vault) (x5 x6 : Int), Lqc9 none [.l b, .i q] = some [.i w, .l b, .i (q + 1)] ∧ Lqbw none [.i w, .i lim, .l [], .l []] = some (encO (.inl v0)) ∧ GL v0 ∧ v0.rd = R0 ∧
      Lqb none [.i 14, .l b, .i (q + 1)] = some [.i x5, .l b, .i (q + 1 + 1)] ∧ Lqb none [.i 6, .l b, .i (q + 1 + 1)] = some [.i x6, .l b, .i (q + 1 + 1 + 1)] ∧ 0 ≤ x5 ∧ x5 < 14 := by
    intro lim q hl hq
    obtain ⟨w, ew, hw⟩ := zs1 hb q (by omega)
    obtain ⟨v0, eo, hv, hr, ha, hb'⟩ := zo3 w lim hw hl
    obtain ⟨x5, e5, r5, s5⟩ := zk hb 14 (by omega) (q + 1) (by omega)
    obtain ⟨x6, e6, r6, s6⟩ := zk hb 6 (by omega) (q + 1 + 1) (by omega)
    exact ⟨w, v0, x5, x6, ew, eo, ⟨.inl hv, .new v0 ha hb'⟩, hr, e5, e6, by omega, by omega⟩
  have fin : ∀ (v0 : Vault) (x5 x6 q : Int), v0.rd = R0 → GL v0 → 0 ≤ x5 ∧ x5 < 14 → p ≤ q ∧ q ≤ p + 10 → ∃ (v : Vault) (p' : Int), p ≤ p' ∧ p' ≤ p + 600 ∧ GL v ∧ (cond (decide (x6 = 0)) (Lqbr (some 8) ([.i (x5 + 12), .l b, .i q, .i 0, .i 0, .i 0, .i 0, .i 0, .i 0, .i 0, .i 0, .i 0, .i 0] ++ (vA v0 ++ ([.l [], .l [], .l [], .l [], .l [], .l [], .l []] ++ vB v0)))) (Lqbr (some 8) ([.i x5, .l b, .i q, .i 0, .i 0, .i 0, .i 0, .i 0, .i 0, .i 0, .i 0, .i 0, .i 0] ++ (vA v0 ++ ([.l [], .l [], .l [], .l [], .l [], .l [], .l []] ++ vB v0))))) = some (vA v ++ ([.l b, .i p'] ++ vB v)) := by
    intro v0 x5 x6 q hr hg hx hq
    by_cases c : x6 = 0
    · obtain ⟨n, hn⟩ : ∃ n : Nat, x5 + 12 = n := ⟨(x5 + 12).toNat, by omega⟩
      obtain ⟨v, p', e, h1, h2, h3⟩ := zlc hb n v0 q hg (by omega)
      refine ⟨v, p', by omega, by omega, h3, ?_⟩
      rw [decide_eq_true c, cond_true, hn]; exact e
    · obtain ⟨n, hn⟩ : ∃ n : Nat, x5 = n := ⟨x5.toNat, by omega⟩
      obtain ⟨v, p', e, h1, h2, h3⟩ := zlc hb n v0 q hg (by omega)
      refine ⟨v, p', by omega, by omega, h3, ?_⟩
      rw [decide_eq_false c, cond_false, hn]; exact e
  rw [eqbr_i, e1]
  by_cases c : x1 = 0
  · obtain ⟨x2, e2, r2, s2⟩ := zk hb 60 (by omega) (p + 1) (by omega)
    obtain ⟨w, v0, x5, x6, ew, eo, hg, hr, e5, e6, h0, h14⟩ := go (20 + x2) (p + 1 + 1) (by omega) (by omega)
    obtain ⟨v, p', h1, h2, h3, e⟩ := fin v0 x5 x6 (p + 1 + 1 + 1 + 1 + 1) hr hg ⟨h0, h14⟩ (by omega)
    refine ⟨v, p', ?_, h1, h2, h3⟩
    unfold encO at eo
    unfold vA vB at e
    rw [hr] at e
    simp (disch := omega) only [push_cast, e2, ew, eo, e5, e6]
    exact e
  · obtain ⟨w, v0, x5, x6, ew, eo, hg, hr, e5, e6, h0, h14⟩ := go 1000000 (p + 1) (by omega) (by omega)
    obtain ⟨v, p', h1, h2, h3, e⟩ := fin v0 x5 x6 (p + 1 + 1 + 1 + 1) hr hg ⟨h0, h14⟩ (by omega)
    refine ⟨v, p', ?_, h1, h2, h3⟩
    unfold encO at eo
    unfold vA vB at e
    rw [hr] at e
    simp (disch := omega) only [push_cast, ew, eo, e5, e6]
    exact e
theorem GV.logx {v : Vault} (h : GV v) : v.safe.length + v.loose.length ≤ 4000 ∧ (∀ x ∈ v.safe ++ v.loose, x.size ≤ 5000) := by
  rcases h with h | rfl
  · refine ⟨h.log.n, fun x hx => ?_⟩
    rcases List.mem_append.1 hx with h1 | h1
    · exact h.log.sa x h1
    · exact h.log.sb x h1
  · exact ⟨Nat.zero_le _, fun x hx => nomatch hx⟩
end KV
end
section
namespace KV
open Go Go.Eng
open Classical
theorem ze3 (n : Int) : (bytesOf ([[.i n]] : Rw)).size = 1 := zcr _
theorem dec_R : ∀ (k : Nat) (n : Int), n < 10 ^ (k + 1) → n ≤ 1000000000 → k ≤ 100 → ∃ s, Rqbb (k + 1) none [.i n] = some [.s s] ∧ 1 ≤ s.size ∧ s.size ≤ k + 1
  | 0, n, h, hn, hk => by
    have h10 : n < 10 := by simpa using h
    refine ⟨_, by rw [eqbb_i, cpos h10], ?_⟩
    rw [ze3]; omega
  | k + 1, n, h, hn, hk => by
    rw [eqbb_i]
    by_cases h10 : n < 10
    · refine ⟨_, by rw [cpos h10], ?_⟩
      rw [ze3]; omega
    · have hd : n.tdiv 10 < 10 ^ (k + 1) := by
        rw [Int.tdiv_eq_ediv_of_nonneg (by omega)]
        have : (10 : Int) ^ (k + 1 + 1) = 10 ^ (k + 1) * 10 := Int.pow_succ ..
        omega
      have h0 : 0 ≤ n.tdiv 10 ∧ n.tdiv 10 ≤ n := by rw [Int.tdiv_eq_ediv_of_nonneg (by omega)]; omega
      obtain ⟨s, e, h1, h2⟩ := dec_R k (n.tdiv 10) hd (by omega) (by omega)
      refine ⟨s ++ bytesOf ([[.i (IntKind.u8.wrap (IntKind.i64.wrap (48 + (n.tmod 10))))]] : Rw), ?_, ?_⟩
      · rw [cneg h10, w64 (n := n.tdiv 10) (by omega), e, mostE, Option.bind_some]
        show cond (decide (s.size + _ ≤ 1099511627776)) _ _ = _
        rw [cpos (by rw [ze3]; omega)]; rfl
      · rw [z5, ze3]; omega
theorem zhx (n : Int) (h : n ≤ 1000000) : ∃ s, Lqbb none [.i n] = some [.s s] ∧ 1 ≤ s.size ∧ s.size ≤ 20 :=
  dec_R 19 n (by have : (10 : Int) ^ (19 + 1) = 100000000000000000000 := by decide
                 omega) (by omega) (by omega)
theorem zri (n i : Int) (ap : Bool) (last x : Bs) (refs : List Bs) (hi : 0 ≤ i ∧ i ≤ 1000000) (T : List Kept) (hT : T.length ≤ 100000) : ∀ (m k : Nat), T.length - k = m → k ≤ T.length →
    ∃ T' : List Kept, Lqbe (some 11) [.i n, .b ap, .s last, .i i, .i (k : Int), .i 0, .i 0, .i 0, .i 0, .i 8, .i 0, .i 0, .i n, .s x, .l [], .l [], .l [], .l (encK T), .l [], .l [], .l (encS refs)] =
      Lqbe (some 4) [.i n, .b ap, .s last, .i (i + 1), .i 0, .i 0, .i 0, .i 0, .i 8, .i 0, .i 0, .i n, .l [], .l [], .l [], .l (encK T'), .l [], .l []] ∧ T'.length = T.length + 1 ∧ ∀ k ∈ T', k ∈ T ∨ k = ⟨last, i, ⟨x, refs⟩⟩ := by
  intro m
  have ins : ∀ k : Nat, k ≤ T.length → ((([] : Rw) ++ (Eng.sub (encK T) 0 k)) ++ ([[.s last, .i i, .s x, .l (encS refs)]] : Rw)) ++ (Eng.sub (encK T) k T.length) = encK (T.take k ++ ⟨last, i, ⟨x, refs⟩⟩ :: T.drop k) := by
    intro k hk
    rw [zb8, zb8, zdj, List.nil_append, zbc, zbc, List.drop_zero, Nat.sub_zero, List.take_of_length_le (l := T.drop k) (by rw [List.length_drop]; exact Nat.le_refl _), List.append_assoc]; rfl
  have fin : ∀ k : Nat, k ≤ T.length → (T.take k ++ (⟨last, i, ⟨x, refs⟩⟩ : Kept) :: T.drop k).length = T.length + 1 ∧ ∀ y ∈ T.take k ++ (⟨last, i, ⟨x, refs⟩⟩ : Kept) :: T.drop k, y ∈ T ∨ y = ⟨last, i, ⟨x, refs⟩⟩ := by
    intro k hk
    refine ⟨by rw [List.length_append, List.length_cons, List.length_take, List.length_drop]; omega, fun y hy => ?_⟩
    rcases List.mem_append.1 hy with h | h
    · exact .inl (List.mem_of_mem_take h)
    · rcases List.mem_cons.1 h with h | h
      · exact .inr h
      · exact .inl (List.mem_of_mem_drop h)
  have l1 : ∀ k : Nat, k ≤ T.length → (Eng.sub (encK T) 0 k).length = k := fun k hk => by rw [zb8, zcu, List.length_take, List.length_drop]; omega
  have l2 : ∀ k : Nat, k ≤ T.length → (Eng.sub (encK T) k T.length).length = T.length - k := fun k hk => by rw [zb8, zcu, List.length_take, List.length_drop]; omega
  induction m with
  | zero =>
    intro k hm hk
    have : k = T.length := by omega
    subst this
    refine ⟨_, ?_, fin T.length (Nat.le_refl _)⟩
    have := ins T.length (Nat.le_refl _)
    have a1 := l1 T.length (Nat.le_refl _); have a2 := l2 T.length (Nat.le_refl _)
    rw [eqbe_11, mostE]
    simp (disch := omega) only [push_cast, a1, a2, List.length_append, List.length_nil, ← this]
  | succ m ih =>
    intro k hm hk
    have hlt : k < T.length := by omega
    cases hs : slt (nth K0 T k).sum last
    · refine ⟨_, ?_, fin k hk⟩
      have := ins k hk
      have a1 := l1 k hk; have a2 := l2 k hk
      rw [eqbe_11, mostE]
      simp (disch := omega) only [push_cast, hs, a1, a2, List.length_append, List.length_nil, ← this]
    · obtain ⟨T', e, r⟩ := ih (k + 1) (by omega) (by omega)
      refine ⟨T', ?_, r⟩
      rw [eqbe_11]
      simp (disch := omega) only [push_cast, hs]
      exact e
structure MT (k : Kept) : Prop where
  text : k.thing.text.size ≤ 20
  refs : k.thing.refs.length ≤ 1
  size : ∀ r ∈ k.thing.refs, r.size = 8
theorem zqm (n : Nat) (hn : n ≤ 1000) (ap : Bool) : ∀ (m i : Nat) (last : Bs) (T : List Kept), n + 1 - i = m → 1 ≤ i → i ≤ n + 1 → T.length + 1 = i → (last = E0 ∨ last.size = 8) → (∀ k ∈ T, MT k) →
    ∃ T' : List Kept, Lqbe (some 4) [.i (n : Int), .b ap, .s last, .i (i : Int), .i 0, .i 0, .i 0, .i 0, .i 8, .i 0, .i 0, .i (n : Int), .l [], .l [], .l [], .l (encK T), .l [], .l []] = some [.i 8, .i 0, .i 0, .i (n : Int), .l (encK T'), .l [], .l []] ∧ T'.length = n ∧ ∀ k ∈ T', MT k := by
  intro m
  induction m with
  | zero =>
    intro i last T hm h1 hi hT hl hM
    refine ⟨T, ?_, by omega, hM⟩
    rw [eqbe_4]; simp (disch := omega) only [push_cast]
  | succ m ih =>
    intro i last T hm h1 hi hT hl hM
    obtain ⟨x, ex, hx1, hx2⟩ := zhx (i : Int) (by omega)
    have h8 : zj 8 = true := by rfl
    have go : ∀ refs : List Bs, refs.length ≤ 1 → (∀ r ∈ refs, r.size = 8) → ∃ T' : List Kept, Lqbe (some 11) [.i (n : Int), .b ap, .s (sumM (formT ⟨x, refs⟩ 8) 8), .i (i : Int), .i 0, .i 0, .i 0, .i 0, .i 0, .i 8, .i 0, .i 0, .i (n : Int), .s x, .l [], .l [], .l [], .l (encK T), .l [], .l [], .l (encS refs)] = some [.i 8, .i 0, .i 0, .i (n : Int), .l (encK T'), .l [], .l []] ∧ T'.length = n ∧ ∀ k ∈ T', MT k := by
      intro refs hr1 hr2
      obtain ⟨T1, e1, h3, h4⟩ := zri (n : Int) (i : Int) ap (sumM (formT ⟨x, refs⟩ 8) 8) x refs (by omega) T (by omega) T.length 0 (by omega) (Nat.zero_le _)
      have hz := zlj (s := formT ⟨x, refs⟩ 8) h8
      obtain ⟨T2, e2, h5, h6⟩ := ih (i + 1) (sumM (formT ⟨x, refs⟩ 8) 8) T1 (by omega) (by omega) (by omega) (by omega) (.inr (by omega)) (fun k hk => by
        rcases h4 k hk with h | h
        · exact hM k h
        · rw [h]; exact ⟨hx2, hr1, hr2⟩)
      exact ⟨T2, e1.trans e2, h5, h6⟩
    have hft : ∀ refs : List Bs, Lqd none [.s (formT ⟨x, refs⟩ 8), .i 8] = some [.s (sumM (formT ⟨x, refs⟩ 8) 8)] := fun refs => zbr _ 8 (by have := zkf ⟨x, refs⟩ 8; omega)
    have hfo : ∀ refs : List Bs, Lqi none [.s x, .l (encS refs), .i 8] = some [.s (formT ⟨x, refs⟩ 8)] := fun refs => zci ⟨x, refs⟩ 8
    have hf0 : Lqi none [.s x, .l [], .i 8] = some [.s (formT ⟨x, []⟩ 8)] := hfo []
    have hf1 : Lqi none [.s x, .l [[.s last]], .i 8] = some [.s (formT ⟨x, [last]⟩ 8)] := hfo [last]
    rw [eqbe_4]
    cases ap
    · by_cases hE : last = E0
      · obtain ⟨T', e, r⟩ := go [] (by simp) (fun r hr => nomatch hr)
        refine ⟨T', ?_, r⟩
        simp (disch := omega) only [push_cast, ex, hf0, hft]
        exact e
      · obtain ⟨T', e, r⟩ := go [last] (by simp) (fun r hr => by rw [List.mem_singleton] at hr; rw [hr]; exact hl.resolve_left hE)
        refine ⟨T', ?_, r⟩
        simp (disch := omega) only [push_cast, ex, hf1, hft]
        exact e
    · obtain ⟨T', e, r⟩ := go [] (by simp) (fun r hr => nomatch hr)
      refine ⟨T', ?_, r⟩
      simp (disch := omega) only [push_cast, ex, hf0, hft]
      exact e
theorem zsf (n : Nat) (hn : n ≤ 1000) (ap : Bool) : ∃ T' : List Kept, Lqbe none [.i (n : Int), .b ap] = some [.i 8, .i 0, .i 0, .i (n : Int), .l (encK T'), .l [], .l []] ∧ T'.length = n ∧ ∀ k ∈ T', MT k := by
  obtain ⟨T', e, r⟩ := zqm n hn ap n 1 E0 [] (by omega) (Nat.le_refl _) (by omega) rfl (.inl rfl) (fun k hk => nomatch hk)
  exact ⟨T', by rw [eqbe_i]; exact e, r⟩
end KV
end
section
namespace KV
open Go Go.Eng
open Classical
def bl (s : Bs) : List UInt8 := s.data.toList
theorem zio (x y : Bs) : bl (x ++ y) = bl x ++ bl y := by
  unfold bl; rw [ByteArray.data_append, Array.toList_append]
theorem zou {x y : Bs} (h : bl x = bl y) : x = y := Go.WideShapes.bytes_inj h
theorem zmj (x : Bs) : (bl x).length = x.size := by unfold bl; rw [Array.length_toList]; rfl
theorem zjn (l : List Bs) : ∀ a, bl (cat a l) = bl a ++ l.flatMap bl := by
  induction l with
  | nil => intro a; simp [cat]
  | cons x l ih => intro a; show bl (cat (a ++ x) l) = _; rw [ih, zio, List.flatMap_cons, List.append_assoc]
theorem zlh {w : Nat} : ∀ (l m : List Bs), (∀ r ∈ l, r.size = w) → (∀ r ∈ m, r.size = w) → l.length = m.length → l.flatMap bl = m.flatMap bl → l = m
  | [], [], _, _, _, _ => rfl
  | [], _ :: _, _, _, h, _ => by simp at h
  | _ :: _, [], _, _, h, _ => by simp at h
  | x :: l, y :: m, h1, h2, h3, h4 => by
    rw [List.flatMap_cons, List.flatMap_cons] at h4
    have := List.append_inj h4 (by rw [zmj, zmj, h1 x (by simp), h2 y (by simp)])
    rw [zou this.1, zlh l m (fun r hr => h1 r (by simp [hr])) (fun r hr => h2 r (by simp [hr])) (by simpa using h3) this.2]
theorem zf4 {l : List Bs} {w : Nat} (h : ∀ r ∈ l, r.size = w) : szs l = l.length * w := by
  induction l with
  | nil => simp [szs]
  | cons a l ih => rw [zen, List.length_cons, ih fun r hr => h r (by simp [hr]), h a (by simp), Nat.add_mul]; omega
theorem zja {t u : Thing} {a b : Nat} (ha : ∀ r ∈ t.refs, r.size = a) (hb : ∀ r ∈ u.refs, r.size = b) (ht : t.text = u.text) (hn : t.refs.length = u.refs.length) (hf : formM t = formM u) : t.refs = u.refs := by
  have h1 := congrArg ByteArray.size hf
  rw [zbl, zbl, ht, zf4 ha, zf4 hb, hn] at h1
  by_cases h0 : u.refs.length = 0
  · rw [List.eq_nil_of_length_eq_zero h0, List.eq_nil_of_length_eq_zero (hn.trans h0)]
  · have hab : a = b := Nat.eq_of_mul_eq_mul_left (by omega : 0 < u.refs.length) (by omega)
    subst hab
    have h2 := congrArg bl hf
    unfold formM at h2
    rw [zio, zio, zjn, zjn, ht, hn] at h2
    have h3 := List.append_cancel_right h2
    exact zlh _ _ ha hb hn (List.append_cancel_left h3)
structure BS (s : State) : Prop where
  nT : s.things.length ≤ 1000
  nP : s.pins.length ≤ 1000
  nL : s.leases.length ≤ 1000
  t : ∀ k ∈ s.things, 1 + szs k.thing.refs + k.thing.text.size ≤ 1000000 ∧ k.thing.refs.length ≤ 40 ∧ k.thing.text.size ≤ 3000
  nm : ∀ p ∈ s.pins, p.name.size ≤ 100
  ints : (-10 ≤ s.width ∧ s.width ≤ 100) ∧ (-1 ≤ s.now ∧ s.now ≤ 1000001000) ∧ (-1 ≤ s.given ∧ s.given ≤ 1000001000) ∧ (-1 ≤ s.births ∧ s.births ≤ 1000001000)
theorem BS.small {s : State} (h : BS s) : Small1 s := by
  have h1 := h.nT; have h2 := h.nP; have h3 := h.nL
  exact ⟨by omega, by omega, by omega, fun k hk => by have := h.t k hk; omega⟩
theorem BS.names {s : State} (h : BS s) : ∀ p ∈ s.pins, p.name.size ≤ 4611686018427387904 := fun p hp => by have := h.nm p hp; omega
theorem VS.bs {s : State} (V : VS s) : BS s := by
  have h1 := V.nT; have h2 := V.nP; have h3 := V.nL; have a := V.wd; have b := V.now; have c := V.given; have d := V.births
  exact ⟨by omega, by omega, by omega, fun k hk => by have := zbj (V.okT k hk).1; have := (V.okT k hk).1.text; omega, fun p hp => by have := (V.okP p hp).1.hi; omega, by omega, by omega, by omega, by omega⟩
theorem Cut.same {s s' : State} (h : s'.things = s.things) : Cut s s' := fun i h1 h2 _ _ _ => by rw [h]
theorem Cut.uni {s s' : State} {a b : Nat} (ha : ∀ k ∈ s.things, ∀ r ∈ k.thing.refs, r.size = a) (hb : ∀ k ∈ s'.things, ∀ r ∈ k.thing.refs, r.size = b) : Cut s s' := fun i h1 h2 h3 h4 h5 =>
  zja (ha _ (zi h1)) (hb _ (zi h2)) h3 h4 h5
theorem VS.uni {s : State} (V : VS s) : ∀ k ∈ s.things, ∀ r ∈ k.thing.refs, r.size = s.width.toNat := fun k hk r hr => by
  have := (V.okT k hk).1.size r hr; omega
theorem Cut.spoil {s s' : State} (V : VS s) (j : Nat) (k : Kept) (hj : j < s.things.length) (h : s'.things = s.things.set j k) (hs : SpT (nth K0 s.things j).thing k.thing) : Cut s s' := by
  intro i h1 h2 h3 h4 h5
  by_cases hij : j = i
  · subst hij
    have e : nth K0 s'.things j = k := by
      rw [zm _ _ _ h2]; simp only [h]; rw [List.getElem_set_self]
    rw [e] at h3 h4 h5 ⊢
    cases hs with
    | text hr _ => rw [hr]
    | more r _ hr _ => rw [hr, List.length_append] at h4; simp at h4
    | ones ht hr hn => exact zja (V.uni _ (zi hj)) hr h3 h4 h5
  · have e : nth K0 s'.things i = nth K0 s.things i := by
      rw [zm _ _ _ h2, zm _ _ _ h1]; simp only [h]; rw [List.getElem_set_ne hij]
    rw [e]
end KV
end
section
namespace KV
open Go Go.Eng
open Classical
theorem wrK1 (l : List Kept) (i : Nat) (n : Int) (h : i < l.length) : wrs (encK l) i 1 [.i n] = encK (l.set i { nth K0 l i with born := n }) := by
  have : (l.map cK).getD i [] = cK (nth K0 l i) := by rw [zm K0 l i h, List.getD_eq_getElem?_getD]; simp [h]
  unfold wrs wrs wr encK
  rw [List.map_set, this]; rfl
theorem wrK2 (l : List Kept) (i : Nat) (x : Bs) (r : List Bs) (h : i < l.length) : wrs (encK l) i 2 [.s x, .l (encS r)] = encK (l.set i ⟨(nth K0 l i).sum, (nth K0 l i).born, ⟨x, r⟩⟩) := by
  have : (l.map cK).getD i [] = cK (nth K0 l i) := by rw [zm K0 l i h, List.getD_eq_getElem?_getD]; simp [h]
  unfold wrs wrs wrs wr encK
  rw [this, List.map_set, List.getD_eq_getElem?_getD, List.getElem?_set_self (by simpa using h), List.set_set]; rfl
theorem wrL (l : List Lease) (i o : Nat) (n : Int) (h : i < l.length) (L' : Lease) (he : setAt (cL (nth L0 l i)) o (.i n) = cL L') : wrs (encL l) i o [.i n] = encL (l.set i L') := by
  have : (l.map cL).getD i [] = cL (nth L0 l i) := by rw [zm L0 l i h, List.getD_eq_getElem?_getD]; simp [h]
  unfold wrs wrs wr encL
  rw [List.map_set, this, ← he]
def GS (s : State) : Prop := VS s ∨ s = ⟨0, 0, 0, 0, [], [], []⟩
theorem GS.bs {s : State} (h : GS s) : BS s := by
  rcases h with h | rfl
  · exact h.bs
  · exact ⟨Nat.zero_le _, Nat.zero_le _, Nat.zero_le _, (fun k hk => nomatch hk), (fun k hk => nomatch hk), by simp⟩
theorem GS.th {s : State} (h : GS s) : s.things.length ≤ 600 ∧ s.pins.length ≤ 100 ∧ s.leases.length ≤ 200 ∧ ∀ k ∈ s.things, 1 + szs k.thing.refs + k.thing.text.size ≤ 2241 ∧ k.thing.refs.length ≤ 30 ∧ k.thing.text.size ≤ 2000 ∧ ∀ r ∈ k.thing.refs, r.size ≤ 8 := by
  rcases h with h | rfl
  · refine ⟨h.nT, h.nP, h.nL, fun k hk => ?_⟩
    have h1 := (h.okT k hk).1; have h2 := zbj h1
    exact ⟨h2.1, h2.2, h1.text, fun r hr => by have := h1.size r hr; have := h.wd; omega⟩
  · exact ⟨Nat.zero_le _, Nat.zero_le _, Nat.zero_le _, fun k hk => nomatch hk⟩
theorem GS.now {s : State} (h : GS s) : (0 ≤ s.now ∧ s.now ≤ 1000000000) ∧ (0 ≤ s.given ∧ s.given ≤ 1000000000) ∧ (0 ≤ s.births ∧ s.births ≤ 1000000000) ∧ (0 ≤ s.width ∧ s.width ≤ 8) := by
  rcases h with h | rfl
  · have := h.wd; exact ⟨h.now, h.given, h.births, by omega⟩
  · simp
theorem MT.size' {k : Kept} (h : MT k) : 1 + szs k.thing.refs + k.thing.text.size ≤ 1000000 ∧ k.thing.refs.length ≤ 40 ∧ k.thing.text.size ≤ 3000 := by
  have h1 := zf4 h.size; have h2 := h.refs; have h3 := h.text
  have : k.thing.refs.length * 8 ≤ 8 := by omega
  omega
def l3 : Rw := [[.i (-1)], [.i 1000000000], [.i 1000000001]]
def l5 : Rw := [[.i (-1)], [.i 0], [.i 1], [.i 1000000000], [.i 1000000001]]
def l4 : Rw := [[.i (-1)], [.i 0], [.i 1000000000], [.i 1000000001]]
theorem zn8 (n : Nat) (h : n < 3) : -1 ≤ (rd l3 n 0).int ∧ (rd l3 n 0).int ≤ 1000000001 := by
  match n, h with
  | 0, _ => exact ⟨by show (-1 : Int) ≤ -1; omega, by show (-1 : Int) ≤ 1000000001; omega⟩
  | 1, _ => exact ⟨by show (-1 : Int) ≤ 1000000000; omega, by show (1000000000 : Int) ≤ 1000000001; omega⟩
  | 2, _ => exact ⟨by show (-1 : Int) ≤ 1000000001; omega, by show (1000000001 : Int) ≤ 1000000001; omega⟩
theorem zvb (n : Nat) (h : n < 4) : -1 ≤ (rd l4 n 0).int ∧ (rd l4 n 0).int ≤ 1000000001 := by
  match n, h with
  | 0, _ => exact ⟨by show (-1 : Int) ≤ -1; omega, by show (-1 : Int) ≤ 1000000001; omega⟩
  | 1, _ => exact ⟨by show (-1 : Int) ≤ 0; omega, by show (0 : Int) ≤ 1000000001; omega⟩
  | 2, _ => exact ⟨by show (-1 : Int) ≤ 1000000000; omega, by show (1000000000 : Int) ≤ 1000000001; omega⟩
  | 3, _ => exact ⟨by show (-1 : Int) ≤ 1000000001; omega, by show (1000000001 : Int) ≤ 1000000001; omega⟩
theorem zpv (n : Nat) (h : n < 5) : -1 ≤ (rd l5 n 0).int ∧ (rd l5 n 0).int ≤ 1000000001 := by
  match n, h with
  | 0, _ => exact ⟨by show (-1 : Int) ≤ -1; omega, by show (-1 : Int) ≤ 1000000001; omega⟩
  | 1, _ => exact ⟨by show (-1 : Int) ≤ 0; omega, by show (0 : Int) ≤ 1000000001; omega⟩
  | 2, _ => exact ⟨by show (-1 : Int) ≤ 1; omega, by show (1 : Int) ≤ 1000000001; omega⟩
  | 3, _ => exact ⟨by show (-1 : Int) ≤ 1000000000; omega, by show (1000000000 : Int) ≤ 1000000001; omega⟩
  | 4, _ => exact ⟨by show (-1 : Int) ≤ 1000000001; omega, by show (1000000001 : Int) ≤ 1000000001; omega⟩
end KV
end
section
namespace KV
open Go Go.Eng
open Classical
def nm4 : Rw := [[.s (⟨#[112]⟩ : ByteArray)], [.s (⟨#[122]⟩ : ByteArray)], [.s (⟨#[]⟩ : ByteArray)], [.s (⟨#[120, 32, 121]⟩ : ByteArray)]]
def nm2 : Rw := [[.s (⟨#[97]⟩ : ByteArray)], [.s (⟨#[122]⟩ : ByteArray)]]
def h4 : Rw := [[.i 0], [.i 1], [.i 100000], [.i 100001]]
theorem zst (i : Nat) : ((rd nm4 i 0).str).size ≤ 3 := by
  match i with
  | 0 => exact (by show (1 : Nat) ≤ 3; omega)
  | 1 => exact (by show (1 : Nat) ≤ 3; omega)
  | 2 => exact Nat.zero_le _
  | 3 => exact Nat.le_refl _
  | n + 4 => exact Nat.zero_le _
theorem zrx (i : Nat) : ((rd nm2 i 0).str).size ≤ 3 := by
  match i with
  | 0 => exact (by show (1 : Nat) ≤ 3; omega)
  | 1 => exact (by show (1 : Nat) ≤ 3; omega)
  | n + 2 => exact Nat.zero_le _
theorem zt5 (n : Nat) (h : n < 4) : 0 ≤ (rd h4 n 0).int ∧ (rd h4 n 0).int ≤ 100001 := by
  match n, h with
  | 0, _ => exact ⟨by show (0 : Int) ≤ 0; omega, by show (0 : Int) ≤ 100001; omega⟩
  | 1, _ => exact ⟨by show (0 : Int) ≤ 1; omega, by show (1 : Int) ≤ 100001; omega⟩
  | 2, _ => exact ⟨by show (0 : Int) ≤ 100000; omega, by show (100000 : Int) ≤ 100001; omega⟩
  | 3, _ => exact ⟨by show (0 : Int) ≤ 100001; omega, by show (100001 : Int) ≤ 100001; omega⟩
def spO (s : State) (b : Rw) (p : Int) : Lv := [.i s.width, .i s.now, .i s.given, .i s.births, .l b, .i p, .l (encK s.things), .l (encP s.pins), .l (encL s.leases)]
theorem ztz {α : Type} {c c' : Bool} {a b : α} (h : c = c') : cond c a b = cond c' a b := by rw [h]
theorem zsq {α β : Type} {x y : Option α} {f : α → Option β} (h : x = y) : x.bind f = y.bind f := by rw [h]
attribute [local congr] ztz zsq
set_option maxHeartbeats 8000000 in
theorem zss {b : Rw} (hb : RB b) {s : State} (h : GS s) (p : Int) (hp : 0 ≤ p ∧ p ≤ 900000000) : ∃ (s' : State) (p' : Int), Lqdh none (encSt s ++ [.l b, .i p]) = some (spO s' b p') ∧ p ≤ p' ∧ p' ≤ p + 30 ∧ BS s' ∧ (VS s → Cut s s') := by
  show ∃ (s' : State) (p' : Int), Lqdh none [.i s.width, .i s.now, .i s.given, .i s.births, .l (encK s.things), .l (encP s.pins), .l (encL s.leases), .l b, .i p] = _ ∧ _
  obtain ⟨n1, n2, n3, hk⟩ := h.th
  obtain ⟨i1, i2, i3, i4⟩ := h.now
  have B := h.bs
  have hcp := zcv s.width s.now s.given s.births s.things (encP s.pins) (encL s.leases) (by omega) (fun k hk2 => by have := hk k hk2; omega) (by rw [zbx]; omega) (by rw [zb2]; omega)
  obtain ⟨x, ex, rx, sx⟩ := zk hb (s.things.length : Int) (by omega) p (by omega)
  obtain ⟨c, ec, rc, sc⟩ := zk hb 12 (by omega) (p + 1) (by omega)
  rw [eqdh_i, hcp, mostE]
  by_cases c0 : c = 0
  · obtain ⟨y, ey, ry, sy⟩ := zk hb 11 (by omega) (p + 1 + 1) (by omega)
    refine ⟨{ s with width := y - 1 }, p + 1 + 1 + 1, ?_, by omega, by omega, ⟨B.nT, B.nP, B.nL, B.t, B.nm, ⟨by simp only; omega, B.ints.2⟩⟩, fun _ => Cut.same rfl⟩
    simp (disch := omega) only [push_cast, ex, ec, ey]; rfl
  by_cases c1 : c = 1
  · obtain ⟨y, ey, ry, sy⟩ := zk hb 3 (by omega) (p + 1 + 1) (by omega)
    have hr := zn8 y.toNat (by omega)
    refine ⟨{ s with now := (rd l3 y.toNat 0).int }, p + 1 + 1 + 1, ?_, by omega, by omega, ⟨B.nT, B.nP, B.nL, B.t, B.nm, ⟨B.ints.1, by simp only; omega, B.ints.2.2⟩⟩, fun _ => Cut.same rfl⟩
    simp (disch := omega) only [push_cast, ex, ec, ey]; rfl
  by_cases c2 : c = 2
  · obtain ⟨y, ey, ry, sy⟩ := zk hb 5 (by omega) (p + 1 + 1) (by omega)
    have hr := zpv y.toNat (by omega)
    refine ⟨{ s with births := (rd l5 y.toNat 0).int }, p + 1 + 1 + 1, ?_, by omega, by omega, ⟨B.nT, B.nP, B.nL, B.t, B.nm, ⟨B.ints.1, B.ints.2.1, B.ints.2.2.1, by simp only; omega⟩⟩, fun _ => Cut.same rfl⟩
    simp (disch := omega) only [push_cast, ex, ec, ey]; rfl
  by_cases c3 : c = 3
  · obtain ⟨y, ey, ry, sy⟩ := zk hb 4 (by omega) (p + 1 + 1) (by omega)
    have hr := zvb y.toNat (by omega)
    refine ⟨{ s with given := (rd l4 y.toNat 0).int }, p + 1 + 1 + 1, ?_, by omega, by omega, ⟨B.nT, B.nP, B.nL, B.t, B.nm, ⟨B.ints.1, B.ints.2.1, by simp only; omega, B.ints.2.2.2⟩⟩, fun _ => Cut.same rfl⟩
    simp (disch := omega) only [push_cast, ex, ec, ey]; rfl
  have stay : ∃ (s' : State) (p' : Int), some (spO s b (p + 1 + 1)) = some (spO s' b p') ∧ p ≤ p' ∧ p' ≤ p + 30 ∧ BS s' ∧ (VS s → Cut s s') := ⟨s, p + 1 + 1, rfl, by omega, by omega, B, fun _ => Cut.refl s⟩
  by_cases c4 : c = 4
  · by_cases h0 : 0 < s.things.length
    rotate_left
    · refine ⟨s, p + 1 + 1, ?_, by omega, by omega, B, fun _ => Cut.refl s⟩
      simp (disch := omega) only [push_cast, ex, ec]; rfl
    obtain ⟨j, hj⟩ : ∃ j : Nat, x = j := ⟨x.toNat, by omega⟩
    have hjl : j < s.things.length := by omega
    have hkj := hk _ (zi (d := K0) hjl)
    obtain ⟨t', p', e, h1, h2, hs⟩ := zlw hb (nth K0 s.things j).thing (by omega) (p + 1 + 1) (by omega)
    have hw := wrK2 s.things j t'.text t'.refs hjl
    refine ⟨{ s with things := s.things.set j ⟨(nth K0 s.things j).sum, (nth K0 s.things j).born, t'⟩ }, p', ?_, by omega, by omega, ⟨by simp only [List.length_set]; omega, B.nP, B.nL, fun k hk2 => ?_, B.nm, B.ints⟩, fun V => Cut.spoil V j ⟨(nth K0 s.things j).sum, (nth K0 s.things j).born, t'⟩ hjl rfl hs⟩
    · simp (disch := omega) only [push_cast, ex, ec, hj, e, hw]; rfl
    · rcases List.mem_or_eq_of_mem_set hk2 with h3 | h3
      · exact B.t k h3
      · rw [h3]
        cases hs with
        | text hr hz => simp only; rw [hr]; omega
        | more r ht hr hz =>
          have hrs : r.size ≤ 8 := by
            rcases hz with h | h
            · omega
            · exact hkj.2.2.2 r h
          have q1 : szs [r] = r.size := by simp [szs]
          have q2 : [r].length = 1 := rfl
          simp only; rw [ht, hr, zlf, List.length_append, q1, q2]; omega
        | ones ht hr hn => have := zf4 hr; simp only; rw [ht]; omega
  by_cases c5 : c = 5
  · by_cases h0 : 1 < s.things.length
    rotate_left
    · refine ⟨s, p + 1 + 1, ?_, by omega, by omega, B, fun _ => Cut.refl s⟩
      simp (disch := omega) only [push_cast, ex, ec]; rfl
    have hw := wrK1 s.things 0 (nth K0 s.things 1).born (by omega)
    refine ⟨{ s with things := s.things.set 0 { nth K0 s.things 0 with born := (nth K0 s.things 1).born } }, p + 1 + 1, ?_, by omega, by omega, ⟨by simp only [List.length_set]; omega, B.nP, B.nL, fun k hk2 => ?_, B.nm, B.ints⟩, fun V => Cut.spoil V 0 { nth K0 s.things 0 with born := (nth K0 s.things 1).born } (by omega) rfl (.text rfl (.inr (Nat.le_succ _)))⟩
    · simp (disch := omega) only [push_cast, ex, ec, hw]; rfl
    · rcases List.mem_or_eq_of_mem_set hk2 with h3 | h3
      · exact B.t k h3
      · rw [h3]; exact B.t (nth K0 s.things 0) (zi (d := K0) (by omega))
  by_cases c6 : c = 6
  · by_cases h0 : 0 < s.things.length
    rotate_left
    · refine ⟨s, p + 1 + 1, ?_, by omega, by omega, B, fun _ => Cut.refl s⟩
      simp (disch := omega) only [push_cast, ex, ec]; rfl
    obtain ⟨j, hj⟩ : ∃ j : Nat, x = j := ⟨x.toNat, by omega⟩
    have hjl : j < s.things.length := by omega
    have a1 : Eng.sub (encK s.things) 0 j = encK (s.things.take j) := by rw [zb8]; simp
    have a2 : Eng.sub (encK s.things) (j + 1) s.things.length = encK (s.things.drop (j + 1)) := by rw [zb8, List.take_of_length_le (by rw [List.length_drop]; exact Nat.le_refl _)]
    have b1 : (s.things.take j).length = j := by rw [List.length_take]; omega
    have b2 : (s.things.drop (j + 1)).length = s.things.length - (j + 1) := List.length_drop
    have hin : ∀ k ∈ s.things.take j ++ s.things.drop (j + 1), k ∈ s.things := fun k hk2 => (List.mem_append.1 hk2).elim List.mem_of_mem_take List.mem_of_mem_drop
    refine ⟨{ s with things := s.things.take j ++ s.things.drop (j + 1) }, p + 1 + 1, ?_, by omega, by omega, ⟨by simp only [List.length_append]; omega, B.nP, B.nL, fun k hk2 => B.t k (hin k hk2), B.nm, B.ints⟩, fun V => Cut.uni V.uni fun k hk2 => V.uni k (hin k hk2)⟩
    have c1' : (encK (s.things.take j)).length = j := by rw [zcu]; exact b1
    have c2' : (encK (s.things.drop (j + 1))).length = s.things.length - (j + 1) := by rw [zcu]; exact b2
    simp (disch := omega) only [push_cast, ex, ec, hj, a1, a2, List.nil_append, c1', c2', List.length_append]
    rw [zbc]; rfl
  by_cases c7 : c = 7
  · obtain ⟨y, ey, ry, sy⟩ := zk hb 4 (by omega) (p + 1 + 1) (by omega)
    have hnm : ((rd nm4 y.toNat 0).str).size ≤ 3 := zst _
    refine ⟨{ s with pins := s.pins ++ [⟨(rd nm4 y.toNat 0).str, sumM ⟨#[113]⟩ s.width⟩] }, p + 1 + 1 + 1, ?_, by omega, by omega, ⟨B.nT, by simp; omega, B.nL, B.t, fun q hq => ?_, B.ints⟩, fun _ => Cut.same rfl⟩
    · have hsu := zbr (⟨#[113]⟩ : ByteArray) s.width (by show (1 : Nat) ≤ 1099511627776; omega)
      simp (disch := omega) only [push_cast, ex, ec, ey, hsu]
      rw [zej, zcg]; rfl
    · rcases List.mem_append.1 hq with h1 | h1
      · exact B.nm q h1
      · rw [List.mem_singleton] at h1; rw [h1]; simp only; omega
  by_cases c8 : c = 8
  · by_cases h0 : 0 < s.things.length
    rotate_left
    · refine ⟨s, p + 1 + 1, ?_, by omega, by omega, B, fun _ => Cut.refl s⟩
      simp (disch := omega) only [push_cast, ex, ec]; rfl
    obtain ⟨j, hj⟩ : ∃ j : Nat, x = j := ⟨x.toNat, by omega⟩
    have hjl : j < s.things.length := by omega
    obtain ⟨y, ey, ry, sy⟩ := zk hb 2 (by omega) (p + 1 + 1) (by omega)
    have hnm : ((rd nm2 y.toNat 0).str).size ≤ 3 := zrx _
    refine ⟨{ s with pins := s.pins ++ [⟨(rd nm2 y.toNat 0).str, (nth K0 s.things j).sum⟩] }, p + 1 + 1 + 1, ?_, by omega, by omega, ⟨B.nT, by simp; omega, B.nL, B.t, fun q hq => ?_, B.ints⟩, fun _ => Cut.same rfl⟩
    · simp (disch := omega) only [push_cast, ex, ec, ey, hj]
      rw [zej, zcg]; rfl
    · rcases List.mem_append.1 hq with h1 | h1
      · exact B.nm q h1
      · rw [List.mem_singleton] at h1; rw [h1]; simp only; omega
  by_cases c9 : c = 9
  · by_cases h0 : 0 < s.leases.length
    rotate_left
    · refine ⟨s, p + 1 + 1, ?_, by omega, by omega, B, fun _ => Cut.refl s⟩
      simp (disch := omega) only [push_cast, ex, ec]; rfl
    obtain ⟨y, ey, ry, sy⟩ := zk hb 4 (by omega) (p + 1 + 1) (by omega)
    have hr := zt5 y.toNat (by omega)
    have hw := wrL s.leases 0 2 (s.now + (rd h4 y.toNat 0).int) h0 { nth L0 s.leases 0 with till := s.now + (rd h4 y.toNat 0).int } rfl
    refine ⟨{ s with leases := s.leases.set 0 { nth L0 s.leases 0 with till := s.now + (rd h4 y.toNat 0).int } }, p + 1 + 1 + 1, ?_, by omega, by omega, ⟨B.nT, B.nP, by simp; omega, B.t, B.nm, B.ints⟩, fun _ => Cut.same rfl⟩
    unfold h4 at hw hr ⊢
    simp (disch := omega) only [push_cast, ex, ec, ey, hw]; rfl
  by_cases c10 : c = 10
  · by_cases h0 : 0 < s.leases.length
    rotate_left
    · refine ⟨s, p + 1 + 1, ?_, by omega, by omega, B, fun _ => Cut.refl s⟩
      simp (disch := omega) only [push_cast, ex, ec]; rfl
    obtain ⟨y, ey, ry, sy⟩ := zk hb 3 (by omega) (p + 1 + 1) (by omega)
    have hw := wrL s.leases 0 0 (rd ([[.i 0], [.i s.given], [.i (s.given + 1)]] : Rw) y.toNat 0).int h0 { nth L0 s.leases 0 with number := (rd ([[.i 0], [.i s.given], [.i (s.given + 1)]] : Rw) y.toNat 0).int } rfl
    refine ⟨{ s with leases := s.leases.set 0 { nth L0 s.leases 0 with number := (rd ([[.i 0], [.i s.given], [.i (s.given + 1)]] : Rw) y.toNat 0).int } }, p + 1 + 1 + 1, ?_, by omega, by omega, ⟨B.nT, B.nP, by simp; omega, B.t, B.nm, B.ints⟩, fun _ => Cut.same rfl⟩
    simp (disch := omega) only [push_cast, ex, ec, ey, hw]; rfl
  · obtain ⟨y, ey, ry, sy⟩ := zk hb 2 (by omega) (p + 1 + 1) (by omega)
    obtain ⟨z, ez, rz, sz⟩ := zk hb 2 (by omega) (p + 1 + 1 + 1) (by omega)
    obtain ⟨n, hn⟩ : ∃ n : Nat, 600 + y = n := ⟨(600 + y).toNat, by omega⟩
    obtain ⟨T', e, h1, h2⟩ := zsf n (by omega) (decide (z = 0))
    refine ⟨⟨8, 0, 0, (n : Int), T', [], []⟩, p + 1 + 1 + 1 + 1, ?_, by omega, by omega, ⟨by simp only; omega, Nat.zero_le _, Nat.zero_le _, fun k hk2 => (h2 k hk2).size', (fun q hq => nomatch hq), by simp only; omega⟩, fun V => Cut.uni V.uni fun k hk2 => (h2 k hk2).size⟩
    simp (disch := omega) only [push_cast, ex, ec, ey, ez, hn, e]; rfl
end KV
end
section
namespace KV
open Go Go.Eng
open Classical
theorem GV.gs {v : Vault} (h : GV v) : GS v.st := by
  rcases h with h | rfl
  · exact .inl h.vs.1
  · exact .inr rfl
end KV
end
section
namespace KV
open Go Go.Eng
open Classical
theorem zov {s : State} (hN : ∀ p ∈ s.pins, p.name.size ≤ 4611686018427387904) (r : Round) : Lqdi none (encSt s ++ encR r) = some [.b (decide (VS s ∧ RoundOk s.width s.births r))] := by
  show Lqdi none [.i s.width, .i s.now, .i s.given, .i s.births, .l (encK s.things), .l (encP s.pins), .l (encL s.leases), .i r.phase, .l (encS r.queue), .l (encS r.marked), .i r.top, .i r.at_, .i r.rounds] = _
  have h1 := zsj s hN
  unfold encSt at h1
  rw [eqdi_i, h1]
  by_cases V : VS s
  · have h2 := znf s r V.births
    have h2' : Lqr none [.i s.width, .i s.now, .i s.given, .i s.births, .l (encK s.things), .l (encP s.pins), .l (encL s.leases), .i r.phase, .l (encS r.queue), .l (encS r.marked), .i r.top, .i r.at_, .i r.rounds] = _ := h2
    rw [decide_eq_true V]
    simp (disch := omega) only [push_cast, h2']
    congr 3
    exact decide_eq_decide.2 ⟨fun h => ⟨V, h⟩, fun h => h.2⟩
  · rw [decide_eq_false V, decide_eq_false (p := VS s ∧ RoundOk s.width s.births r) fun h => V h.1]; simp (disch := omega) only [push_cast]
def encUN (s : State) (u : Round × Bs) : Lv := [.i 0, .i s.width, .i s.now, .i s.given, .i s.births, .i u.1.phase, .l (encS u.1.queue), .l (encS u.1.marked), .i u.1.top, .i u.1.at_, .i u.1.rounds, .l (encK s.things), .l (encP s.pins), .l (encL s.leases), .l (encS (oneD u.2))]
def unNo : Lv := [.i 1, .i 0, .i 0, .i 0, .i 0, .i 0, .l [], .l [], .i 0, .i 0, .i 0, .l [], .l [], .l [], .l []]
theorem zt3 {s : State} (hN : ∀ p ∈ s.pins, p.name.size ≤ 4611686018427387904) (r : Round) : Lqdj none (encSt s ++ encR r) = some (if VS s ∧ RoundOk s.width s.births r ∧ r.rounds < 1000000000 then encUN (zl s (unitM s r).2) (unitM s r) else unNo) := by
  have hv := zov hN r
  have hv' : Lqdi none [.i s.width, .i s.now, .i s.given, .i s.births, .l (encK s.things), .l (encP s.pins), .l (encL s.leases), .i r.phase, .l (encS r.queue), .l (encS r.marked), .i r.top, .i r.at_, .i r.rounds] = _ := hv
  show Lqdj none [.i s.width, .i s.now, .i s.given, .i s.births, .l (encK s.things), .l (encP s.pins), .l (encL s.leases), .i r.phase, .l (encS r.queue), .l (encS r.marked), .i r.top, .i r.at_, .i r.rounds] = _
  rw [eqdj_i, hv']
  by_cases c : VS s ∧ RoundOk s.width s.births r
  rotate_left
  · rw [decide_eq_false c, if_neg fun h => c ⟨h.1, h.2.1⟩]; simp (disch := omega) only [push_cast]; rfl
  obtain ⟨V, hr⟩ := c
  by_cases c2 : r.rounds < 1000000000
  rotate_left
  · rw [decide_eq_true (p := VS s ∧ RoundOk s.width s.births r) ⟨V, hr⟩, if_neg fun h => c2 h.2.2]; simp (disch := omega) only [push_cast]; rfl
  have n1 := V.nT; have n2 := V.nP; have n3 := V.nL; have hq := hr.nQ; have hm := hr.nM
  have V' := zh3 (r := r) V
  have m1 := V'.nT; have m2 := V'.nP; have m3 := V'.nL
  have hc4 := zcv s.width s.now s.given s.births s.things (encP s.pins) (encL s.leases) (by omega) (zb0 V) (by rw [zbx]; omega) (by rw [zb2]; omega)
  have hu := zmg V hr c2
  have hu' : Lqbh none [.i s.width, .i s.now, .i s.given, .i s.births, .l (encK s.things), .l (encP s.pins), .l (encL s.leases), .i r.phase, .l (encS r.queue), .l (encS r.marked), .i r.top, .i r.at_, .i r.rounds] = _ := hu
  have hcr := zfl r (by omega) (by omega)
  have hcr' : Lqbg none [.i r.phase, .l (encS r.queue), .l (encS r.marked), .i r.top, .i r.at_, .i r.rounds] = some [.i r.phase, .i r.top, .i r.at_, .i r.rounds, .l (encS r.queue), .l (encS r.marked)] := hcr
  rw [decide_eq_true (p := VS s ∧ RoundOk s.width s.births r) ⟨V, hr⟩, if_pos ⟨V, hr, c2⟩]
  have hc5 := zcv (zl s (unitM s r).2).width (zl s (unitM s r).2).now (zl s (unitM s r).2).given (zl s (unitM s r).2).births (zl s (unitM s r).2).things (encP (zl s (unitM s r).2).pins) (encL (zl s (unitM s r).2).leases) (by omega) (zb0 V') (by rw [zbx]; omega) (by rw [zb2]; omega)
  unfold encUn at hu'
  simp (disch := omega) only [push_cast, hc4, hcr', hu', hc5]
  rfl
def spR (r : Round) (b : Rw) (p : Int) : Lv := [.i r.phase, .i r.top, .i r.at_, .i r.rounds, .l b, .i p, .l (encS r.queue), .l (encS r.marked)]
structure BR (r : Round) : Prop where
  q : r.queue.length ≤ 24000
  m : r.marked.length ≤ 1000
  ints : (-1 ≤ r.phase ∧ r.phase ≤ 5) ∧ (-1 ≤ r.top ∧ r.top ≤ 1000000001) ∧ (-1 ≤ r.at_ ∧ r.at_ ≤ 1000000003) ∧ (-1 ≤ r.rounds ∧ r.rounds ≤ 1000000001)
structure IR (r : Round) : Prop where
  q : r.queue.length ≤ 23200
  m : r.marked.length ≤ 600
  ints : (0 ≤ r.phase ∧ r.phase ≤ 2) ∧ (0 ≤ r.top ∧ r.top ≤ 1000000000) ∧ (0 ≤ r.at_ ∧ r.at_ ≤ 1000000001) ∧ (0 ≤ r.rounds ∧ r.rounds ≤ 1000000000)
theorem IR.br {r : Round} (h : IR r) : BR r := by
  obtain ⟨a, b, c, d⟩ := h.ints
  exact ⟨by have := h.q; omega, by have := h.m; omega, by omega, by omega, by omega, by omega⟩
theorem VV.ir {v : Vault} (V : VV v) : IR v.rd := by
  have hb := V.vs.1.births
  refine ⟨V.rd.nQ, V.rd.nM, V.rd.ph, ?_, ?_, V.rd.rds⟩
  · by_cases h0 : v.rd.phase = 0
    · have := (V.rd.rest h0).2.2.1; omega
    · have := V.rd.go h0; omega
  · by_cases h0 : v.rd.phase = 0
    · have := (V.rd.rest h0).2.2.2; omega
    · have := V.rd.go h0; omega
theorem R0_ir : IR R0 := ⟨Nat.zero_le _, Nat.zero_le _, by unfold R0; simp⟩
theorem GV.ir {v : Vault} (h : GV v) : IR v.rd := by
  rcases h with h | rfl
  · exact h.ir
  · exact R0_ir
section
variable (s : State) (r : Round) (b : Rw) (p : Int)
theorem zsz : ∀ (m i : Nat) (M : List Bs), 600 - M.length = m → i ≤ M.length → M.length ≤ 600 →
    ∃ M', Lq4 (some 10) [.i (i : Int), .l b, .i p, .i s.width, .i s.now, .i s.given, .i s.births, .l (encK s.things), .l (encP s.pins), .l (encL s.leases), .i 0, .i 0, .i 0, .i 0, .i r.phase, .i r.top, .i r.at_, .i r.rounds, .l [], .l [], .l (encS r.queue), .l (encS M)] = some (spR { r with marked := M' } b p) ∧ M'.length ≤ 600 := by
  intro m
  induction m with
  | zero =>
    intro i M hm hi hM
    exact ⟨M, by rw [eq4_10]; simp (disch := omega) only [push_cast]; rfl, hM⟩
  | succ m ih =>
    intro i M hm hi hM
    cases hw : zj s.width
    · exact ⟨M, by rw [eq4_10]; simp (disch := omega) only [push_cast, zq, hw]; rfl, hM⟩
    · obtain ⟨x, ex, hx1, hx2⟩ := zhx (i : Int) (by omega)
      have h5 : (⟨#[102, 117, 108, 108, 32]⟩ : ByteArray).size = 5 := rfl
      have hsz : ((⟨#[102, 117, 108, 108, 32]⟩ : ByteArray) ++ x).size ≤ 1099511627776 := by rw [z5, h5]; omega
      have hsu := zbr ((⟨#[102, 117, 108, 108, 32]⟩ : ByteArray) ++ x) s.width hsz
      obtain ⟨M', e, h1⟩ := ih (i + 1) (M ++ [sumM ((⟨#[102, 117, 108, 108, 32]⟩ : ByteArray) ++ x) s.width]) (by simp; omega) (by simp; omega) (by simp; omega)
      refine ⟨M', ?_, h1⟩
      rw [← zn] at e
      rw [eq4_10, mostE]
      simp (disch := omega) only [push_cast, zq, hw, ex, h5, hsu]
      exact e
theorem zoe (n : Nat) (hn : n ≤ 23201) (hT : 0 < s.things.length) : ∀ (m : Nat) (Q : List Bs), n - Q.length = m → Q.length ≤ 23201 →
    ∃ Q', Lq4 (some 28) [.i (n : Int), .l b, .i p, .i s.width, .i s.now, .i s.given, .i s.births, .l (encK s.things), .l (encP s.pins), .l (encL s.leases), .i 0, .i 0, .i 0, .i 0, .i r.phase, .i r.top, .i r.at_, .i r.rounds, .l [], .l [], .l (encS Q), .l (encS r.marked)] = some (spR { r with queue := Q' } b p) ∧ Q'.length ≤ 23201 := by
  intro m
  induction m with
  | zero =>
    intro Q hm hQ
    exact ⟨Q, by rw [eq4_28]; simp (disch := omega) only [push_cast]; rfl, hQ⟩
  | succ m ih =>
    intro Q hm hQ
    obtain ⟨Q', e, h1⟩ := ih (Q ++ [(nth K0 s.things 0).sum]) (by simp; omega) (by simp; omega)
    refine ⟨Q', ?_, h1⟩
    rw [← zn] at e
    rw [eq4_28, mostE]
    simp (disch := omega) only [push_cast]
    exact e
end
def ro4 : Rw := [[.i (-1)], [.i 1000000000], [.i 999999999], [.i 1000000001]]
theorem zo6 (n : Nat) (h : n < 4) : -1 ≤ (rd ro4 n 0).int ∧ (rd ro4 n 0).int ≤ 1000000001 := by
  match n, h with
  | 0, _ => exact ⟨by show (-1 : Int) ≤ -1; omega, by show (-1 : Int) ≤ 1000000001; omega⟩
  | 1, _ => exact ⟨by show (-1 : Int) ≤ 1000000000; omega, by show (1000000000 : Int) ≤ 1000000001; omega⟩
  | 2, _ => exact ⟨by show (-1 : Int) ≤ 999999999; omega, by show (999999999 : Int) ≤ 1000000001; omega⟩
  | 3, _ => exact ⟨by show (-1 : Int) ≤ 1000000001; omega, by show (1000000001 : Int) ≤ 1000000001; omega⟩
def at5 (t : Int) : Rw := [[.i 0], [.i 1], [.i t], [.i (t + 1)], [.i (t + 2)]]
theorem zsg (t : Int) (ht : 0 ≤ t ∧ t ≤ 1000000000) (n : Nat) (h : n < 5) : -1 ≤ (rd (at5 t) n 0).int ∧ (rd (at5 t) n 0).int ≤ 1000000003 := by
  match n, h with
  | 0, _ => exact ⟨by show (-1 : Int) ≤ 0; omega, by show (0 : Int) ≤ 1000000003; omega⟩
  | 1, _ => exact ⟨by show (-1 : Int) ≤ 1; omega, by show (1 : Int) ≤ 1000000003; omega⟩
  | 2, _ => exact ⟨by show (-1 : Int) ≤ t; omega, by show t ≤ 1000000003; omega⟩
  | 3, _ => exact ⟨by show (-1 : Int) ≤ t + 1; omega, by show t + 1 ≤ 1000000003; omega⟩
  | 4, _ => exact ⟨by show (-1 : Int) ≤ t + 2; omega, by show t + 2 ≤ 1000000003; omega⟩
def to4 (t : Int) : Rw := [[.i (-1)], [.i 0], [.i t], [.i (t + 1)]]
theorem zoc (t : Int) (ht : 0 ≤ t ∧ t ≤ 1000000000) (n : Nat) (h : n < 4) : -1 ≤ (rd (to4 t) n 0).int ∧ (rd (to4 t) n 0).int ≤ 1000000001 := by
  match n, h with
  | 0, _ => exact ⟨by show (-1 : Int) ≤ -1; omega, by show (-1 : Int) ≤ 1000000001; omega⟩
  | 1, _ => exact ⟨by show (-1 : Int) ≤ 0; omega, by show (0 : Int) ≤ 1000000001; omega⟩
  | 2, _ => exact ⟨by show (-1 : Int) ≤ t; omega, by show t ≤ 1000000001; omega⟩
  | 3, _ => exact ⟨by show (-1 : Int) ≤ t + 1; omega, by show t + 1 ≤ 1000000001; omega⟩
set_option maxHeartbeats 2000000 in
theorem ztd {b : Rw} (hb : RB b) (s : State) (hs : 0 ≤ s.births ∧ s.births ≤ 1000000000) {r : Round} (h : IR r) (p : Int) (hp : 0 ≤ p ∧ p ≤ 900000010) :
    ∃ (r' : Round) (p' : Int), Lq4 (some 6) [.l b, .i p, .i s.width, .i s.now, .i s.given, .i s.births, .l (encK s.things), .l (encP s.pins), .l (encL s.leases), .i 0, .i 0, .i 0, .i 0, .i r.phase, .i r.top, .i r.at_, .i r.rounds, .l (encS r.queue), .l (encS r.marked), .l [], .l []] = some (spR r' b p') ∧ p ≤ p' ∧ p' ≤ p + 10 ∧ BR r' := by
  obtain ⟨i1, i2, i3, i4⟩ := h.ints
  have hq := h.q; have hm := h.m
  have B := h.br
  obtain ⟨c, ec, rc, sc⟩ := zk hb 9 (by omega) p (by omega)
  rw [eq4_6, ec, mostE]
  by_cases c7 : c = 7
  · obtain ⟨M', e, h1⟩ := zsz s r b (p + 1) (600 - r.marked.length) 0 r.marked rfl (Nat.zero_le _) hm
    refine ⟨{ r with marked := M' }, p + 1, ?_, by omega, by omega, ⟨B.q, by simp only; omega, B.ints⟩⟩
    simp (disch := omega) only [push_cast]
    exact e
  by_cases c0 : c = 0
  · obtain ⟨y, ey, ry, sy⟩ := zk hb 5 (by omega) (p + 1) (by omega)
    refine ⟨{ r with phase := y - 1 }, p + 1 + 1, ?_, by omega, by omega, ⟨B.q, B.m, by simp only; omega, B.ints.2⟩⟩
    simp (disch := omega) only [push_cast, ey]; rfl
  by_cases c1 : c = 1
  · obtain ⟨y, ey, ry, sy⟩ := zk hb 5 (by omega) (p + 1) (by omega)
    have hr := zsg r.top i2 y.toNat (by omega)
    unfold at5 at hr
    refine ⟨{ r with at_ := (rd ([[.i 0], [.i 1], [.i r.top], [.i (r.top + 1)], [.i (r.top + 2)]] : Rw) y.toNat 0).int }, p + 1 + 1, ?_, by omega, by omega, ⟨B.q, B.m, B.ints.1, B.ints.2.1, hr, B.ints.2.2.2⟩⟩
    simp (disch := omega) only [push_cast, ey]; rfl
  by_cases c2 : c = 2
  · obtain ⟨y, ey, ry, sy⟩ := zk hb 4 (by omega) (p + 1) (by omega)
    have hr := zoc s.births hs y.toNat (by omega)
    unfold to4 at hr
    refine ⟨{ r with top := (rd ([[.i (-1)], [.i 0], [.i s.births], [.i (s.births + 1)]] : Rw) y.toNat 0).int }, p + 1 + 1, ?_, by omega, by omega, ⟨B.q, B.m, B.ints.1, hr, B.ints.2.2⟩⟩
    simp (disch := omega) only [push_cast, ey]; rfl
  by_cases c3 : c = 3
  · have hsu := zbr (⟨#[113]⟩ : ByteArray) s.width (by show (1 : Nat) ≤ 1099511627776; omega)
    refine ⟨{ r with queue := r.queue ++ [sumM ⟨#[113]⟩ s.width] }, p + 1, ?_, by omega, by omega, ⟨by simp; omega, B.m, B.ints⟩⟩
    simp (disch := omega) only [push_cast, hsu]
    rw [z7, zn]; rfl
  by_cases c4 : c = 4
  · have hsu := zbr (⟨#[109]⟩ : ByteArray) s.width (by show (1 : Nat) ≤ 1099511627776; omega)
    refine ⟨{ r with marked := r.marked ++ [sumM ⟨#[109]⟩ s.width] }, p + 1, ?_, by omega, by omega, ⟨B.q, by simp; omega, B.ints⟩⟩
    simp (disch := omega) only [push_cast, hsu]
    rw [z7, zn]; rfl
  by_cases c5 : c = 5
  · refine ⟨{ r with queue := r.queue ++ [⟨#[116, 111, 111, 108, 111, 110, 103, 102, 111, 114, 97, 110, 121]⟩] }, p + 1, ?_, by omega, by omega, ⟨by simp; omega, B.m, B.ints⟩⟩
    simp (disch := omega) only [push_cast]
    rw [z7, zn]; rfl
  by_cases c6 : c = 6
  · by_cases hT : 0 < s.things.length
    rotate_left
    · refine ⟨r, p + 1, ?_, by omega, by omega, B⟩
      simp (disch := omega) only [push_cast]; rfl
    cases hw : zj s.width
    · refine ⟨r, p + 1, ?_, by omega, by omega, B⟩
      simp (disch := omega) only [push_cast, zq, hw]; rfl
    obtain ⟨y, ey, ry, sy⟩ := zk hb 2 (by omega) (p + 1) (by omega)
    obtain ⟨n, hn⟩ : ∃ n : Nat, 23200 + y = n := ⟨(23200 + y).toNat, by omega⟩
    obtain ⟨Q', e, h1⟩ := zoe s r b (p + 1 + 1) n (by omega) hT (n - r.queue.length) r.queue rfl (by omega)
    refine ⟨{ r with queue := Q' }, p + 1 + 1, ?_, by omega, by omega, ⟨by simp only; omega, B.m, B.ints⟩⟩
    simp (disch := omega) only [push_cast, zq, hw, ey, hn]
    exact e
  · obtain ⟨y, ey, ry, sy⟩ := zk hb 4 (by omega) (p + 1) (by omega)
    have hr := zo6 y.toNat (by omega)
    refine ⟨{ r with rounds := (rd ro4 y.toNat 0).int }, p + 1 + 1, ?_, by omega, by omega, ⟨B.q, B.m, B.ints.1, B.ints.2.1, B.ints.2.2.1, hr⟩⟩
    unfold ro4
    simp (disch := omega) only [push_cast, ey]; rfl
theorem zqp {b : Rw} (hb : RB b) (s : State) (hs : 0 ≤ s.births ∧ s.births ≤ 1000000000) {r : Round} (h : IR r) (p : Int) (hp : 0 ≤ p ∧ p ≤ 900000000) :
    ∃ (r' : Round) (p' : Int), Lq4 none (encSt s ++ encR r ++ [.l b, .i p]) = some (spR r' b p') ∧ p ≤ p' ∧ p' ≤ p + 20 ∧ BR r' := by
  show ∃ (r' : Round) (p' : Int), Lq4 none [.i s.width, .i s.now, .i s.given, .i s.births, .l (encK s.things), .l (encP s.pins), .l (encL s.leases), .i r.phase, .l (encS r.queue), .l (encS r.marked), .i r.top, .i r.at_, .i r.rounds, .l b, .i p] = _ ∧ _
  have hq := h.q; have hm := h.m
  have B := h.br
  have hcr := zfl r (by omega) (by omega)
  have hcr' : Lqbg none [.i r.phase, .l (encS r.queue), .l (encS r.marked), .i r.top, .i r.at_, .i r.rounds] = some [.i r.phase, .i r.top, .i r.at_, .i r.rounds, .l (encS r.queue), .l (encS r.marked)] := hcr
  rw [eq4_i, mostE]
  have go : ∀ q : Int, p ≤ q → q ≤ p + 2 → ∃ (r' : Round) (p' : Int), Lq4 (some 6) [.l b, .i q, .i s.width, .i s.now, .i s.given, .i s.births, .l (encK s.things), .l (encP s.pins), .l (encL s.leases), .i 0, .i 0, .i 0, .i 0, .i r.phase, .i r.top, .i r.at_, .i r.rounds, .l (encS r.queue), .l (encS r.marked), .l [], .l []] = some (spR r' b p') ∧ p ≤ p' ∧ p' ≤ p + 20 ∧ BR r' := by
    intro q h1 h2
    obtain ⟨r', p', e, h3, h4, h5⟩ := ztd hb s hs h q (by omega)
    exact ⟨r', p', e, by omega, by omega, h5⟩
  by_cases c1 : r.phase = 2
  rotate_left
  · obtain ⟨r', p', e, x⟩ := go p (by omega) (by omega)
    refine ⟨r', p', ?_, x⟩
    simp (disch := omega) only [push_cast, hcr']; exact e
  by_cases c2 : 0 < r.marked.length
  rotate_left
  · obtain ⟨r', p', e, x⟩ := go p (by omega) (by omega)
    refine ⟨r', p', ?_, x⟩
    simp (disch := omega) only [push_cast, hcr']; exact e
  obtain ⟨c, ec, rc, sc⟩ := zk hb 2 (by omega) p (by omega)
  by_cases c3 : c = 0
  rotate_left
  · obtain ⟨r', p', e, x⟩ := go (p + 1) (by omega) (by omega)
    refine ⟨r', p', ?_, x⟩
    simp (disch := omega) only [push_cast, hcr', ec]; exact e
  obtain ⟨y, ey, ry, sy⟩ := zk hb (r.marked.length : Int) (by omega) (p + 1) (by omega)
  obtain ⟨j, hj⟩ : ∃ j : Nat, y = j := ⟨y.toNat, by omega⟩
  have hjl : j < r.marked.length := by omega
  have a1 : Eng.sub (encS r.marked) 0 j = encS (r.marked.take j) := by rw [zcy]; simp
  have a2 : Eng.sub (encS r.marked) (j + 1) r.marked.length = encS (r.marked.drop (j + 1)) := by rw [zcy, List.take_of_length_le (by rw [List.length_drop]; exact Nat.le_refl _)]
  have b1 : (r.marked.take j).length = j := by rw [List.length_take]; omega
  have b2 : (r.marked.drop (j + 1)).length = r.marked.length - (j + 1) := List.length_drop
  have c1' : (encS (r.marked.take j)).length = j := by rw [z4]; exact b1
  have c2' : (encS (r.marked.drop (j + 1))).length = r.marked.length - (j + 1) := by rw [z4]; exact b2
  refine ⟨{ r with marked := r.marked.take j ++ r.marked.drop (j + 1) }, p + 1 + 1, ?_, by omega, by omega, ⟨B.q, by simp only [List.length_append]; omega, B.ints⟩⟩
  simp (disch := omega) only [push_cast, hcr', ec, ey, hj, a1, a2, List.nil_append, c1', c2', List.length_append]
  rw [zn]; rfl
end KV
end
section
namespace KV
open Go Go.Eng
open Classical
theorem zs6 {s : State} {r : Round} (V : VS s) (h : RoundOk s.width s.births r) (hr : r.rounds < 1000000000) : BR (unitM s r).1 := by
  have hl := zkr V h
  have hb := V.births; have hrd := h.rds; have hp := h.ph
  refine ⟨by omega, by omega, ?_⟩
  have hu := zet V r
  generalize unitM s r = u at hu ⊢
  have hgo : r.phase ≠ 0 → (0 ≤ r.top ∧ r.top ≤ s.births) ∧ 1 ≤ r.at_ ∧ r.at_ ≤ r.top + 1 := fun h0 => by have := h.go h0; omega
  cases hu with
  | start h0 => simp only; omega
  | mark h0 q k hq hk hm => have := hgo h0; simp only; omega
  | skip h0 x q hq hm => have := hgo h0; simp only; omega
  | over h0 hq hb => simp only; omega
  | keep h0 hq k hk hb hbest hm => have := hgo h0; have := (V.okT k hk).2.2; simp only; omega
  | drop h0 hq k hk hb hbest hm hh hi => have := hgo h0; have := (V.okT k hk).2.2; simp only; omega
def fuO (v : Vault) (b : Rw) (p : Int) : Lv := [.i v.width, .i v.limit, .i v.st.width, .i v.st.now, .i v.st.given, .i v.st.births, .i v.rd.phase, .l (encS v.rd.queue), .l (encS v.rd.marked), .i v.rd.top, .i v.rd.at_, .i v.rd.rounds, .l b, .i p, .l (encS v.safe), .l (encS v.loose), .l (encK v.st.things), .l (encP v.st.pins), .l (encL v.st.leases)]
theorem GS.names {s : State} (h : GS s) : ∀ p ∈ s.pins, p.name.size ≤ 4611686018427387904 := h.bs.names
theorem zpz (v : Vault) (hs : GS v.st) (b : Rw) (p : Int) : ∀ (n : Nat) (r : Round), n ≤ 100 → BR r →
    ∃ r' : Round, Lq9 (some 18) [.i (n : Int), .l b, .i p, .i 0, .i 0, .i 0, .i 0, .i 0, .i 0, .i 0, .i 0, .i 0, .i 0, .i v.width, .i v.limit, .i v.st.width, .i v.st.now, .i v.st.given, .i v.st.births, .i r.phase, .l (encS r.queue), .l (encS r.marked), .i r.top, .i r.at_, .i r.rounds, .l [], .l [], .l [], .l [], .l [], .l [], .l [], .l (encS v.safe), .l (encS v.loose), .l (encK v.st.things), .l (encP v.st.pins), .l (encL v.st.leases)] = some (fuO { v with rd := r' } b p) ∧ BR r' := by
  intro n
  induction n with
  | zero =>
    intro r hn hr
    refine ⟨r, ?_, hr⟩
    rw [eq9_18]; simp (disch := omega) only [push_cast]; rfl
  | succ n ih =>
    intro r hn hr
    have hu := zt3 hs.names r
    have hu' : Lqdj none [.i v.st.width, .i v.st.now, .i v.st.given, .i v.st.births, .l (encK v.st.things), .l (encP v.st.pins), .l (encL v.st.leases), .i r.phase, .l (encS r.queue), .l (encS r.marked), .i r.top, .i r.at_, .i r.rounds] = _ := hu
    rw [eq9_18]
    have e1 : (n : Int) + 1 - 1 = (n : Int) := by omega
    by_cases c : VS v.st ∧ RoundOk v.st.width v.st.births r ∧ r.rounds < 1000000000
    · rw [if_pos c] at hu'
      unfold encUN at hu'
      by_cases hd : (unitM v.st r).2 = E0
      · obtain ⟨r', e, h1⟩ := ih (unitM v.st r).1 (by omega) (zs6 c.1 c.2.1 c.2.2)
        refine ⟨r', ?_, h1⟩
        have ho : oneD (unitM v.st r).2 = [] := if_pos hd
        simp (disch := omega) only [push_cast, hu', ho, e1]
        exact e
      · refine ⟨r, ?_, hr⟩
        have ho : oneD (unitM v.st r).2 = [(unitM v.st r).2] := if_neg hd
        simp (disch := omega) only [push_cast, hu', ho]; rfl
    · rw [if_neg c] at hu'
      obtain ⟨r', e, h1⟩ := ih R0 (by omega) R0_ir.br
      refine ⟨r', ?_, h1⟩
      unfold unNo at hu'
      simp (disch := omega) only [push_cast, hu', e1]
      exact e
structure FU (v : Vault) : Prop where
  gs : GS v.st
  br : BR v.rd
  ns : v.safe.length + v.loose.length ≤ 4010
  sz : ∀ x ∈ v.safe ++ v.loose, x.size ≤ 5000
  ints : (-1 ≤ v.width ∧ v.width ≤ 10) ∧ (-1 ≤ v.limit ∧ v.limit ≤ 1000001)
  big : v = { V0 with rd := v.rd } ∨ 1000 < v.safe.length + v.loose.length
theorem zr6 {b : Rw} (hb : RB b) (p : Int) (hp : 0 ≤ p ∧ p ≤ 900000500) (w : Int) (hw : 1 ≤ w ∧ w ≤ 8) (x : Bs) (hx : x.size ≤ 5000) (n : Nat) (hn : 3000 ≤ n ∧ n ≤ 4000) : ∀ (m : Nat) (S : List Bs), n - S.length = m → S.length ≤ n → (∀ y ∈ S, y.size ≤ 5000) →
    ∃ (v : Vault) (p' : Int), Lq9 (some 14) [.i w, .s x, .i (n : Int), .l b, .i p, .i 0, .i 0, .i 0, .i 0, .i 0, .i 0, .i 0, .i 0, .i 0, .i 0, .l [], .l [], .l [], .l [], .l [], .l [], .l [], .l (encS S), .l []] = some (fuO v b p') ∧ p ≤ p' ∧ p' ≤ p + 10 ∧ FU v := by
  intro m
  induction m with
  | zero =>
    intro S hm hS hz
    obtain ⟨c, ec, rc, sc⟩ := zk hb 2 (by omega) p (by omega)
    obtain ⟨y, ey, ry, sy⟩ := zk hb 14 (by omega) (p + 1) (by omega)
    obtain ⟨k, hk⟩ : ∃ k : Nat, y = k := ⟨y.toNat, by omega⟩
    have hlim : 0 ≤ (rd ([[.i 1000000], [.i 60]] : Rw) c.toNat 0).int ∧ (rd ([[.i 1000000], [.i 60]] : Rw) c.toNat 0).int ≤ 1000000 := by
      have : c.toNat = 0 ∨ c.toNat = 1 := by omega
      rcases this with h | h <;> rw [h]
      · exact ⟨by show (0 : Int) ≤ 1000000; omega, by show (1000000 : Int) ≤ 1000000; omega⟩
      · exact ⟨by show (0 : Int) ≤ 60; omega, by show (60 : Int) ≤ 1000000; omega⟩
    generalize hlm : (rd ([[.i 1000000], [.i 60]] : Rw) c.toNat 0).int = lim at hlim
    have ho := zg1 w lim S [] ⟨by omega, fun y hy => by have := hz y hy; omega⟩ ⟨Nat.zero_le _, fun x hx => nomatch hx⟩ (by simp; omega)
    have ho' : Lqbw none [.i w, .i lim, .l (encS S), .l []] = _ := ho
    have hlen : ((encS S).length : Int) = (n : Int) := by rw [z4]; omega
    have fin : ∀ v : Vault, GS v.st → v.rd = R0 → v.safe.length + v.loose.length ≤ 4010 → (∀ x ∈ v.safe ++ v.loose, x.size ≤ 5000) → ((-1 ≤ v.width ∧ v.width ≤ 10) ∧ (-1 ≤ v.limit ∧ v.limit ≤ 1000001)) → (v = V0 ∨ 1000 < v.safe.length + v.loose.length) →
        ∃ (v' : Vault), Lq9 (some 18) [.i (k : Int), .l b, .i (p + 1 + 1), .i 0, .i 0, .i 0, .i 0, .i 0, .i 0, .i 0, .i 0, .i 0, .i 0, .i v.width, .i v.limit, .i v.st.width, .i v.st.now, .i v.st.given, .i v.st.births, .i 0, .l [], .l [], .i 0, .i 0, .i 0, .l [], .l [], .l [], .l [], .l [], .l [], .l [], .l (encS v.safe), .l (encS v.loose), .l (encK v.st.things), .l (encP v.st.pins), .l (encL v.st.leases)] = some (fuO v' b (p + 1 + 1)) ∧ FU v' := by
      intro v h1 h2 h3 h4 h5 h6
      obtain ⟨r', e, h7⟩ := zpz v h1 b (p + 1 + 1) k R0 (by omega) R0_ir.br
      refine ⟨{ v with rd := r' }, e, h1, h7, h3, h4, h5, ?_⟩
      rcases h6 with rfl | h6
      · exact .inl rfl
      · exact .inr h6
    rw [eq9_14]
    unfold openM at ho'
    split at ho'
    · rename_i hg
      cases hr : runL w (empty w) (S ++ []) 0 with
      | inl s =>
        rw [hr] at ho'
        have W := zcq _ _ _ _ (zcj hw) rfl hr
        obtain ⟨v', e, h1⟩ := fin ⟨w, lim, S, [], s, R0⟩ (.inl W.1) rfl (by show S.length + 0 ≤ 4010; omega) (fun y hy => hz y (by simpa using hy)) ⟨by show -1 ≤ w ∧ w ≤ 10; omega, by show -1 ≤ lim ∧ lim ≤ 1000001; omega⟩ (.inr (by show 1000 < S.length + 0; omega))
        refine ⟨v', p + 1 + 1, ?_, by omega, by omega, h1⟩
        simp only [encO] at ho'
        simp (disch := omega) only [push_cast, ec, ey, hlm, ho', hk]
        exact e
      | inr c2 =>
        rw [hr] at ho'
        obtain ⟨v', e, h1⟩ := fin V0 (.inr rfl) rfl (by show 0 + 0 ≤ 4010; omega) (fun y hy => nomatch hy) ⟨by show -1 ≤ (0 : Int) ∧ (0 : Int) ≤ 10; omega, by show -1 ≤ (0 : Int) ∧ (0 : Int) ≤ 1000001; omega⟩ (.inl rfl)
        refine ⟨v', p + 1 + 1, ?_, by omega, by omega, h1⟩
        simp only [encO] at ho'
        simp (disch := omega) only [push_cast, ec, ey, hlm, ho', hk]
        exact e
    · obtain ⟨v', e, h1⟩ := fin V0 (.inr rfl) rfl (by show 0 + 0 ≤ 4010; omega) (fun y hy => nomatch hy) ⟨by show -1 ≤ (0 : Int) ∧ (0 : Int) ≤ 10; omega, by show -1 ≤ (0 : Int) ∧ (0 : Int) ≤ 1000001; omega⟩ (.inl rfl)
      refine ⟨v', p + 1 + 1, ?_, by omega, by omega, h1⟩
      simp only [encO] at ho'
      simp (disch := omega) only [push_cast, ec, ey, hlm, ho', hk]
      exact e
  | succ m ih =>
    intro S hm hS hz
    obtain ⟨v, p', e, h⟩ := ih (S ++ [x]) (by simp; omega) (by simp; omega) (fun y hy => by
      rcases List.mem_append.1 hy with h | h
      · exact hz y h
      · rw [List.mem_singleton] at h; rw [h]; exact hx)
    refine ⟨v, p', ?_, h⟩
    rw [← zn] at e
    rw [eq9_14, mostE]
    simp (disch := omega) only [push_cast]
    exact e
theorem zh4 (e : Entry) (w : Int) : (if zg e w = true then formE e else E0).size ≤ 5000 := by
  by_cases h : zg e w = true
  · rw [if_pos h]; have := zii h; omega
  · rw [if_neg h]; exact Nat.zero_le _
theorem zs8 {b : Rw} (hb : RB b) (p : Int) (hp : 0 ≤ p ∧ p ≤ 900000100) (w : Int) (hw : 1 ≤ w ∧ w ≤ 8) : ∀ (m i : Nat) (last : Bs) (S : List Bs), 4 - i = m → i ≤ 4 → S.length = i → (∀ y ∈ S, y.size ≤ 5000) →
    ∃ (v : Vault) (p' : Int), Lq9 (some 5) [.i w, .s last, .i (i : Int), .l b, .i p, .i 0, .i 0, .i 0, .i 0, .i 0, .i 0, .i 0, .i 0, .i 0, .i 0, .l [], .l [], .l [], .l [], .l [], .l [], .l [], .l (encS S), .l []] = some (fuO v b p') ∧ p ≤ p' ∧ p' ≤ p + 20 ∧ FU v := by
  intro m
  induction m with
  | zero =>
    intro i last S hm hi hS hz
    obtain ⟨c, ec, rc, sc⟩ := zk hb 4 (by omega) p (by omega)
    obtain ⟨n, hn⟩ : ∃ n : Nat, 4000 - c = n := ⟨(4000 - c).toNat, by omega⟩
    have hfe := zdu ⟨6, E0, E0, 1, ⟨E0, []⟩⟩ w (Nat.zero_le _)
    have hfe' : Lqv none [.i 6, .s E0, .s E0, .i 1, .s E0, .l [], .i w] = _ := hfe
    have hfz := zh4 ⟨6, E0, E0, 1, ⟨E0, []⟩⟩ w
    obtain ⟨v, p', e, h1, h2, h3⟩ := zr6 hb (p + 1) (by omega) w hw _ hfz n (by omega) (n - S.length) S rfl (by omega) hz
    refine ⟨v, p', ?_, by omega, by omega, h3⟩
    rw [eq9_5]
    simp (disch := omega) only [push_cast, hfe', ec, hn]
    exact e
  | succ m ih =>
    intro i last S hm hi hS hz
    obtain ⟨x, ex, hx1, hx2⟩ := zhx (i : Int) (by omega)
    have h4 : (⟨#[102, 117, 108, 108]⟩ : ByteArray).size = 4 := rfl
    obtain ⟨t, ht⟩ : ∃ t, (⟨#[102, 117, 108, 108]⟩ : ByteArray) ++ x = t := ⟨_, rfl⟩
    have hft : ∀ refs : List Bs, Lqd none [.s (formT ⟨t, refs⟩ w), .i w] = some [.s (sumM (formT ⟨t, refs⟩ w) w)] := fun refs => zbr _ w (by have := zkf ⟨t, refs⟩ w; omega)
    have hfo : ∀ refs : List Bs, Lqi none [.s t, .l (encS refs), .i w] = some [.s (formT ⟨t, refs⟩ w)] := fun refs => zci ⟨t, refs⟩ w
    have hf0 : Lqi none [.s t, .l [], .i w] = some [.s (formT ⟨t, []⟩ w)] := hfo []
    have hf1 : Lqi none [.s t, .l [[.s last]], .i w] = some [.s (formT ⟨t, [last]⟩ w)] := hfo [last]
    have hfe : ∀ refs : List Bs, Lqv none [.i 1, .s E0, .s E0, .i 1, .s t, .l (encS refs), .i w] = some [.s (if zg ⟨1, E0, E0, 1, ⟨t, refs⟩⟩ w = true then formE ⟨1, E0, E0, 1, ⟨t, refs⟩⟩ else E0)] := fun refs => zdu ⟨1, E0, E0, 1, ⟨t, refs⟩⟩ w (Nat.zero_le _)
    have he0 : Lqv none [.i 1, .s E0, .s E0, .i 1, .s t, .l [], .i w] = some [.s (if zg ⟨1, E0, E0, 1, ⟨t, []⟩⟩ w = true then formE ⟨1, E0, E0, 1, ⟨t, []⟩⟩ else E0)] := hfe []
    have he1 : Lqv none [.i 1, .s E0, .s E0, .i 1, .s t, .l [[.s last]], .i w] = some [.s (if zg ⟨1, E0, E0, 1, ⟨t, [last]⟩⟩ w = true then formE ⟨1, E0, E0, 1, ⟨t, [last]⟩⟩ else E0)] := hfe [last]
    have go : ∀ refs : List Bs, ∃ (v : Vault) (p' : Int), Lq9 (some 5) [.i w, .s (sumM (formT ⟨t, refs⟩ w) w), .i ((i : Int) + 1), .l b, .i p, .i 0, .i 0, .i 0, .i 0, .i 0, .i 0, .i 0, .i 0, .i 0, .i 0, .l [], .l [], .l [], .l [], .l [], .l [], .l [], .l (encS (S ++ [if zg ⟨1, E0, E0, 1, ⟨t, refs⟩⟩ w = true then formE ⟨1, E0, E0, 1, ⟨t, refs⟩⟩ else E0])), .l []] = some (fuO v b p') ∧ p ≤ p' ∧ p' ≤ p + 20 ∧ FU v := by
      intro refs
      have := ih (i + 1) (sumM (formT ⟨t, refs⟩ w) w) (S ++ [if zg ⟨1, E0, E0, 1, ⟨t, refs⟩⟩ w = true then formE ⟨1, E0, E0, 1, ⟨t, refs⟩⟩ else E0]) (by omega) (by omega) (by simp; omega) (fun y hy => by
        rcases List.mem_append.1 hy with h | h
        · exact hz y h
        · rw [List.mem_singleton] at h; rw [h]; exact zh4 _ _)
      exact this
    rw [eq9_5, mostE]
    have hts : t.size ≤ 24 := by rw [← ht, z5, h4]; omega
    by_cases hE : last = E0
    · obtain ⟨v, p', e, h⟩ := go []
      refine ⟨v, p', ?_, h⟩
      rw [← zn] at e
      simp (disch := omega) only [push_cast, ex, h4, ht, hf0, hft, he0]
      exact e
    · obtain ⟨v, p', e, h⟩ := go [last]
      refine ⟨v, p', ?_, h⟩
      rw [← zn] at e
      simp (disch := omega) only [push_cast, ex, h4, ht, hf1, hft, he1]
      exact e
theorem zq9 {b : Rw} (hb : RB b) (p : Int) (hp : 0 ≤ p ∧ p ≤ 900000000) : ∃ (v : Vault) (p' : Int), Lq9 none [.l b, .i p] = some (fuO v b p') ∧ p ≤ p' ∧ p' ≤ p + 30 ∧ FU v := by
  obtain ⟨c, ec, rc, sc⟩ := zk hb 2 (by omega) p (by omega)
  have hw : (rd ([[.i 8], [.i 1]] : Rw) c.toNat 0).int = 8 ∨ (rd ([[.i 8], [.i 1]] : Rw) c.toNat 0).int = 1 := by
    have : c.toNat = 0 ∨ c.toNat = 1 := by omega
    rcases this with h | h <;> rw [h]
    · exact .inl rfl
    · exact .inr rfl
  generalize hwm : (rd ([[.i 8], [.i 1]] : Rw) c.toNat 0).int = w at hw
  obtain ⟨v, p', e, h1, h2, h3⟩ := zs8 hb (p + 1) (by omega) w (by omega) 4 0 E0 [] rfl (by omega) rfl (fun y hy => nomatch hy)
  refine ⟨v, p', ?_, by omega, by omega, h3⟩
  rw [eq9_i]
  simp (disch := omega) only [push_cast, ec, hwm]
  exact e
end KV
end
section
namespace KV
open Go Go.Eng
open Classical
theorem RI.mono {N M : Int} {v : Vault} (h : RI N v) (hM : N ≤ M) : RI M v := ⟨h.vv, h.sub, h.q, by have := h.cnt; omega, h.t1, h.t2, h.t3⟩
theorem zp8 {v : Vault} (V : VV v) (k : Int) : ∃ s, runL v.width (empty v.width) (v.safe ++ v.loose.take k.toNat) 0 = .inl s ∧ loseM v k = ⟨v.width, v.limit, v.safe ++ v.loose.take k.toNat, [], s, R0⟩ := by
  obtain ⟨s, h1, h2, h3⟩ := zin V k
  refine ⟨s, h1, ?_⟩
  unfold loseM; rw [if_pos V, h2]
theorem zql {v : Vault} {e : Entry} {sh : Bool} (V : VV v) (h : ¬ (doE v e sh).code = 0) : (doE v e sh).v = v := by
  unfold doE at h ⊢
  rw [if_neg (not_not_intro V)] at h ⊢
  split
  · rfl
  · rename_i a2; rw [if_neg a2] at h
    split
    · rfl
    · rename_i a3; rw [if_neg a3] at h
      split
      · rfl
      · rename_i a4; rw [if_neg a4] at h
        split
        · rfl
        · rename_i a5; rw [if_neg a5] at h; exact absurd rfl h
def A0 : Act := ⟨0, E0, 0, E0, 0, 0⟩
def cA (a : Act) : List C := [.i a.kind, .s a.text, .i a.refs, .s a.name, .i a.pick, .i a.ticks]
def encAs (l : List Act) : Rw := l.map cA
@[push_cast] theorem zvh (l : List Act) : (encAs l).length = l.length := by simp [encAs]
@[push_cast] theorem zvn (l : List Act) (i : Nat) : (rd (encAs l) i 0).int = (nth A0 l i).kind := zbg cA A0 l i 0 C.int rfl
@[push_cast] theorem zve (l : List Act) (i : Nat) : (rd (encAs l) i 1).str = (nth A0 l i).text := zbg cA A0 l i 1 C.str rfl
@[push_cast] theorem zvi (l : List Act) (i : Nat) : (rd (encAs l) i 2).int = (nth A0 l i).refs := zbg cA A0 l i 2 C.int rfl
@[push_cast] theorem zvd (l : List Act) (i : Nat) : (rd (encAs l) i 3).str = (nth A0 l i).name := zbg cA A0 l i 3 C.str rfl
@[push_cast] theorem zvq (l : List Act) (i : Nat) : (rd (encAs l) i 4).int = (nth A0 l i).pick := zbg cA A0 l i 4 C.int rfl
@[push_cast] theorem zvp (l : List Act) (i : Nat) : (rd (encAs l) i 5).int = (nth A0 l i).ticks := zbg cA A0 l i 5 C.int rfl
end KV
end
section
namespace KV
open Go Go.Eng
open Classical
abbrev Put := Bs × Thing
def encQ (l : List Put) : Rw := l.map fun q => [.s q.1, .s q.2.text, .l (encS q.2.refs)]
def encSs (l : List State) : Rw := l.map fun s => [.i s.width, .i s.now, .i s.given, .i s.births, .l (encK s.things), .l (encP s.pins), .l (encL s.leases)]
@[push_cast] theorem zvl (l : List Put) : (encQ l).length = l.length := by simp [encQ]
@[push_cast] theorem zvo (l : List State) : (encSs l).length = l.length := by simp [encSs]
def q0 : Put := (E0, ⟨E0, []⟩)
def PI (put : List Put) (w : Int) (l : List Bs) : Prop := ∀ n s, runL w (empty w) (l.take n) 0 = .inl s → ∀ k ∈ s.things, (k.sum, k.thing) ∈ put
def QI (past : List State) (w : Int) (a b : List Bs) : Prop := ∀ n s, runL w (empty w) (a ++ b.take n) 0 = .inl s → s ∈ past
theorem PI.mono {p q : List Put} {w : Int} {l : List Bs} (h : PI p w l) (hs : ∀ x ∈ p, x ∈ q) : PI q w l := fun n s hr k hk => hs _ (h n s hr k hk)
theorem QI.mono {p q : List State} {w : Int} {a b : List Bs} (h : QI p w a b) (hs : ∀ x ∈ p, x ∈ q) : QI q w a b := fun n s hr => hs _ (h n s hr)
theorem PI.snoc {p : List Put} {w : Int} {l : List Bs} {x : Bs} {s' : State} (h : PI p w l) (hr : runL w (empty w) (l ++ [x]) 0 = .inl s') (hs : ∀ k ∈ s'.things, (k.sum, k.thing) ∈ p) : PI p w (l ++ [x]) := by
  intro n s hn k hk
  rcases Nat.lt_or_ge l.length n with h1 | h1
  · rw [List.take_of_length_le (by rw [List.length_append]; simp; omega), hr] at hn
    cases hn; exact hs k hk
  · rw [List.take_append_of_le_length h1] at hn
    exact h n s hn k hk
theorem QI.snoc {p : List State} {w : Int} {a b : List Bs} {x : Bs} {s' : State} (h : QI p w a b) (hr : runL w (empty w) (a ++ (b ++ [x])) 0 = .inl s') (hs : s' ∈ p) : QI p w a (b ++ [x]) := by
  intro n s hn
  rcases Nat.lt_or_ge b.length n with h1 | h1
  · rw [List.take_of_length_le (by rw [List.length_append]; simp; omega), hr] at hn
    cases hn; exact hs
  · rw [List.take_append_of_le_length h1] at hn
    exact h n s hn
theorem zoq {s : State} {e : Entry} (hk : 1 ≤ e.kind ∧ e.kind ≤ 6) (h : (chg s e).code = 0) {k : Kept} (hk2 : k ∈ (chg s e).st.things) : k ∈ s.things ∨ (e.kind = 1 ∧ k.thing = e.thing ∧ k.sum = sumM (formM e.thing) s.width) := by
  by_cases c1 : e.kind = 1
  · have hc : chg s e = putS s e := by unfold chg; rw [if_pos c1]
    rw [hc] at h hk2
    unfold putS at h hk2
    split at h
    · cases h
    · rename_i a1
      rw [if_neg a1] at hk2
      split at h
      · rename_i a2
        rw [if_pos a2] at hk2
        split at h
        · rename_i a3
          rw [if_pos a3] at hk2
          split at h
          · rename_i a4
            rw [if_pos a4] at hk2
            exact .inl hk2
          · cases h
        · cases h
      · rename_i a2
        rw [if_neg a2] at hk2
        split at h
        · rename_i a3
          rw [if_pos a3] at hk2
          rcases zbv.1 hk2 with h1 | h1
          · subst h1; exact .inr ⟨c1, rfl, rfl⟩
          · exact .inl h1
        · cases h
  · rcases (zr3 hk h).2.1 k hk2 with h1 | h1
    · exact .inl h1
    · exact absurd h1.1 c1
end KV
end
