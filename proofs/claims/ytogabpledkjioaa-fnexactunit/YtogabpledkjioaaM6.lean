/- Plain laws over the walks' closed forms. -/
import Derived.Test.YtogabpledkjioaaM1
import Derived.Test.YtogabpledkjioaaM2
import Derived.Test.YtogabpledkjioaaM3
import Derived.Test.YtogabpledkjioaaM4
import Derived.Test.YtogabpledkjioaaM5
set_option linter.unusedSimpArgs false
set_option linter.unusedVariables false
set_option linter.unusedSectionVars false
section
namespace KV
open Go Go.Eng
open Classical
theorem zna {s : State} (hN : ∀ p ∈ s.pins, p.name.size ≤ 4611686018427387904) (r : Round) : Lqb4 none (encSt s ++ encR r) = some [.b (decide (VS s ∧ RoundOk s.width s.births r))] := by
  show Lqb4 none [.i s.width, .i s.now, .i s.given, .i s.births, .l (encK s.things), .l (encP s.pins), .l (encL s.leases), .i r.phase, .l (encS r.queue), .l (encS r.marked), .i r.top, .i r.at_, .i r.rounds] = _
  have h1 := zn5 s hN
  unfold encSt at h1
  rw [eqb4_i, h1]
  by_cases V : VS s
  · have h2 := zoa s r V.births
    have h2' : Lqg none [.i s.width, .i s.now, .i s.given, .i s.births, .l (encK s.things), .l (encP s.pins), .l (encL s.leases), .i r.phase, .l (encS r.queue), .l (encS r.marked), .i r.top, .i r.at_, .i r.rounds] = _ := h2
    rw [decide_eq_true V]
    simp (disch := omega) only [push_cast, h2']
    congr 3
    exact decide_eq_decide.2 ⟨fun h => ⟨V, h⟩, fun h => h.2⟩
  · rw [decide_eq_false V, decide_eq_false (p := VS s ∧ RoundOk s.width s.births r) fun h => V h.1]; simp (disch := omega) only [push_cast]
def encUN (s : State) (u : Round × Bs) : Lv := [.i 0, .i s.width, .i s.now, .i s.given, .i s.births, .i u.1.phase, .l (encS u.1.queue), .l (encS u.1.marked), .i u.1.top, .i u.1.at_, .i u.1.rounds, .l (encK s.things), .l (encP s.pins), .l (encL s.leases), .l (encS (oneD u.2))]
def unNo : Lv := [.i 1, .i 0, .i 0, .i 0, .i 0, .i 0, .l [], .l [], .i 0, .i 0, .i 0, .l [], .l [], .l [], .l []]
theorem zpl {s : State} (hN : ∀ p ∈ s.pins, p.name.size ≤ 4611686018427387904) (r : Round) : Lqb3 none (encSt s ++ encR r) = some (if VS s ∧ RoundOk s.width s.births r ∧ r.rounds < 1000000000 then encUN (zz s (unitM s r).2) (unitM s r) else unNo) := by
  have hv := zna hN r
  have hv' : Lqb4 none [.i s.width, .i s.now, .i s.given, .i s.births, .l (encK s.things), .l (encP s.pins), .l (encL s.leases), .i r.phase, .l (encS r.queue), .l (encS r.marked), .i r.top, .i r.at_, .i r.rounds] = _ := hv
  show Lqb3 none [.i s.width, .i s.now, .i s.given, .i s.births, .l (encK s.things), .l (encP s.pins), .l (encL s.leases), .i r.phase, .l (encS r.queue), .l (encS r.marked), .i r.top, .i r.at_, .i r.rounds] = _
  rw [eqb3_i, hv']
  by_cases c : VS s ∧ RoundOk s.width s.births r
  rotate_left
  · rw [decide_eq_false c, if_neg fun h => c ⟨h.1, h.2.1⟩]; simp (disch := omega) only [push_cast]; rfl
  obtain ⟨V, hr⟩ := c
  by_cases c2 : r.rounds < 1000000000
  rotate_left
  · rw [decide_eq_true (p := VS s ∧ RoundOk s.width s.births r) ⟨V, hr⟩, if_neg fun h => c2 h.2.2]; simp (disch := omega) only [push_cast]; rfl
  have n1 := V.nT; have n2 := V.nP; have n3 := V.nL; have hq := hr.nQ; have hm := hr.nM
  have V' := zis (r := r) V
  have m1 := V'.nT; have m2 := V'.nP; have m3 := V'.nL
  have hc4 := zia s.width s.now s.given s.births s.things (encP s.pins) (encL s.leases) (by omega) (zd0 V) (by rw [zbq]; omega) (by rw [zbu]; omega)
  have hu := zpm V hr c2
  have hu' : Lq1 none [.i s.width, .i s.now, .i s.given, .i s.births, .l (encK s.things), .l (encP s.pins), .l (encL s.leases), .i r.phase, .l (encS r.queue), .l (encS r.marked), .i r.top, .i r.at_, .i r.rounds] = _ := hu
  have hcr := zpj r (by omega) (by omega)
  have hcr' : Lqb8 none [.i r.phase, .l (encS r.queue), .l (encS r.marked), .i r.top, .i r.at_, .i r.rounds] = some [.i r.phase, .i r.top, .i r.at_, .i r.rounds, .l (encS r.queue), .l (encS r.marked)] := hcr
  rw [decide_eq_true (p := VS s ∧ RoundOk s.width s.births r) ⟨V, hr⟩, if_pos ⟨V, hr, c2⟩]
  have hc5 := zia (zz s (unitM s r).2).width (zz s (unitM s r).2).now (zz s (unitM s r).2).given (zz s (unitM s r).2).births (zz s (unitM s r).2).things (encP (zz s (unitM s r).2).pins) (encL (zz s (unitM s r).2).leases) (by omega) (zd0 V') (by rw [zbq]; omega) (by rw [zbu]; omega)
  unfold encUn at hu'
  simp (disch := omega) only [push_cast, hc4, hcr', hu', hc5]
  rfl
end KV
end
section
namespace KV
open Go Go.Eng
open Classical
theorem zl7 {s : State} (hN : ∀ p ∈ s.pins, p.name.size ≤ 4611686018427387904) (r : Round) : Lqcl none [.i s.width, .i s.now, .i s.given, .i s.births, .l (encK s.things), .l (encP s.pins), .l (encL s.leases), .i r.phase, .l (encS r.queue), .l (encS r.marked), .i r.top, .i r.at_, .i r.rounds] = some [.b (decide (VS s ∧ RoundOk s.width s.births r))] := by
  have h1 := znk s hN
  unfold encSt at h1
  rw [eqcl_i, h1]
  by_cases V : VS s
  · have h2 : Lqm none [.i r.phase, .l (encS r.queue), .l (encS r.marked), .i r.top, .i r.at_, .i r.rounds, .i s.width, .i s.now, .i s.given, .i s.births, .l (encK s.things), .l (encP s.pins), .l (encL s.leases)] = _ := zmg s r V.births
    rw [decide_eq_true V]
    simp (disch := omega) only [push_cast, h2]
    congr 3
    exact decide_eq_decide.2 ⟨fun h => ⟨V, h⟩, fun h => h.2⟩
  · rw [decide_eq_false V, decide_eq_false (p := VS s ∧ RoundOk s.width s.births r) fun h => V h.1]; simp (disch := omega) only [push_cast]
def encUI (s : State) (u : Round × Bs) : Lv := [.i 0, .i s.width, .i s.now, .i s.given, .i s.births, .i u.1.phase, .i u.1.top, .i u.1.at_, .i u.1.rounds, .l (encK s.things), .l (encP s.pins), .l (encL s.leases), .l (encS u.1.queue), .l (encS u.1.marked), .l (encS (oneD u.2))]
def unNoI : Lv := [.i 1, .i 0, .i 0, .i 0, .i 0, .i 0, .i 0, .i 0, .i 0, .l [], .l [], .l [], .l [], .l [], .l []]
theorem zmn {s : State} (hN : ∀ p ∈ s.pins, p.name.size ≤ 4611686018427387904) (r : Round) : Lqb5 none [.i s.width, .i s.now, .i s.given, .i s.births, .l (encK s.things), .l (encP s.pins), .l (encL s.leases), .i r.phase, .l (encS r.queue), .l (encS r.marked), .i r.top, .i r.at_, .i r.rounds] = some (if VS s ∧ RoundOk s.width s.births r ∧ r.rounds < 1000000000 then encUI (zz s (unitM s r).2) (unitM s r) else unNoI) := by
  rw [eqb5_i, zl7 hN r]
  by_cases c : VS s ∧ RoundOk s.width s.births r
  rotate_left
  · rw [decide_eq_false c, if_neg fun h => c ⟨h.1, h.2.1⟩]; simp (disch := omega) only [push_cast]; rfl
  obtain ⟨V, hr⟩ := c
  have hnx : Lqd none [.i r.phase, .l (encS r.queue), .l (encS r.marked), .i r.top, .i r.at_, .i r.rounds, .i s.width, .i s.now, .i s.given, .i s.births, .l (encK s.things), .l (encP s.pins), .l (encL s.leases)] = _ := zk8 V hr
  rw [decide_eq_true (p := VS s ∧ RoundOk s.width s.births r) ⟨V, hr⟩]
  have hrd := hr.rds
  by_cases c2 : r.rounds = 1000000000
  · rw [if_neg fun h => by have := h.2.2; omega]
    rw [if_pos c2] at hnx
    simp (disch := omega) only [push_cast, hnx]; rfl
  rw [if_pos ⟨V, hr, by omega⟩]
  rw [if_neg c2] at hnx
  unfold encNx at hnx
  have n1 := V.nT; have n2 := V.nP; have n3 := V.nL
  have hcs := zoi s.width s.now s.given s.births s.things (encP s.pins) (encL s.leases) (by omega) (fun k hk => by have := (V.okT k hk).1.refs; omega) (by rw [zbq]; omega) (by rw [zbu]; omega)
  by_cases hd : (unitM s r).2 = E0
  · have h1 : zz s (unitM s r).2 = s := if_pos hd
    have h2 : oneD (unitM s r).2 = [] := if_pos hd
    unfold encUI
    rw [h1, h2]
    rw [hd] at hnx
    simp (disch := omega) only [push_cast, hnx, hcs]; rfl
  · obtain ⟨a, b, c, _⟩ := zhs V hd
    obtain ⟨e1, e2, e3, e4⟩ := zjg V a b c
    have hch : Lqa none [.i 7, .s (unitM s r).2, .s E0, .i 0, .s E0, .l [], .i s.width, .i s.now, .i s.given, .i s.births, .l (encK s.things), .l (encP s.pins), .l (encL s.leases)] = some (zy (chg s (eDrop (unitM s r).2))) := zmd V e2
    have h2 : oneD (unitM s r).2 = [(unitM s r).2] := if_neg hd
    unfold zy at hch
    rw [e4] at hch
    unfold encUI
    rw [h2]
    simp (disch := omega) only [push_cast, hnx, hcs, hch]; rfl
end KV
end
section
namespace KV
open Go Go.Eng
open Classical
def cleI (c : Int) (s : State) (r : Round) (d : List Bs) : Lv := [.i c, .i s.width, .i s.now, .i s.given, .i s.births, .i r.phase, .i r.top, .i r.at_, .i r.rounds, .l (encK s.things), .l (encP s.pins), .l (encL s.leases), .l (encS r.queue), .l (encS r.marked), .l (encS d)]
def cleS (c : Int) (s : State) (r : Round) (d : List Bs) : Lv := [.i c, .i s.width, .i s.now, .i s.given, .i s.births, .i r.phase, .l (encS r.queue), .l (encS r.marked), .i r.top, .i r.at_, .i r.rounds, .l (encK s.things), .l (encP s.pins), .l (encL s.leases), .l (encS d)]
theorem zkh {s : State} (hN : ∀ p ∈ s.pins, p.name.size ≤ 4611686018427387904) (r : Round) : ∃ c s' r' d, Lqb3 none [.i s.width, .i s.now, .i s.given, .i s.births, .l (encK s.things), .l (encP s.pins), .l (encL s.leases), .i r.phase, .l (encS r.queue), .l (encS r.marked), .i r.top, .i r.at_, .i r.rounds] = some (cleS c s' r' d) ∧ Lqb5 none [.i s.width, .i s.now, .i s.given, .i s.births, .l (encK s.things), .l (encP s.pins), .l (encL s.leases), .i r.phase, .l (encS r.queue), .l (encS r.marked), .i r.top, .i r.at_, .i r.rounds] = some (cleI c s' r' d) ∧ Few s' ∧ r'.queue.length ≤ 2000000 ∧ r'.marked.length ≤ 2000000 ∧ d.length ≤ 2000000 := by
  have h1 : Lqb3 none [.i s.width, .i s.now, .i s.given, .i s.births, .l (encK s.things), .l (encP s.pins), .l (encL s.leases), .i r.phase, .l (encS r.queue), .l (encS r.marked), .i r.top, .i r.at_, .i r.rounds] = _ := zpl hN r
  have h2 := zmn hN r
  by_cases c : VS s ∧ RoundOk s.width s.births r ∧ r.rounds < 1000000000
  · rw [if_pos c] at h1 h2
    refine ⟨0, zz s (unitM s r).2, (unitM s r).1, oneD (unitM s r).2, h1, h2, (zis (r := r) c.1).few, ?_, ?_, ?_⟩
    · have := zh0 c.1 c.2.1; omega
    · have := zh0 c.1 c.2.1; omega
    · unfold oneD; split <;> simp
  · rw [if_neg c] at h1 h2
    exact ⟨1, ⟨0, 0, 0, 0, [], [], []⟩, ⟨0, [], [], 0, 0, 0⟩, [], h1, h2, Few.nil, by simp, by simp, by simp⟩
theorem zn3 (s : State) (r : Round) (B : BigS s) (Br : BigL r.queue ∧ BigL r.marked) : Lqc1 none [.i s.width, .i s.now, .i s.given, .i s.births, .l (encK s.things), .l (encP s.pins), .l (encL s.leases), .i r.phase, .l (encS r.queue), .l (encS r.marked), .i r.top, .i r.at_, .i r.rounds] = some [.b true] := by
  rw [eqc1_i]
  obtain ⟨y, y1, y2, y3⟩ := zpd s B 1048576 (by omega) (by omega)
  by_cases hy : y < 0
  · simp (disch := omega) only [push_cast, y1]
  have H := y3 (by omega)
  obtain ⟨z, z1, z2, z3⟩ := zo1 r Br y (by omega) (by omega)
  by_cases hz : z < 0
  · simp (disch := omega) only [push_cast, y1, z1]
  have R := z3 (by omega)
  obtain ⟨c, s', r', d, o1, o2, F, f1, f2, f3⟩ := zkh H.names r
  unfold cleS at o1
  unfold cleI at o2
  obtain ⟨n, T', P', L', m1, m2, m3⟩ := H.mark 1 (by omega) (by omega)
  obtain ⟨Q1, M1, r1, _⟩ := zhk r.phase r.top r.at_ r.rounds (encS r.queue) (encS r.marked) n (by omega) (by rw [zk, zk]; omega)
  have cn := F.cnt
  obtain ⟨T2, P2, L2, k1, k2⟩ := zig s'.width s'.now s'.given s'.births (encK s'.things) (encP s'.pins) (encL s'.leases) 1 (by omega) (by omega) F.len
  have k3 := zpg s'.width s'.now s'.given s'.births (k := 1) (by omega) (by omega) F.len k2
  generalize hc : cntS (encK s'.things) (encP s'.pins) (encL s'.leases) = cs at cn k1 k3
  obtain ⟨Q2, M2, q1, q2⟩ := zhk r'.phase r'.top r'.at_ r'.rounds (encS r'.queue) (encS r'.marked) (1 + cs) (by omega) (by rw [zk, zk]; omega)
  have q3 := zpf r'.phase r'.top r'.at_ r'.rounds (k := 1 + cs) (by omega) (by rw [zk, zk]; omega) q2
  rw [zk, zk] at r1 q1 q3
  obtain ⟨D2, d1, d2⟩ := zoo (encS d) (1 + cs + ((r'.queue.length : Int) + (r'.marked.length : Int))) (by omega) (by rw [zk]; omega)
  rw [zk] at d1 d2
  have e1 : Lqb6 none [.i c, .i s'.width, .i s'.now, .i s'.given, .i s'.births, .l (encK s'.things), .l (encP s'.pins), .l (encL s'.leases), .i r'.phase, .l (encS r'.queue), .l (encS r'.marked), .i r'.top, .i r'.at_, .i r'.rounds, .l (encS d), .i c, .i s'.width, .i s'.now, .i s'.given, .i s'.births, .l (encK s'.things), .l (encP s'.pins), .l (encL s'.leases), .i r'.phase, .l (encS r'.queue), .l (encS r'.marked), .i r'.top, .i r'.at_, .i r'.rounds, .l (encS d)] = some [.b true] := by
    rw [eqb6_i]
    simp (disch := omega) only [push_cast, F.eq, zka r'.phase r'.top r'.at_ r'.rounds (encS r'.queue) (encS r'.marked) (by rw [zk]; omega) (by rw [zk]; omega), zeo (encS d) (by rw [zk]; omega)]
  have e2 : Lqcn none [.i c, .i s'.width, .i s'.now, .i s'.given, .i s'.births, .i r'.phase, .i r'.top, .i r'.at_, .i r'.rounds, .i 1, .l (encK s'.things), .l (encP s'.pins), .l (encL s'.leases), .l (encS r'.queue), .l (encS r'.marked), .l (encS d)] = some [.i (1 + cs + ((r'.queue.length : Int) + (r'.marked.length : Int)) + (d.length : Int)), .l T2, .l P2, .l L2, .l Q2, .l M2, .l D2] := by
    rw [eqcn_i]; simp (disch := omega) only [push_cast, k1, q1, d1]
  have e3 : Lqce none [.i c, .i s'.width, .i s'.now, .i s'.given, .i s'.births, .l T2, .l P2, .l L2, .i r'.phase, .l Q2, .l M2, .i r'.top, .i r'.at_, .i r'.rounds, .l D2, .i 1] = some [.i (1 + cs + ((r'.queue.length : Int) + (r'.marked.length : Int)) + (d.length : Int))] := by
    rw [eqce_i]; simp (disch := omega) only [push_cast, k3, q3, d2]
  simp (disch := omega) only [push_cast, y1, z1, zn0 H, zoy R, o1, o2, e1, H.eq, zka r.phase r.top r.at_ r.rounds (encS r.queue) (encS r.marked) (by rw [zk]; omega) (by rw [zk]; omega), m1, r1, e2, e3]
end KV
end
