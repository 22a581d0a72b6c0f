/- Part 2 of the proof of FnForms: what it leans on. -/
import Derived.Test.YtpnblgbkjbpeoaaM1
import Derived.Test.YtpnblgbkjbpeoaaProg
import Derived.Below
import Derived.Deep.Draws
import Derived.Deep.AppendLies
import Derived.Maps.AppendAt
import Derived.OwnWalk
import Derived.Laws.BytesArg
import Derived.Laws.MakeOwn
import Derived.Laws.OwnMore
import Derived.Deep.OwnRows
import Derived.Tactics
import Derived.Lib.ConvBytes
import Derived.Laws.Slices
import Derived.WalkKit
import Derived.KernelRfl
import Derived.RowKit3
import Derived.Deep.LoopGhost
import Derived.Deep.QuietTactic
import Derived.BigQuiet
import Derived.WideLaws
import Derived.Deep.DeepCutAuto
import Derived.Deep.CutBlock
import Derived.Deep.RegionHeld3
import Derived.Laws.Rows
import Derived.Lib.AppendStr
import Derived.ArgAppend
import Derived.Laws.IdiomCopy
import Derived.OrdersHeld
import Derived.Laws.BitsLemmas
import Derived.RowKit
import Derived.Laws.Cover1

/- Words beside the print's: a text appended to a row of bytes as one step of a region that draws its order. -/
namespace Go.Proofs.YtpnblgbkjbpeoaaW.PrintWords
open Go.RowKit
theorem nil_isE (l : List UInt8) : l.isEmpty = !(l != []) := by cases l <;> rfl
section
variable {P : Program} {ops : Array Oper} {o : Oper} {a : Act} {Q : Exit → Act → World → Prop} {Kc : Act → World → Prop}
theorem print_append_str_step {w0 W : World} (base : Nat) (hw : Region.wanted o (yielded ops a.tmps) = true) (s x : Operand) (t u e : TypeId)
    (ho : o.op = .call { callee := .builtin .append, args := #[s, x], argTypes := #[t, u] })
    (ht : P.underlying t = some (.slice e)) (hu : P.underlying u = some .string) (hinfo : (P.info? e).map (fun i => (i.zero, i.size, i.bytes)) = some (some (.int .u8 0), 1, 1))
    (v : Value) (xs : List Int) (y : ByteArray) (hs : a.eval s = v) (hx : a.eval x = .string y)
    (HO : W.ownsRow base e 1 v xs.length (nums .u8 xs)) (HB : Below base w0 W) (hbase : base ≤ W.heap.size) (hl : xs.length + y.size ≤ 140737488355328)
    (h : ∀ v1 w1, w1.ownsRow base e 1 v1 (xs ++ bytesOf y).length (nums .u8 (xs ++ bytesOf y)) → Below base w0 w1 → W.grownBy w1 v.ownBlock → Kc (a.put o.dst v1) w1) :
    if Region.wanted o (yielded ops a.tmps) = true then Oper.wp P o a W Kc Q else Kc (a.put o.dst undef) W := by
  obtain ⟨i0, hi, hzz⟩ := Option.map_eq_some_iff.1 hinfo
  simp only [Prod.mk.injEq] at hzz
  obtain ⟨hz0, hz1, hz2⟩ := hzz
  obtain ⟨v1, w1, hr, h2, hg, _⟩ := Lib.run_append_own_string (P := P) W base t u o.type e i0 ht hu hi hz0 hz1 hz2 v xs.length (nums .u8 xs) HO y (by simp only [maxLen]; omega) hl hbase
  have hl2 : (xs ++ bytesOf y).length = xs.length + y.size := by rw [List.length_append, bytesOf_length]
  have hc : nums .u8 (xs ++ bytesOf y) = nums .u8 xs ++ Lib.strCells y := by
    rw [nums_append]
    congr 1
    simp [nums, bytesOf, Lib.strCells]
  rw [if_pos hw]
  unfold Oper.wp execOp
  simp only [ho, resolve, invoke, builtin, Sem.run_bind, Sem.run_pure, Result.andThen_ok, List.map_toArray, List.map_cons, List.map_nil, hs, hx, hr]
  exact h v1 w1 (by rw [hl2, hc]; exact h2) (HB.grown hg hbase (own_base HO)) hg
end
end Go.Proofs.YtpnblgbkjbpeoaaW.PrintWords

namespace Go.Proofs.Ytpnblgbkjbpeoaa.P
open Go.RowKit Go.Proofs.YtpnblgbkjbpeoaaW.PrintWords Go.Proofs.YtpnblgbkjbpeoaaW.PrintLast Go.Proofs.YtpnblgbkjbpeoaaW.PrintMore
attribute [local go_sem] max2_int min2_int max_two min_two max_three min_three max_four min_four   -- for this text's walks alone
set_option linter.unusedVariables false
set_option linter.unusedSimpArgs false

def errW : Option Int → Value
  | none => .nilIface
  | some c => .iface 0 (.int .i64 c)
theorem errW_none : errW none = .nilIface := rfl
theorem errW_some (c : Int) : errW (some c) = .iface 0 (.int .i64 c) := rfl

theorem info5 : (Try.prog.info? 5).map (fun i => (i.zero, i.size, i.bytes)) = some (some (.int .u8 0), 1, 1) := by kernel_rfl
theorem info9 : (Try.prog.info? 9).map (fun i => (i.zero, i.size, i.bytes)) = some (some (.string ⟨#[]⟩), 1, 16) := by kernel_rfl
-- the values' own types

end Go.Proofs.Ytpnblgbkjbpeoaa.P
namespace Go.Proofs.Ytpnblgbkjbpeoaa.P
open Go.RowKit Go.Proofs.YtpnblgbkjbpeoaaW.PrintWords Go.Proofs.YtpnblgbkjbpeoaaW.PrintLast Go.Proofs.YtpnblgbkjbpeoaaW.PrintMore
theorem bel__ {p : Prop} (h : p := by repeat (first | (with_reducible first | exact HB.out | apply below_alloc | apply pw_below_drewN | apply below_drew1 | refine below_set ?_ (Aside0.out (by assumption))) | exact HB.out)) : p := h
theorem blk__ {p q : Prop} (h : p) (f : p → q := by intro hh_; (with_reducible repeat (first | refine blk_drewN ?_ _ | refine blk_drew ?_ | refine blk_alloc ?_ _)); exact hh_) : q := f h
theorem rr__ {p q : Prop} (h : p) (f : p → q := by intro hh_; (with_reducible repeat (first | apply Kd.R_alloc | apply Kd.R_drewN | apply Kd.R_drew)); exact hh_) : q := f h
theorem rf__ {p : Prop} (h : p := by first | rfl | (simp; done) | (simp [*]; done) | (simp; exact nil_isE _) | (simp; exact (nil_isE _).symm)) : p := h
theorem ar__ {p : Prop} (h : p := by (try simp only [List.map_toArray, List.map_cons, List.map_nil]); first | done | rfl | (simp only [List.length_drop, List.length_take]; rfl)) : p := h
theorem kee__ {p : Prop} (h : p := by repeat (first | (with_reducible first | exact HK.out | apply KeepBut.set_ | apply keep_drewN | apply keep_drew | apply keep_alloc) | exact HK.out)) : p := h
abbrev ob__ (A : Option Addr) (n c : Nat) : Option Nat := (Value.slice A n c).ownBlock
theorem h2__ {p q : Nat → Prop} : ∀ k, p k ∧ q k → q k := fun _ h => h.2
theorem h1__ {p q : Nat → Prop} : ∀ k, p k ∧ q k → p k := fun _ h => h.1
theorem blb__ {W0 W w1 : World} {g : Nat} {o : Obj} (h : W0.heap[g]? = some o) (hb : Below W.heap.size W w1) (f : W0.heap[g]? = some o → W.heap[g]? = some o := by intro hh_; (with_reducible repeat (first | refine blk_drewN ?_ _ | refine blk_drew ?_ | refine blk_alloc ?_ _)); exact hh_) : w1.heap[g]? = some o := blk_below (f h) hb
theorem nl__ {W0 W : World} {g g' : Nat} {o : Obj} (hg : g' = W.heap.size) (h : W0.heap[g]? = some o) (f : W0.heap[g]? = some o → W.heap[g]? = some o := by intro hh_; (with_reducible repeat (first | refine blk_drewN ?_ _ | refine blk_drew ?_ | refine blk_alloc ?_ _)); exact hh_) : g ≠ g' := by rw [hg]; exact Nat.ne_of_lt (blk_lt (f h))
theorem ng__ {W0 W : World} {g g' : Nat} {o : Obj} (hg : g' = W.heap.size) (h : W0.heap[g]? = some o) (f : W0.heap[g]? = some o → W.heap[g]? = some o := by intro hh_; (with_reducible repeat (first | refine blk_drewN ?_ _ | refine blk_drew ?_ | refine blk_alloc ?_ _)); exact hh_) : g' ≠ g := by rw [hg]; exact Nat.ne_of_gt (blk_lt (f h))
theorem bps__ {p q : Prop} (h : q) (f : q → p := by intro hh_; (with_reducible repeat (first | refine blk_drewN ?_ _ | refine blk_drew ?_ | refine blk_alloc ?_ _)); exact hh_) : p := f h
theorem rps__ {p q : Prop} (h : q) (f : q → p := by intro hh_; (with_reducible repeat (first | apply Kd.R_alloc | apply Kd.R_drewN | apply Kd.R_drew)); exact hh_) : p := f h
theorem kef__ {p : Prop} (h : p := by repeat (first | (with_reducible first | exact HK.out | apply KeepBut.set_ | apply keep_drewN | apply keep_drew | apply keep_alloc | refine keep_far ?_ (Aside0.out (by assumption)) _) | exact HK.out)) : p := h
theorem am__ {p : Prop} (h : p) : Aside0 p := Aside0.mk h
theorem gl__ {P : Program} {ops : Array Oper} {Q : Exit → Act → World → Prop} {rest : List Oper} {oi : Oper} {a : Act} {w : World} (N : Option Tmp) {f : FuncId} {fn : Func} (hf : P.funcs[f]? = some fn) {xs : Array Operand} {ts : Array TypeId} (args : Array Value)
    (h : Calls P f args w fun e w' => ∃ v, e = .returned v ∧ wpList P ops Q rest (a.put N v) w') (hd : oi.dst = N := by rfl) (hg : oi.guard = none := by rfl) (hname : (fn.name == "runtime.NumGoroutine") = false := by kernel_rfl) (hb : fn.body.isSome = true := by rfl)
    (hop : oi.op = .call { callee := .value (.func f), args := xs, argTypes := ts } := by rfl) (hargs : xs.map a.eval = args := by (try simp only [List.map_toArray, List.map_cons, List.map_nil]); first | done | rfl | (simp only [List.length_drop, List.length_take]; rfl)) : wpList P ops Q (oi :: rest) a w := goesL_ N hd hg hf hname hb args hop hargs h
theorem be__ {P : Program} {ops : Array Oper} {o : Oper} {rest : List Oper} {a : Act} {Q : Exit → Act → World → Prop} {W : World} (N : Tmp) (cs : Array Value) (t : TypeId)
    (h : ∀ g, g = W.heap.size → ∀ w1, w1.heap[g]? = some (.cells cs t (0, 0)) → Below W.heap.size W w1 → wpList P ops Q rest (a.put o.dst (.pointer (some ⟨g, 0, none⟩))) w1) (hd : o.dst = some N := by rfl) (hgd : o.guard = none := by rfl)
    (hrun : (execOp a.eval o).run P W = .ok (.value (.pointer (some ⟨W.heap.size, 0, none⟩))) (W.alloc (.cells cs t (0, 0))) := by first | (go_simp; done) | (go_simp; rfl)) : wpList P ops Q (o :: rest) a W := box_event hgd hd hrun h
theorem kbl__ {W0 w w1 : World} {g g' : Nat} {row : Option Nat} {o : Obj} (hk : KeepBut w w1 g row) (h : W0.heap[g']? = some o) (hne : g' ≠ g) (f : W0.heap[g']? = some o → w.heap[g']? = some o := by intro hh_; (with_reducible repeat (first | refine blk_drewN ?_ _ | refine blk_drew ?_ | refine blk_alloc ?_ _)); exact hh_) (hr : some g' ≠ row := by simp) : w1.heap[g']? = some o := KeepBut.blk hk (f h) hne hr
theorem bpu__ {W0 W : World} {g : Nat} {t : TypeId} {cs cs' : Array Value} (h : W0.heap[g]? = some (.cells cs t (0, 0)))
    (f : W0.heap[g]? = some (.cells cs t (0, 0)) → W.heap[g]? = some (.cells cs' t (0, 0)) := by intro hh_; apply Eq.trans; (repeat (first | (with_reducible first | apply blk_drewN | apply blk_drew | apply blk_alloc | apply blk_set) | (apply blk_far; rotate_left 1; (apply Aside0.out; assumption); rotate_right 1))); exact hh_; rfl) : W.heap[g]? = some (.cells cs' t (0, 0)) := f h
theorem bsz__ {w W : World} {g : Nat} (hg : g = W.heap.size) (h : Below w.heap.size w W) : w.heap.size ≤ g := by rw [hg]; exact below_size h
theorem nlt__ {g g' n : Nat} (hg : g' = n) (h : g < n) : g ≠ g' := by rw [hg]; exact Nat.ne_of_lt h
theorem ngt__ {g g' n : Nat} (hg : g' = n) (h : g < n) : g' ≠ g := by rw [hg]; exact Nat.ne_of_gt h
theorem bgr__ {W0 w w1 : World} {g : Nat} {o : Obj} {row : Option Nat} (h : W0.heap[g]? = some o) (hg : w.grownBy w1 row) (hne : some g ≠ row) (f : W0.heap[g]? = some o → w.heap[g]? = some o := by intro hh_; (with_reducible repeat (first | refine blk_drewN ?_ _ | refine blk_drew ?_ | refine blk_alloc ?_ _)); exact hh_) : w1.heap[g]? = some o := blk_grown (f h) hg hne
theorem b0_l__ {p : Prop} (h : p := by repeat (first | (with_reducible first | exact HB.out | apply below_alloc | apply pw_below_drewN | apply below_drew1 | refine below_set ?_ (IsS104.ge HI0.out) | refine below_set ?_ (Aside0.out (by assumption))) | exact HB.out)) : p := h
theorem b1005_l__ {p : Prop} (h : p := by repeat (first | (with_reducible first | exact HB.out | apply below_alloc | apply pw_below_drewN | apply below_drew1 | refine below_set ?_ (IsS104.ge HI1005.out) | refine below_set ?_ (Aside0.out (by assumption))) | exact HB.out)) : p := h
theorem b1087_l__ {p : Prop} (h : p := by repeat (first | (with_reducible first | exact HB.out | apply below_alloc | apply pw_below_drewN | apply below_drew1 | refine below_set ?_ (IsS104.ge HI1087.out) | refine below_set ?_ (Aside0.out (by assumption))) | exact HB.out)) : p := h
theorem b1135_l__ {p : Prop} (h : p := by repeat (first | (with_reducible first | exact HB.out | apply below_alloc | apply pw_below_drewN | apply below_drew1 | refine below_set ?_ (IsS104.ge HI1135.out) | refine below_set ?_ (Aside0.out (by assumption))) | exact HB.out)) : p := h
theorem b1149_l__ {p : Prop} (h : p := by repeat (first | (with_reducible first | exact HB.out | apply below_alloc | apply pw_below_drewN | apply below_drew1 | refine below_set ?_ (IsS104.ge HI1149.out) | refine below_set ?_ (Aside0.out (by assumption))) | exact HB.out)) : p := h
theorem bk2__ {w : World} {g : Nat} {t : TypeId} {v0 v1 : Value} (h : w.heap[g]? = some (.cells #[v0, v1] t (0, 0))) : w.cell? ⟨g, 0, none⟩ = some v0 ∧ w.cell? ⟨g, 1, none⟩ = some v1 ∧ w.frozen? ⟨g, 0, none⟩ = false ∧ w.frozen? ⟨g, 1, none⟩ = false := ⟨(blk_cell h 0).trans rfl, (blk_cell h 1).trans rfl, blk_frozen h 0, blk_frozen h 1⟩
theorem bk6__ {w : World} {g : Nat} {t : TypeId} {v0 v1 v2 v3 v4 v5 : Value} (h : w.heap[g]? = some (.cells #[v0, v1, v2, v3, v4, v5] t (0, 0))) : w.cell? ⟨g, 0, none⟩ = some v0 ∧ w.cell? ⟨g, 1, none⟩ = some v1 ∧ w.cell? ⟨g, 2, none⟩ = some v2 ∧ w.cell? ⟨g, 3, none⟩ = some v3 ∧ w.cell? ⟨g, 4, none⟩ = some v4 ∧ w.cell? ⟨g, 5, none⟩ = some v5 ∧ w.frozen? ⟨g, 0, none⟩ = false ∧ w.frozen? ⟨g, 1, none⟩ = false ∧ w.frozen? ⟨g, 2, none⟩ = false ∧ w.frozen? ⟨g, 3, none⟩ = false ∧ w.frozen? ⟨g, 4, none⟩ = false ∧ w.frozen? ⟨g, 5, none⟩ = false := ⟨(blk_cell h 0).trans rfl, (blk_cell h 1).trans rfl, (blk_cell h 2).trans rfl, (blk_cell h 3).trans rfl, (blk_cell h 4).trans rfl, (blk_cell h 5).trans rfl, blk_frozen h 0, blk_frozen h 1, blk_frozen h 2, blk_frozen h 3, blk_frozen h 4, blk_frozen h 5⟩
theorem hhi0__iss104 {p : Prop} (h : p := by repeat (first | (with_reducible first | exact HI0.out | apply IsS104.alloc | apply IsS104.drewN | apply IsS104.drew | apply IsS104.set_1 | refine IsS104.far ?_ (Aside0.out (by assumption)) _) | exact HI0.out)) : p := h
theorem hhi1005__iss104 {p : Prop} (h : p := by repeat (first | (with_reducible first | exact HI1005.out | apply IsS104.alloc | apply IsS104.drewN | apply IsS104.drew | apply IsS104.set_1 | refine IsS104.far ?_ (Aside0.out (by assumption)) _) | exact HI1005.out)) : p := h
theorem hhi1087__iss104 {p : Prop} (h : p := by repeat (first | (with_reducible first | exact HI1087.out | apply IsS104.alloc | apply IsS104.drewN | apply IsS104.drew | apply IsS104.set_1 | refine IsS104.far ?_ (Aside0.out (by assumption)) _) | exact HI1087.out)) : p := h
theorem hhi1135__iss104 {p : Prop} (h : p := by repeat (first | (with_reducible first | exact HI1135.out | apply IsS104.alloc | apply IsS104.drewN | apply IsS104.drew | apply IsS104.set_1 | refine IsS104.far ?_ (Aside0.out (by assumption)) _) | exact HI1135.out)) : p := h
theorem hhi1149__iss104 {p : Prop} (h : p := by repeat (first | (with_reducible first | exact HI1149.out | apply IsS104.alloc | apply IsS104.drewN | apply IsS104.drew | apply IsS104.set_1 | refine IsS104.far ?_ (Aside0.out (by assumption)) _) | exact HI1149.out)) : p := h
theorem blf1__ {p q : Prop} (h : p) (f : p → q := by intro hh_; (with_reducible repeat (first | refine blk_drewN ?_ _ | refine blk_drew ?_ | refine blk_alloc ?_ _)); refine blk_far ?_ (Aside0.out (by assumption)) _; (with_reducible repeat (first | refine blk_drewN ?_ _ | refine blk_drew ?_ | refine blk_alloc ?_ _)); exact hh_) : q := f h
theorem blf2__ {p q : Prop} (h : p) (f : p → q := by intro hh_; (with_reducible repeat (first | refine blk_drewN ?_ _ | refine blk_drew ?_ | refine blk_alloc ?_ _)); refine blk_far ?_ (Aside0.out (by assumption)) _; (with_reducible repeat (first | refine blk_drewN ?_ _ | refine blk_drew ?_ | refine blk_alloc ?_ _)); refine blk_far ?_ (Aside0.out (by assumption)) _; (with_reducible repeat (first | refine blk_drewN ?_ _ | refine blk_drew ?_ | refine blk_alloc ?_ _)); exact hh_) : q := f h
theorem blf4__ {p q : Prop} (h : p) (f : p → q := by intro hh_; (with_reducible repeat (first | refine blk_drewN ?_ _ | refine blk_drew ?_ | refine blk_alloc ?_ _)); refine blk_far ?_ (Aside0.out (by assumption)) _; (with_reducible repeat (first | refine blk_drewN ?_ _ | refine blk_drew ?_ | refine blk_alloc ?_ _)); refine blk_far ?_ (Aside0.out (by assumption)) _; (with_reducible repeat (first | refine blk_drewN ?_ _ | refine blk_drew ?_ | refine blk_alloc ?_ _)); refine blk_far ?_ (Aside0.out (by assumption)) _; (with_reducible repeat (first | refine blk_drewN ?_ _ | refine blk_drew ?_ | refine blk_alloc ?_ _)); refine blk_far ?_ (Aside0.out (by assumption)) _; (with_reducible repeat (first | refine blk_drewN ?_ _ | refine blk_drew ?_ | refine blk_alloc ?_ _)); exact hh_) : q := f h
theorem blf6__ {p q : Prop} (h : p) (f : p → q := by intro hh_; (with_reducible repeat (first | refine blk_drewN ?_ _ | refine blk_drew ?_ | refine blk_alloc ?_ _)); refine blk_far ?_ (Aside0.out (by assumption)) _; (with_reducible repeat (first | refine blk_drewN ?_ _ | refine blk_drew ?_ | refine blk_alloc ?_ _)); refine blk_far ?_ (Aside0.out (by assumption)) _; (with_reducible repeat (first | refine blk_drewN ?_ _ | refine blk_drew ?_ | refine blk_alloc ?_ _)); refine blk_far ?_ (Aside0.out (by assumption)) _; (with_reducible repeat (first | refine blk_drewN ?_ _ | refine blk_drew ?_ | refine blk_alloc ?_ _)); refine blk_far ?_ (Aside0.out (by assumption)) _; (with_reducible repeat (first | refine blk_drewN ?_ _ | refine blk_drew ?_ | refine blk_alloc ?_ _)); refine blk_far ?_ (Aside0.out (by assumption)) _; (with_reducible repeat (first | refine blk_drewN ?_ _ | refine blk_drew ?_ | refine blk_alloc ?_ _)); refine blk_far ?_ (Aside0.out (by assumption)) _; (with_reducible repeat (first | refine blk_drewN ?_ _ | refine blk_drew ?_ | refine blk_alloc ?_ _)); exact hh_) : q := f h
theorem blf7__ {p q : Prop} (h : p) (f : p → q := by intro hh_; (with_reducible repeat (first | refine blk_drewN ?_ _ | refine blk_drew ?_ | refine blk_alloc ?_ _)); refine blk_far ?_ (Aside0.out (by assumption)) _; (with_reducible repeat (first | refine blk_drewN ?_ _ | refine blk_drew ?_ | refine blk_alloc ?_ _)); refine blk_far ?_ (Aside0.out (by assumption)) _; (with_reducible repeat (first | refine blk_drewN ?_ _ | refine blk_drew ?_ | refine blk_alloc ?_ _)); refine blk_far ?_ (Aside0.out (by assumption)) _; (with_reducible repeat (first | refine blk_drewN ?_ _ | refine blk_drew ?_ | refine blk_alloc ?_ _)); refine blk_far ?_ (Aside0.out (by assumption)) _; (with_reducible repeat (first | refine blk_drewN ?_ _ | refine blk_drew ?_ | refine blk_alloc ?_ _)); refine blk_far ?_ (Aside0.out (by assumption)) _; (with_reducible repeat (first | refine blk_drewN ?_ _ | refine blk_drew ?_ | refine blk_alloc ?_ _)); refine blk_far ?_ (Aside0.out (by assumption)) _; (with_reducible repeat (first | refine blk_drewN ?_ _ | refine blk_drew ?_ | refine blk_alloc ?_ _)); refine blk_far ?_ (Aside0.out (by assumption)) _; (with_reducible repeat (first | refine blk_drewN ?_ _ | refine blk_drew ?_ | refine blk_alloc ?_ _)); exact hh_) : q := f h
theorem blf8__ {p q : Prop} (h : p) (f : p → q := by intro hh_; (with_reducible repeat (first | refine blk_drewN ?_ _ | refine blk_drew ?_ | refine blk_alloc ?_ _)); refine blk_far ?_ (Aside0.out (by assumption)) _; (with_reducible repeat (first | refine blk_drewN ?_ _ | refine blk_drew ?_ | refine blk_alloc ?_ _)); refine blk_far ?_ (Aside0.out (by assumption)) _; (with_reducible repeat (first | refine blk_drewN ?_ _ | refine blk_drew ?_ | refine blk_alloc ?_ _)); refine blk_far ?_ (Aside0.out (by assumption)) _; (with_reducible repeat (first | refine blk_drewN ?_ _ | refine blk_drew ?_ | refine blk_alloc ?_ _)); refine blk_far ?_ (Aside0.out (by assumption)) _; (with_reducible repeat (first | refine blk_drewN ?_ _ | refine blk_drew ?_ | refine blk_alloc ?_ _)); refine blk_far ?_ (Aside0.out (by assumption)) _; (with_reducible repeat (first | refine blk_drewN ?_ _ | refine blk_drew ?_ | refine blk_alloc ?_ _)); refine blk_far ?_ (Aside0.out (by assumption)) _; (with_reducible repeat (first | refine blk_drewN ?_ _ | refine blk_drew ?_ | refine blk_alloc ?_ _)); refine blk_far ?_ (Aside0.out (by assumption)) _; (with_reducible repeat (first | refine blk_drewN ?_ _ | refine blk_drew ?_ | refine blk_alloc ?_ _)); refine blk_far ?_ (Aside0.out (by assumption)) _; (with_reducible repeat (first | refine blk_drewN ?_ _ | refine blk_drew ?_ | refine blk_alloc ?_ _)); exact hh_) : q := f h
theorem na__ {P : Program} {ops : Array Oper} {Q : Exit → Act → World → Prop} {md : Region.Mode} {S : World → Prop} {ds : List Nat} {fuel : Nat} {l : Array Bool} {a a' a0 : Act} {v : Value} {w : World} (N : Tmp) (h : wpAnyLast P md ops Q S ds fuel l a' w)
    (h0 : a = a0.put (some N) v := by rfl) (ha : a0.put (some N) v = a' := by simp only [Act.put, List.setIfInBounds_toArray, List.set_cons_zero, List.set_cons_succ, i64_w, i32_w]; rfl) : wpAnyLast P md ops Q S ds fuel l a w := norm_ (h0.trans ha) h
theorem no__ {P : Program} {ops : Array Oper} {Q : Exit → Act → World → Prop} {md : Region.Mode} {S : World → Prop} {ds : List Nat} {fuel : Nat} {l : Array Bool} {a a' : Act} {w : World} (h : wpAnyLast P md ops Q S ds fuel l a' w)
    (ha : a = a' := by simp only [putAll, Act.put, List.setIfInBounds_toArray, List.set_cons_zero, List.set_cons_succ, i64_w, i32_w]; rfl) : wpAnyLast P md ops Q S ds fuel l a w := norm_ ha h
theorem pu__ {P : Program} {ops : Array Oper} {Q : Exit → Act → World → Prop} {md : Region.Mode} {S : World → Prop} {ds : List Nat} {i : Nat} {N : Option Tmp} {oi : Oper} {v : Value} {fuel : Nat} {l : Array Bool} {a a' : Act} {w : World} {T : Bool × List (List Nat × List Nat)} (l' : Array Bool) (hT : rtab md ops = T)
    (h : wpAnyLast P md ops Q S ds fuel l' a' w) (hi : ops[i]? = some oi := by rfl) (hN : oi.dst = N := by rfl) (hc : anyT T l.toList l'.toList i = true := by kernel_rfl)
    (hQ : ∀ c a w, Q (.panic c) (a.put oi.dst v) w → Q (.panic c) a w := by exact fun _ _ _ h => h) (hw : Region.wanted oi (yielded ops a.tmps) = true := by rfl)
    (hy : ∀ w', (execOp a.eval oi).run P w' = .ok (.value v) w' := by intro w'; go_simp; with_reducible rfl)
    (ha : a.put N v = a' := by simp only [Act.put, List.setIfInBounds_toArray, List.set_cons_zero, List.set_cons_succ, i64_w, i32_w]; rfl) : wpAnyLast P md ops Q S ds (fuel + 1) l a w :=
  pure_ l' hi hN (any_of hT hc) hQ (Or.inl ⟨hw, hy⟩) ha h
theorem ta__ {P : Program} {ops : Array Oper} {Q : Exit → Act → World → Prop} {md : Region.Mode} {S : World → Prop} {ds : List Nat} {i : Nat} {N : Option Tmp} {oi : Oper} {v : Value} {fuel : Nat} {l : Array Bool} {a a' : Act} {w : World} {T : Bool × List (List Nat × List Nat)} {B : List Nat} (l' : Array Bool) (hT : rtab md ops = T) (hB : waitsOk T.2 B = true) (hS : S w)
    (h : wpAnyLast P md ops Q S ds fuel l' a' w) (hi : ops[i]? = some oi := by rfl) (hN : oi.dst = N := by rfl) (hc : takeW T B ds l.toList l'.toList i = true := by kernel_rfl)
    (hQ : ∀ c a w, Q (.panic c) (a.put oi.dst v) w → Q (.panic c) a w := by exact fun _ _ _ h => h) (hw : Region.wanted oi (yielded ops a.tmps) = true := by rfl)
    (hy : ∀ w', S w' → (execOp a.eval oi).run P w' = .ok (.value v) w' := by intro w' _; go_simp; with_reducible rfl)
    (ha : a.put N v = a' := by simp only [Act.put, List.setIfInBounds_toArray, List.set_cons_zero, List.set_cons_succ, i64_w, i32_w]; rfl) : wpAnyLast P md ops Q S ds (fuel + 1) l a w :=
  take_ l' hi hN (take_ofW hT hB hc) hQ (Or.inl ⟨hw, hy⟩) hS ha h
end Go.Proofs.Ytpnblgbkjbpeoaa.P

namespace Go.Proofs.Ytpnblgbkjbpeoaa.P
open Go.RowKit Go.Proofs.YtpnblgbkjbpeoaaW.PrintWords Go.Proofs.YtpnblgbkjbpeoaaW.PrintLast Go.Proofs.YtpnblgbkjbpeoaaW.PrintMore
attribute [local go_sem] max2_int min2_int max_two min_two max_three min_three max_four min_four   -- for this text's walks alone
set_option linter.unusedVariables false
set_option linter.unusedSimpArgs false
/-! ### spec_l1Width: function 56 -/
def spec_l1Width.f (a0 : Int) : Option (Bool) := if a0 ≥ 1 then (some (decide (a0 ≤ 8))) else (some false)
set_option maxHeartbeats 8000000 in
set_option maxRecDepth 100000 in
theorem spec_l1Width.calls (a0 : Int) (r : Bool) (w : World) (h : spec_l1Width.f a0 = some r) :
  Calls Try.prog 56 #[.int .i64 a0] w fun e w' => e = .returned (.bool r) ∧ Drawn0 w w' := by
 have H : (if a0 ≥ 1 then (some (decide (a0 ≤ 8))) else (some false)) = some r := h
 clear h
 by_cases c2 : a0 ≥ 1
 ·rw [if_pos c2] at H
  have c2b0 : decide (1 ≤ a0) = true := decide_eq_true c2
  clear c2
  obtain rfl := Option.some.inj H
  go_enter Try.func56, Try.ntmps56
  go_wp2
  go_ret
  exact ⟨by first | rfl | (simp; done) | (simp [*]; done), by repeat (first | exact Drawn0.refl _ | apply Drawn0.step)⟩
 ·rw [if_neg c2] at H
  have c2b0 : decide (1 ≤ a0) = false := decide_eq_false c2
  clear c2
  obtain rfl := Option.some.inj H
  go_enter Try.func56, Try.ntmps56
  go_wp2
  go_ret
  exact ⟨by first | rfl | (simp; done) | (simp [*]; done), by repeat (first | exact Drawn0.refl _ | apply Drawn0.step)⟩
end Go.Proofs.Ytpnblgbkjbpeoaa.P

namespace Go.Proofs.Ytpnblgbkjbpeoaa.P
open Go.RowKit Go.Proofs.YtpnblgbkjbpeoaaW.PrintWords Go.Proofs.YtpnblgbkjbpeoaaW.PrintLast Go.Proofs.YtpnblgbkjbpeoaaW.PrintMore
attribute [local go_sem] max2_int min2_int max_two min_two max_three min_three max_four min_four   -- for this text's walks alone
set_option linter.unusedVariables false
set_option linter.unusedSimpArgs false
/-! ### spec_l1ThingOk: function 62 -/
mutual
def spec_l1ThingOk.j0 : Nat → Int → Bool → ByteArray → List ByteArray → Option (Bool)
 | 0, _, _, _, _ => none
 | k + 1, x1, x20, x179000, x179001 => if x20 = true then (some false) else (spec_l1ThingOk.l0 k x1 0 x179000 x179001)
def spec_l1ThingOk.l0 : Nat → Int → Int → ByteArray → List ByteArray → Option (Bool)
 | 0, _, _, _, _ => none
 | k + 1, x1, x5, x179000, x179001 => if x5 < (x179001.length : Int) then (if 0 ≤ x5 then (if ((rdOf ByteArray.empty x179001 x5).size : Int) = x1 then (if x5 > 0 then (if 0 ≤ (wrap64 (x5 - 1)) then (if (wrap64 (x5 - 1)) < (x179001.length : Int) then (if ((Op.bytesLess ((rdOf ByteArray.empty x179001 (wrap64 (x5 - 1))).toList) ((rdOf ByteArray.empty x179001 x5).toList)) = true) then (spec_l1ThingOk.l0 k x1 (wrap64 (x5 + 1)) x179000 x179001) else (some false)) else (none)) else (none)) else (spec_l1ThingOk.l0 k x1 (wrap64 (x5 + 1)) x179000 x179001)) else (some false)) else (none)) else (some true)
end
def spec_l1ThingOk.f (k : Nat) (a0_0 : ByteArray) (l0_1 : List ByteArray) (a1 : Int) : Option (Bool) := (spec_l1Width.f a1).bind fun t179 => (if t179 = true then (if (a0_0.size : Int) > 2000 then (spec_l1ThingOk.j0 k a1 true a0_0 l0_1) else (spec_l1ThingOk.j0 k a1 (decide ((l0_1.length : Int) > 30)) a0_0 l0_1)) else (spec_l1ThingOk.j0 k a1 true a0_0 l0_1))
set_option maxHeartbeats 8000000 in
set_option maxRecDepth 100000 in
theorem spec_l1ThingOk.calls (k : Nat) (a0_0 : ByteArray) (A0_1 : Option Addr) (c0_1 : Nat) (l0_1 : List ByteArray) (a1 : Int) (r : Bool) (w : World) (hr0_1 : Kd.C Kd.string w A0_1 l0_1.length l0_1) (hc0_1 : l0_1.length ≤ c0_1) (h : spec_l1ThingOk.f k a0_0 l0_1 a1 = some r) :
  Calls Try.prog 62 #[.agg #[.string a0_0, .slice A0_1 l0_1.length c0_1], .int .i64 a1] w fun e w' => e = .returned (.bool r) ∧ Below w.heap.size w w' := by
 have hu38 := Try.underlying38
 have HR0_1 := Aside0.mk hr0_1
 have HC0_1 := Aside0.mk hc0_1
 clear hr0_1 hc0_1
 have HB := am__ (Below.refl w.heap.size w)
 have H : ((spec_l1Width.f a1).bind fun t179 => (if t179 = true then (if (a0_0.size : Int) > 2000 then (spec_l1ThingOk.j0 k a1 true a0_0 l0_1) else (spec_l1ThingOk.j0 k a1 (decide ((l0_1.length : Int) > 30)) a0_0 l0_1)) else (spec_l1ThingOk.j0 k a1 true a0_0 l0_1))) = some r := h
 clear h
 have HC3 := Aside0.mk H
 clear H
 go_enter Try.func62, Try.ntmps62
 go_upto_region 1 with (first | ((with_reducible refine gate_dst (N := 2) rfl ?_); (try (refine gate_guard (by rfl) ?_; dsimp only)); refine be__ 2 #[.string a0_0, .slice A0_1 l0_1.length c0_1] 38 ?_; intro gb178 hg w4 hbox hb; have BK178 := am__ (hbox); have GW178 := am__ ((bsz__ hg bel__ : w.heap.size ≤ gb178)); have GE178 := am__ ((bsz__ hg bel__ : w.heap.size ≤ gb178)); replace HB := am__ (below_step (bel__) hb); clear hb hbox hg))
 repeat (go_quiet (first | ((with_reducible refine gate_dst (N := 2) rfl ?_); (try (refine gate_guard (by rfl) ?_; dsimp only)); refine be__ 2 #[.string a0_0, .slice A0_1 l0_1.length c0_1] 38 ?_; intro gb178 hg w4 hbox hb; have BK178 := am__ (hbox); have GW178 := am__ ((bsz__ hg bel__ : w.heap.size ≤ gb178)); have GE178 := am__ ((bsz__ hg bel__ : w.heap.size ≤ gb178)); replace HB := am__ (below_step (bel__) hb); clear hb hbox hg)); go_upto_region 1 with (first | ((with_reducible refine gate_dst (N := 2) rfl ?_); (try (refine gate_guard (by rfl) ?_; dsimp only)); refine be__ 2 #[.string a0_0, .slice A0_1 l0_1.length c0_1] 38 ?_; intro gb178 hg w4 hbox hb; have BK178 := am__ (hbox); have GW178 := am__ ((bsz__ hg bel__ : w.heap.size ≤ gb178)); have GE178 := am__ ((bsz__ hg bel__ : w.heap.size ≤ gb178)); replace HB := am__ (below_step (bel__) hb); clear hb hbox hg)))
 (try simp only [Act.put, List.setIfInBounds_toArray, List.set_cons_zero, List.set_cons_succ])
 go_cut [20] (fun v20 wc => ∃ (kq : Nat) (x20_2 : Bool), v20 = .bool x20_2 ∧ Aside0 (spec_l1ThingOk.j0 kq a1 x20_2 a0_0 l0_1 = some r) ∧ Aside0 (kq ≤ k) ∧ Aside0 (wc.heap[gb178]? = some (.cells #[.string a0_0, (.slice A0_1 l0_1.length c0_1)] 38 (0, 0))) ∧ Aside0 (Below w.heap.size w wc))
 case first =>
  have H := HC3.out
  clear HC3
  replace H := Option.bind_eq_some_iff.mp H
  obtain ⟨t179, A50, H⟩ := H
  replace H : (if t179 = true then (if (a0_0.size : Int) > 2000 then (spec_l1ThingOk.j0 k a1 true a0_0 l0_1) else (spec_l1ThingOk.j0 k a1 (decide ((l0_1.length : Int) > 30)) a0_0 l0_1)) else (spec_l1ThingOk.j0 k a1 true a0_0 l0_1)) = some r := H
  have A5 := Aside0.mk A50
  clear A50
  by_cases c6 : t179 = true
  ·subst c6
   have H1 : (if (a0_0.size : Int) > 2000 then (spec_l1ThingOk.j0 k a1 true a0_0 l0_1) else (spec_l1ThingOk.j0 k a1 (decide ((l0_1.length : Int) > 30)) a0_0 l0_1)) = some r := by rw [if_pos rfl] at H; exact H
   clear H
   have H := H1
   clear H1
   by_cases c7 : (a0_0.size : Int) > 2000
   ·rw [if_pos c7] at H
    have c7b0 : decide (2000 < (a0_0.size : Int)) = true := decide_eq_true c7
    have c7b1 : decide (2000 < a0_0.size) = true := decide_eq_true (by omega)
    clear c7
    (first | rw [c7b0] | (simp only [i64_w, i32_w]; rw [c7b0]) | skip)
    have H' := Aside0.mk H
    clear H
    go_wp2_with (first | (go_at_call 56; (with_reducible refine (spec_l1Width.calls a1 true _ A5.out).mono ?_); rintro e w' ⟨rfl, ⟨nd, rfl⟩⟩; (try first | exact ⟨rfl, _, World.drewN_drewN _ _ _⟩ | exact ⟨rfl, _, Eq.trans (World.drewN_drewN _ _ _) (congrArg (World.drewN _) (Nat.add_assoc _ _ _))⟩); obtain ⟨hcz8_0, hcz8_1, hfz8_0, hfz8_1⟩ := bk2__ BK178.out))
    repeat (go_quiet (first | (go_at_call 56; (with_reducible refine (spec_l1Width.calls a1 true _ A5.out).mono ?_); rintro e w' ⟨rfl, ⟨nd, rfl⟩⟩; (try first | exact ⟨rfl, _, World.drewN_drewN _ _ _⟩ | exact ⟨rfl, _, Eq.trans (World.drewN_drewN _ _ _) (congrArg (World.drewN _) (Nat.add_assoc _ _ _))⟩); obtain ⟨hcz8_0, hcz8_1, hfz8_0, hfz8_1⟩ := bk2__ BK178.out)); try go_wp2_with (first | (go_at_call 56; (with_reducible refine (spec_l1Width.calls a1 true _ A5.out).mono ?_); rintro e w' ⟨rfl, ⟨nd, rfl⟩⟩; (try first | exact ⟨rfl, _, World.drewN_drewN _ _ _⟩ | exact ⟨rfl, _, Eq.trans (World.drewN_drewN _ _ _) (congrArg (World.drewN _) (Nat.add_assoc _ _ _))⟩); obtain ⟨hcz8_0, hcz8_1, hfz8_0, hfz8_1⟩ := bk2__ BK178.out)))
    go_meet
    case rel => exact ⟨_, (true), (rf__), H', ⟨by first | omega | exact Nat.le_refl _⟩, ⟨blk__ BK178.out⟩, ⟨bel__⟩⟩
   ·rw [if_neg c7] at H
    have c7b0 : decide (2000 < (a0_0.size : Int)) = false := decide_eq_false c7
    have c7b1 : decide (2000 < a0_0.size) = false := decide_eq_false (by omega)
    clear c7
    (first | rw [c7b0] | (simp only [i64_w, i32_w]; rw [c7b0]) | skip)
    have H' := Aside0.mk H
    clear H
    go_wp2_with (first | (go_at_call 56; (with_reducible refine (spec_l1Width.calls a1 true _ A5.out).mono ?_); rintro e w' ⟨rfl, ⟨nd, rfl⟩⟩; (try first | exact ⟨rfl, _, World.drewN_drewN _ _ _⟩ | exact ⟨rfl, _, Eq.trans (World.drewN_drewN _ _ _) (congrArg (World.drewN _) (Nat.add_assoc _ _ _))⟩); obtain ⟨hcz9_0, hcz9_1, hfz9_0, hfz9_1⟩ := bk2__ BK178.out))
    repeat (go_quiet (first | (go_at_call 56; (with_reducible refine (spec_l1Width.calls a1 true _ A5.out).mono ?_); rintro e w' ⟨rfl, ⟨nd, rfl⟩⟩; (try first | exact ⟨rfl, _, World.drewN_drewN _ _ _⟩ | exact ⟨rfl, _, Eq.trans (World.drewN_drewN _ _ _) (congrArg (World.drewN _) (Nat.add_assoc _ _ _))⟩); obtain ⟨hcz9_0, hcz9_1, hfz9_0, hfz9_1⟩ := bk2__ BK178.out)); try go_wp2_with (first | (go_at_call 56; (with_reducible refine (spec_l1Width.calls a1 true _ A5.out).mono ?_); rintro e w' ⟨rfl, ⟨nd, rfl⟩⟩; (try first | exact ⟨rfl, _, World.drewN_drewN _ _ _⟩ | exact ⟨rfl, _, Eq.trans (World.drewN_drewN _ _ _) (congrArg (World.drewN _) (Nat.add_assoc _ _ _))⟩); obtain ⟨hcz9_0, hcz9_1, hfz9_0, hfz9_1⟩ := bk2__ BK178.out)))
    go_meet
    case rel => exact ⟨_, (decide ((l0_1.length : Int) > 30)), (rf__), H', ⟨by first | omega | exact Nat.le_refl _⟩, ⟨blk__ BK178.out⟩, ⟨bel__⟩⟩
  ·replace c6 := Bool.eq_false_iff.mpr c6
   subst c6
   have H1 : (spec_l1ThingOk.j0 k a1 true a0_0 l0_1) = some r := by rw [if_neg (show ¬ (false = true) by decide)] at H; exact H
   clear H
   have H := H1
   clear H1
   have H' := Aside0.mk H
   clear H
   go_wp2_with (first | (go_at_call 56; (with_reducible refine (spec_l1Width.calls a1 false _ A5.out).mono ?_); rintro e w' ⟨rfl, ⟨nd, rfl⟩⟩; (try first | exact ⟨rfl, _, World.drewN_drewN _ _ _⟩ | exact ⟨rfl, _, Eq.trans (World.drewN_drewN _ _ _) (congrArg (World.drewN _) (Nat.add_assoc _ _ _))⟩)))
   repeat (go_quiet (first | (go_at_call 56; (with_reducible refine (spec_l1Width.calls a1 false _ A5.out).mono ?_); rintro e w' ⟨rfl, ⟨nd, rfl⟩⟩; (try first | exact ⟨rfl, _, World.drewN_drewN _ _ _⟩ | exact ⟨rfl, _, Eq.trans (World.drewN_drewN _ _ _) (congrArg (World.drewN _) (Nat.add_assoc _ _ _))⟩))); try go_wp2_with (first | (go_at_call 56; (with_reducible refine (spec_l1Width.calls a1 false _ A5.out).mono ?_); rintro e w' ⟨rfl, ⟨nd, rfl⟩⟩; (try first | exact ⟨rfl, _, World.drewN_drewN _ _ _⟩ | exact ⟨rfl, _, Eq.trans (World.drewN_drewN _ _ _) (congrArg (World.drewN _) (Nat.add_assoc _ _ _))⟩))))
   go_meet
   case rel => exact ⟨_, (true), (rf__), H', ⟨by first | omega | exact Nat.le_refl _⟩, ⟨blk__ BK178.out⟩, ⟨bel__⟩⟩
 case rest =>
  clear HC3
  try clear p2
  try clear c6
  try clear c7
  try clear c7b0
  try clear c7b1
  try clear hcz8_0 hcz8_1 hfz8_0 hfz8_1
  try clear hcz9_0 hcz9_1 hfz9_0 hfz9_1
  obtain ⟨kq, x20_2, rfl, HA, HJ2, BK178, HB⟩ := hcut
  cases kq with
  | zero => exact absurd HA.out (by simp [spec_l1ThingOk.j0])
  | succ kj2 =>
   have H := HA.out
   clear HA
   simp only [spec_l1ThingOk.j0] at H
   by_cases c10 : x20_2 = true
   ·subst c10
    have H1 : (some false) = some r := by rw [if_pos rfl] at H; exact H
    clear H
    have H := H1
    clear H1
    obtain rfl := Option.some.inj H
    go_wp2
    repeat (go_quiet (fail); try go_wp2)
    go_ret
    exact ⟨by first | rfl | (simp [errW_none, errW_some] <;> rfl) | (simp [*, errW_none, errW_some] <;> rfl), bel__⟩
   ·replace c10 := Bool.eq_false_iff.mpr c10
    subst c10
    have H1 : (spec_l1ThingOk.l0 kj2 a1 0 a0_0 l0_1) = some r := by rw [if_neg (show ¬ (false = true) by decide)] at H; exact H
    clear H
    have H := H1
    clear H1
    have H' := Aside0.mk H
    clear H
    go_wp2
    repeat (go_quiet (fail); try go_wp2)
    go_loopg [5] kj2 (fun kq v5 w' => ∃ (x5_2 : Int), v5 = .int .i64 x5_2 ∧ Aside0 (spec_l1ThingOk.l0 kq a1 x5_2 a0_0 l0_1 = some r) ∧ Aside0 (kq ≤ kj2) ∧ Aside0 (w'.heap[gb178]? = some (.cells #[.string a0_0, (.slice A0_1 l0_1.length c0_1)] 38 (0, 0))) ∧ Aside0 (Below w.heap.size w w'))
    case atStart => exact ⟨(0), (rf__), H', ⟨Nat.le_refl _⟩, ⟨blk__ BK178.out⟩, ⟨bel__⟩⟩
    case round =>
     clear H'
     try clear c1
     try clear p2
     try clear c6
     try clear c7
     try clear c7b0
     try clear c7b1
     try clear c10
     try clear hcz8_0 hcz8_1 hfz8_0 hfz8_1
     try clear hcz9_0 hcz9_1 hfz9_0 hfz9_1
     try clear p2
     obtain ⟨x5_2, rfl, HA, HK2, BK178, HB⟩ := hrel
     cases gk with
     | zero => exact absurd HA.out (by simp [spec_l1ThingOk.l0])
     | succ k2 =>
      have H := HA.out
      clear HA
      simp only [spec_l1ThingOk.l0] at H
      by_cases c11 : x5_2 < (l0_1.length : Int)
      ·rw [if_pos c11] at H
       have c11b0 : decide (x5_2 < (l0_1.length : Int)) = true := decide_eq_true c11
       clear c11
       by_cases c12 : 0 ≤ x5_2
       ·rw [if_pos c12] at H
        have c12b0 : decide (0 ≤ x5_2) = true := decide_eq_true c12
        clear c12
        by_cases c13 : ((rdOf ByteArray.empty l0_1 x5_2).size : Int) = a1
        ·rw [if_pos c13] at H
         have c13b0 : (((rdOf ByteArray.empty l0_1 x5_2).size : Int) == a1) = true := beq_iff_eq.mpr c13
         have c13b1 : (((rdOf ByteArray.empty l0_1 x5_2).size : Int) != a1) = false := bne_eq_false_iff_eq.mpr c13
         clear c13
         by_cases c14 : x5_2 > 0
         ·rw [if_pos c14] at H
          have c14b0 : decide (0 < x5_2) = true := decide_eq_true c14
          clear c14
          obtain ⟨ji15, hji15⟩ : ∃ j_ : Int, (wrap64 (x5_2 - 1)) = j_ := ⟨_, rfl⟩
          replace H : (if 0 ≤ (ji15) then (if (ji15) < (l0_1.length : Int) then (if ((Op.bytesLess ((rdOf ByteArray.empty l0_1 (ji15)).toList) ((rdOf ByteArray.empty l0_1 x5_2).toList)) = true) then (spec_l1ThingOk.l0 k2 a1 (wrap64 (x5_2 + 1)) a0_0 l0_1) else (some false)) else (none)) else (none)) = some r := by first | (rw [hji15] at H; exact H) | (simp only [hji15] at H ⊢; exact H)
          have hji15w : (IntKind.i64.wrap (x5_2 - 1)) = ji15 := (i64_w _).trans hji15
          by_cases c16 : 0 ≤ (ji15)
          ·rw [if_pos c16] at H
           have c16b0 : decide (0 ≤ (ji15)) = true := decide_eq_true c16
           clear c16
           by_cases c17 : (ji15) < (l0_1.length : Int)
           ·rw [if_pos c17] at H
            have c17b0 : decide ((ji15) < (l0_1.length : Int)) = true := decide_eq_true c17
            clear c17
            by_cases c18 : ((Op.bytesLess ((rdOf ByteArray.empty l0_1 (ji15)).toList) ((rdOf ByteArray.empty l0_1 x5_2).toList)) = true)
            ·rw [if_pos c18] at H
             have c18b0 : (Op.bytesLess ((rdOf ByteArray.empty l0_1 (ji15)).toList) ((rdOf ByteArray.empty l0_1 x5_2).toList)) = true := c18
             clear c18
             have H' := Aside0.mk H
             clear H
             have hcz19_0 : wr.cell? ⟨gb178, 0, none⟩ = some (.string a0_0) := (blk_cell BK178.out 0).trans rfl
             have hcz19_1 : wr.cell? ⟨gb178, 1, none⟩ = some (.slice A0_1 l0_1.length c0_1) := (blk_cell BK178.out 1).trans rfl
             have hfz19_0 := blk_frozen BK178.out 0
             have hfz19_1 := blk_frozen BK178.out 1
             have p180 : 0 ≤ (x5_2 : Int) := of_decide_eq_true (by first | (with_reducible assumption) | assumption)
             have q180 : x5_2 < (l0_1.length : Int) := of_decide_eq_true (by first | (with_reducible assumption) | assumption)
             obtain ⟨ad180, e180, hx180_0⟩ := Kd.at_string HR0_1.out x5_2 p180 q180
             cases e180
             try replace hx180_0 := (HB.out.cell (World.block_lt_of_cell? w _ hx180_0)).trans hx180_0
             replace p180 := eq_true p180
             replace q180 := eq_true q180
             have p181 : 0 ≤ ((ji15) : Int) := of_decide_eq_true (by first | (with_reducible assumption) | assumption)
             have q181 : (ji15) < (l0_1.length : Int) := of_decide_eq_true (by first | (with_reducible assumption) | assumption)
             obtain ⟨ad181, e181, hx181_0⟩ := Kd.at_string HR0_1.out (ji15) p181 q181
             obtain rfl : ad180 = ad181 := (by injection e181)
             try replace hx181_0 := (HB.out.cell (World.block_lt_of_cell? w _ hx181_0)).trans hx181_0
             replace p181 := eq_true p181
             replace q181 := eq_true q181
             have p182 : 0 ≤ (x5_2 : Int) := of_decide_eq_true (by first | (with_reducible assumption) | assumption)
             have q182 : x5_2 < (l0_1.length : Int) := of_decide_eq_true (by first | (with_reducible assumption) | assumption)
             obtain ⟨ad182, e182, hx182_0⟩ := Kd.at_string HR0_1.out x5_2 p182 q182
             obtain rfl : ad180 = ad182 := (by injection e182)
             try replace hx182_0 := (HB.out.cell (World.block_lt_of_cell? w _ hx182_0)).trans hx182_0
             replace p182 := eq_true p182
             replace q182 := eq_true q182
             go_wp2
             repeat (go_quiet (fail); try go_wp2)
             go_roundg k2
             case measure => have := HJ2.out; have := HK2.out; omega
             case rel => exact ⟨(wrap64 (x5_2 + 1)), (rf__), H', ⟨by have := HJ2.out; have := HK2.out; omega⟩, ⟨blk__ BK178.out⟩, ⟨bel__⟩⟩
            ·rw [if_neg c18] at H
             have c18b0 : (Op.bytesLess ((rdOf ByteArray.empty l0_1 (ji15)).toList) ((rdOf ByteArray.empty l0_1 x5_2).toList)) = false := by simpa using c18
             clear c18
             obtain rfl := Option.some.inj H
             have hcz20_0 : wr.cell? ⟨gb178, 0, none⟩ = some (.string a0_0) := (blk_cell BK178.out 0).trans rfl
             have hcz20_1 : wr.cell? ⟨gb178, 1, none⟩ = some (.slice A0_1 l0_1.length c0_1) := (blk_cell BK178.out 1).trans rfl
             have hfz20_0 := blk_frozen BK178.out 0
             have hfz20_1 := blk_frozen BK178.out 1
             have p180 : 0 ≤ (x5_2 : Int) := of_decide_eq_true (by first | (with_reducible assumption) | assumption)
             have q180 : x5_2 < (l0_1.length : Int) := of_decide_eq_true (by first | (with_reducible assumption) | assumption)
             obtain ⟨ad180, e180, hx180_0⟩ := Kd.at_string HR0_1.out x5_2 p180 q180
             cases e180
             try replace hx180_0 := (HB.out.cell (World.block_lt_of_cell? w _ hx180_0)).trans hx180_0
             replace p180 := eq_true p180
             replace q180 := eq_true q180
             have p181 : 0 ≤ ((ji15) : Int) := of_decide_eq_true (by first | (with_reducible assumption) | assumption)
             have q181 : (ji15) < (l0_1.length : Int) := of_decide_eq_true (by first | (with_reducible assumption) | assumption)
             obtain ⟨ad181, e181, hx181_0⟩ := Kd.at_string HR0_1.out (ji15) p181 q181
             obtain rfl : ad180 = ad181 := (by injection e181)
             try replace hx181_0 := (HB.out.cell (World.block_lt_of_cell? w _ hx181_0)).trans hx181_0
             replace p181 := eq_true p181
             replace q181 := eq_true q181
             have p182 : 0 ≤ (x5_2 : Int) := of_decide_eq_true (by first | (with_reducible assumption) | assumption)
             have q182 : x5_2 < (l0_1.length : Int) := of_decide_eq_true (by first | (with_reducible assumption) | assumption)
             obtain ⟨ad182, e182, hx182_0⟩ := Kd.at_string HR0_1.out x5_2 p182 q182
             obtain rfl : ad180 = ad182 := (by injection e182)
             try replace hx182_0 := (HB.out.cell (World.block_lt_of_cell? w _ hx182_0)).trans hx182_0
             replace p182 := eq_true p182
             replace q182 := eq_true q182
             go_wp2
             repeat (go_quiet (fail); try go_wp2)
             go_ret
             exact ⟨by first | rfl | (simp [errW_none, errW_some] <;> rfl) | (simp only [← hji15]; first | rfl | (simp [errW_none, errW_some] <;> rfl)) | (simp [*, errW_none, errW_some] <;> rfl), bel__⟩
           ·rw [if_neg c17] at H
            exact absurd H (by simp)
          ·rw [if_neg c16] at H
           exact absurd H (by simp)
         ·rw [if_neg c14] at H
          have c14b0 : decide (0 < x5_2) = false := decide_eq_false c14
          clear c14
          have H' := Aside0.mk H
          clear H
          have hcz21_0 : wr.cell? ⟨gb178, 0, none⟩ = some (.string a0_0) := (blk_cell BK178.out 0).trans rfl
          have hcz21_1 : wr.cell? ⟨gb178, 1, none⟩ = some (.slice A0_1 l0_1.length c0_1) := (blk_cell BK178.out 1).trans rfl
          have hfz21_0 := blk_frozen BK178.out 0
          have hfz21_1 := blk_frozen BK178.out 1
          have p180 : 0 ≤ (x5_2 : Int) := of_decide_eq_true (by first | (with_reducible assumption) | assumption)
          have q180 : x5_2 < (l0_1.length : Int) := of_decide_eq_true (by first | (with_reducible assumption) | assumption)
          obtain ⟨ad180, e180, hx180_0⟩ := Kd.at_string HR0_1.out x5_2 p180 q180
          cases e180
          try replace hx180_0 := (HB.out.cell (World.block_lt_of_cell? w _ hx180_0)).trans hx180_0
          replace p180 := eq_true p180
          replace q180 := eq_true q180
          go_wp2
          repeat (go_quiet (fail); try go_wp2)
          go_roundg k2
          case measure => have := HJ2.out; have := HK2.out; omega
          case rel => exact ⟨(wrap64 (x5_2 + 1)), (rf__), H', ⟨by have := HJ2.out; have := HK2.out; omega⟩, ⟨blk__ BK178.out⟩, ⟨bel__⟩⟩
        ·rw [if_neg c13] at H
         have c13b0 : (((rdOf ByteArray.empty l0_1 x5_2).size : Int) == a1) = false := beq_eq_false_iff_ne.mpr c13
         have c13b1 : (((rdOf ByteArray.empty l0_1 x5_2).size : Int) != a1) = true := bne_iff_ne.mpr c13
         obtain rfl := Option.some.inj H
         have hcz22_0 : wr.cell? ⟨gb178, 0, none⟩ = some (.string a0_0) := (blk_cell BK178.out 0).trans rfl
         have hcz22_1 : wr.cell? ⟨gb178, 1, none⟩ = some (.slice A0_1 l0_1.length c0_1) := (blk_cell BK178.out 1).trans rfl
         have hfz22_0 := blk_frozen BK178.out 0
         have hfz22_1 := blk_frozen BK178.out 1
         have p180 : 0 ≤ (x5_2 : Int) := of_decide_eq_true (by first | (with_reducible assumption) | assumption)
         have q180 : x5_2 < (l0_1.length : Int) := of_decide_eq_true (by first | (with_reducible assumption) | assumption)
         obtain ⟨ad180, e180, hx180_0⟩ := Kd.at_string HR0_1.out x5_2 p180 q180
         cases e180
         try replace hx180_0 := (HB.out.cell (World.block_lt_of_cell? w _ hx180_0)).trans hx180_0
         replace p180 := eq_true p180
         replace q180 := eq_true q180
         go_wp2
         repeat (go_quiet (fail); try go_wp2)
         go_ret
         exact ⟨by first | rfl | (simp [errW_none, errW_some] <;> rfl) | (simp [*, errW_none, errW_some] <;> rfl), bel__⟩
       ·rw [if_neg c12] at H
        exact absurd H (by simp)
      ·rw [if_neg c11] at H
       have c11b0 : decide (x5_2 < (l0_1.length : Int)) = false := decide_eq_false c11
       clear c11
       obtain rfl := Option.some.inj H
       have hcz23_0 : wr.cell? ⟨gb178, 0, none⟩ = some (.string a0_0) := (blk_cell BK178.out 0).trans rfl
       have hcz23_1 : wr.cell? ⟨gb178, 1, none⟩ = some (.slice A0_1 l0_1.length c0_1) := (blk_cell BK178.out 1).trans rfl
       have hfz23_0 := blk_frozen BK178.out 0
       have hfz23_1 := blk_frozen BK178.out 1
       go_wp2
       repeat (go_quiet (fail); try go_wp2)
       go_ret
       exact ⟨by first | rfl | (simp [errW_none, errW_some] <;> rfl) | (simp [*, errW_none, errW_some] <;> rfl), bel__⟩
end Go.Proofs.Ytpnblgbkjbpeoaa.P

namespace Go.Proofs.Ytpnblgbkjbpeoaa.P
open Go.RowKit Go.Proofs.YtpnblgbkjbpeoaaW.PrintWords Go.Proofs.YtpnblgbkjbpeoaaW.PrintLast Go.Proofs.YtpnblgbkjbpeoaaW.PrintMore
attribute [local go_sem] max2_int min2_int max_two min_two max_three min_three max_four min_four   -- for this text's walks alone
set_option linter.unusedVariables false
set_option linter.unusedSimpArgs false
/-! ### spec_FormThing: function 23 -/
def spec_FormThing.l0 : Nat → List Int → Int → ByteArray → List ByteArray → Option (ByteArray)
 | 0, _, _, _, _ => none
 | k + 1, x5, x6, x184000, x184001 => if x6 < (x184001.length : Int) then (if 0 ≤ x6 then (if x5.length + (rdOf ByteArray.empty x184001 x6).size < 140737488355328 then (spec_FormThing.l0 k (x5 ++ bytesOf (rdOf ByteArray.empty x184001 x6)) (wrap64 (x6 + 1)) x184000 x184001) else (none)) else (none)) else (if x5.length + x184000.size < 140737488355328 then (some (strOfNums (x5 ++ bytesOf x184000))) else (none))
def spec_FormThing.f (k : Nat) (a0_0 : ByteArray) (l0_1 : List ByteArray) (a1 : Int) : Option (ByteArray) := (spec_l1ThingOk.f k a0_0 l0_1 a1).bind fun t184 => (if t184 = true then (spec_FormThing.l0 k (([((l0_1.length : Int)) % 256] : List Int)) 0 a0_0 l0_1) else (some (⟨#[]⟩ : ByteArray)))
set_option maxHeartbeats 8000000 in
set_option maxRecDepth 100000 in
theorem spec_FormThing.calls (k : Nat) (a0_0 : ByteArray) (A0_1 : Option Addr) (c0_1 : Nat) (l0_1 : List ByteArray) (a1 : Int) (r : ByteArray) (w : World) (hr0_1 : Kd.C Kd.string w A0_1 l0_1.length l0_1) (hc0_1 : l0_1.length ≤ c0_1) (h : spec_FormThing.f k a0_0 l0_1 a1 = some r) :
  Calls Try.prog 23 #[.agg #[.string a0_0, .slice A0_1 l0_1.length c0_1], .int .i64 a1] w fun e w' => e = .returned (.string r) ∧ Below w.heap.size w w' := by
 have hu38 := Try.underlying38
 have HR0_1 := Aside0.mk hr0_1
 have HC0_1 := Aside0.mk hc0_1
 clear hr0_1 hc0_1
 have HB := am__ (Below.refl w.heap.size w)
 have H : ((spec_l1ThingOk.f k a0_0 l0_1 a1).bind fun t184 => (if t184 = true then (spec_FormThing.l0 k (([((l0_1.length : Int)) % 256] : List Int)) 0 a0_0 l0_1) else (some (⟨#[]⟩ : ByteArray)))) = some r := h
 clear h
 replace H := Option.bind_eq_some_iff.mp H
 obtain ⟨t184, A30, H⟩ := H
 replace H : (if t184 = true then (spec_FormThing.l0 k (([((l0_1.length : Int)) % 256] : List Int)) 0 a0_0 l0_1) else (some (⟨#[]⟩ : ByteArray))) = some r := H
 have A3 := Aside0.mk A30
 clear A30
 by_cases c4 : t184 = true
 ·subst c4
  have H1 : (spec_FormThing.l0 k (([((l0_1.length : Int)) % 256] : List Int)) 0 a0_0 l0_1) = some r := by rw [if_pos rfl] at H; exact H
  clear H
  have H := H1
  clear H1
  obtain ⟨y185, hy185⟩ : ∃ y_ : List Int, y_ = (([((l0_1.length : Int)) % 256] : List Int)) := ⟨_, rfl⟩
  replace H : (spec_FormThing.l0 k y185 0 a0_0 l0_1) = some r := by first | (rw [hy185]; with_reducible exact H) | (have H2_ := (Option.bind_some _ _).symm.trans H; rw [hy185]; with_reducible exact H2_) | (have H2_ := (Option.bind_some _ _).symm.trans H; with_reducible exact H2_) | with_reducible exact H | (rw [hy185]; exact H) | exact H
  have Ny185 := Aside0.mk hy185
  clear hy185
  have H' := Aside0.mk H
  clear H
  go_enter Try.func23, Try.ntmps23
  go_wp2_with (first | ((with_reducible refine gate_dst (N := 2) rfl ?_); refine be__ 2 #[.string a0_0, .slice A0_1 l0_1.length c0_1] 38 ?_; intro gb183 hg w5 hbox hb; have BK183 := am__ (hbox); have GW183 := am__ ((bsz__ hg bel__ : w.heap.size ≤ gb183)); have GE183 := am__ ((bsz__ hg bel__ : w.heap.size ≤ gb183)); replace HB := am__ (below_step (bel__) hb); clear hb hbox hg; obtain ⟨hcz6_0, hcz6_1, hfz6_0, hfz6_1⟩ := bk2__ BK183.out) | ((with_reducible refine gate_callee (f := 62) rfl ?_); refine gl__ (some 9) Try.func62 #[.agg #[.string a0_0, .slice A0_1 l0_1.length c0_1], .int .i64 a1] ?_; (with_reducible refine (spec_l1ThingOk.calls k a0_0 _ _ l0_1 a1 true _ ?side1 HC0_1.out A3.out).mono ?_); (case side1 => repeat (first | exact (Kd.C_below HR0_1.out HB.out) | (with_reducible refine Kd.C_alloc ?_ _) | (with_reducible refine Kd.C_drewN ?_ _) | (with_reducible refine Kd.C_drew ?_))); rintro e w7 ⟨rfl, hb⟩; refine ⟨_, rfl, ?_⟩; replace BK183 := am__ (blb__ BK183.out hb); replace HB := am__ (below_step (bel__) hb); clear hb; obtain ⟨hcz8_0, hcz8_1, hfz8_0, hfz8_1⟩ := bk2__ BK183.out) | ((with_reducible refine gate_dst (N := 15) rfl ?_); refine Kd.R_lit (Kd.int .u8) _ 5 ?hg (N := 15) ?hd (xs := ([((l0_1.length : Int)) % 256] : List Int)) (inner := [.int .u8 (((l0_1.length : Int)) % 256)]) (ok := fun _ => True) (okp := fun _ => True) ?hr ?hp (fun _ hk => hk) trivial (Below.refl _ _) (Nat.le_refl _) (by simp) ?_; (case hd => rfl); (case hg => rfl); (case hr => first | (go_simp; done) | (go_simp; rfl)); (case hp => exact (Reps.one (show Kd.M (Kd.int .u8) _ _ _ (((l0_1.length : Int)) % 256) [.int .u8 (((l0_1.length : Int)) % 256)] from rfl) (Reps.none _ _))); intro v186 w9 ho10 hb hg_ hnew_; clear hg_ hnew_; (first | rw [← Ny185.out] at ho10 | (simp only [Int.reduceToNat] at ho10; rw [← Ny185.out] at ho10)); have HO187 := am__ (Kd.R_lower ho10 (below_size (bel__))); replace BK183 := am__ (blb__ BK183.out hb); replace HB := am__ (below_step (bel__) hb); clear hb ho10))
  go_loopg [5, 6] k (fun kq v5 v6 w' => ∃ (x5_1 : List Int) (x6_1 : Int), v6 = .int .i64 x6_1 ∧ Aside0 (spec_FormThing.l0 kq x5_1 x6_1 a0_0 l0_1 = some r) ∧ Aside0 (kq ≤ k) ∧ Aside0 (Kd.R (Kd.int .u8) 5 w' w.heap.size (fun _ => True) v5 x5_1) ∧ Aside0 (w'.heap[gb183]? = some (.cells #[.string a0_0, (.slice A0_1 l0_1.length c0_1)] 38 (0, 0))) ∧ Aside0 (Below w.heap.size w w'))
  case atStart => exact ⟨(y185), (0), (rf__), H', ⟨Nat.le_refl _⟩, ⟨rr__ HO187.out⟩, ⟨blk__ BK183.out⟩, ⟨bel__⟩⟩
  case round =>
   clear H'
   try clear c2
   try clear p2
   try clear c4
   try clear c6
   try clear hcz6_0 hcz6_1 hfz6_0 hfz6_1
   try clear hcz8_0 hcz8_1 hfz8_0 hfz8_1
   obtain ⟨x5_1, x6_1, rfl, HA, HK1, HO_5, BK183, HB⟩ := hrel
   cases gk with
   | zero => exact absurd HA.out (by simp [spec_FormThing.l0])
   | succ k1 =>
    have H := HA.out
    clear HA
    simp only [spec_FormThing.l0] at H
    by_cases c11 : x6_1 < (l0_1.length : Int)
    ·rw [if_pos c11] at H
     have c11b0 : decide (x6_1 < (l0_1.length : Int)) = true := decide_eq_true c11
     clear c11
     by_cases c12 : 0 ≤ x6_1
     ·rw [if_pos c12] at H
      have c12b0 : decide (0 ≤ x6_1) = true := decide_eq_true c12
      clear c12
      by_cases c13 : x5_1.length + (rdOf ByteArray.empty l0_1 x6_1).size < 140737488355328
      ·rw [if_pos c13] at H
       have LMc13 := Aside0.mk c13
       clear c13
       obtain ⟨y189, hy189⟩ : ∃ y_ : List Int, y_ = (x5_1 ++ bytesOf (rdOf ByteArray.empty l0_1 x6_1)) := ⟨_, rfl⟩
       replace H : (spec_FormThing.l0 k1 y189 (wrap64 (x6_1 + 1)) a0_0 l0_1) = some r := by first | (rw [hy189]; with_reducible exact H) | (have H2_ := (Option.bind_some _ _).symm.trans H; rw [hy189]; with_reducible exact H2_) | (have H2_ := (Option.bind_some _ _).symm.trans H; with_reducible exact H2_) | with_reducible exact H | (rw [hy189]; exact H) | exact H
       have Ny189 := Aside0.mk hy189
       clear hy189
       have H' := Aside0.mk H
       clear H
       have hcz14_0 : wr.cell? ⟨gb183, 0, none⟩ = some (.string a0_0) := (blk_cell BK183.out 0).trans rfl
       have hcz14_1 : wr.cell? ⟨gb183, 1, none⟩ = some (.slice A0_1 l0_1.length c0_1) := (blk_cell BK183.out 1).trans rfl
       have hfz14_0 := blk_frozen BK183.out 0
       have hfz14_1 := blk_frozen BK183.out 1
       have p188 : 0 ≤ (x6_1 : Int) := of_decide_eq_true (by first | (with_reducible assumption) | assumption)
       have q188 : x6_1 < (l0_1.length : Int) := of_decide_eq_true (by first | (with_reducible assumption) | assumption)
       obtain ⟨ad188, e188, hx188_0⟩ := Kd.at_string HR0_1.out x6_1 p188 q188
       cases e188
       try replace hx188_0 := (HB.out.cell (World.block_lt_of_cell? w _ hx188_0)).trans hx188_0
       replace p188 := eq_true p188
       replace q188 := eq_true q188
       go_wp2_with (first | (at_builtin; refine print_append_str (w0 := w) w.heap.size rfl (.tmp 23) _ 52 9 5 rfl Try.underlying52 Try.underlying9 info5 u5 x5_1 (rdOf ByteArray.empty l0_1 x6_1) rfl rfl ?aO ?aB ?aS ?aL ?_; (case aB => exact (bel__)); (case aO => exact (Kd.own_of_R (rr__ HO_5.out))); (case aS => exact (below_size (bel__))); (case aL => have := LMc13.out; omega); intro v190 w15 ho0 hb hg; have ho := Kd.R_of_own (h1 := fun _ => rfl) (ok := fun _ => True) ho0 (fun _ _ => trivial); clear ho0; have hat := True.intro; rw [← Ny189.out] at ho; change Kd.R (Kd.int .u8) 5 w15 w.heap.size (fun _ => True) v190 y189 at ho; have n0_ := am__ (bgr__ BK183.out hg (Kd.R_ne HO_5.out BK183.out (by decide))); have n1_ := am__ (hb); have n2_ := am__ (ho); clear BK183; clear HB; clear HO_5; have BK183 := n0_; have HB := n1_; have HO191 := n2_; clear n0_ n1_ n2_; clear ho hb hg hat))
       go_roundg k1
       case measure => have := HK1.out; omega
       case rel => exact ⟨(y189), (wrap64 (x6_1 + 1)), (rf__), H', ⟨by have := HK1.out; omega⟩, ⟨rr__ HO191.out⟩, ⟨blk__ BK183.out⟩, ⟨bel__⟩⟩
      ·rw [if_neg c13] at H
       exact absurd H (by simp)
     ·rw [if_neg c12] at H
      exact absurd H (by simp)
    ·rw [if_neg c11] at H
     have c11b0 : decide (x6_1 < (l0_1.length : Int)) = false := decide_eq_false c11
     clear c11
     by_cases c16 : x5_1.length + a0_0.size < 140737488355328
     ·rw [if_pos c16] at H
      have LMc16 := Aside0.mk c16
      clear c16
      obtain ⟨y192, hy192⟩ : ∃ y_ : List Int, y_ = (x5_1 ++ bytesOf a0_0) := ⟨_, rfl⟩
      replace H : (some (strOfNums y192)) = some r := by first | (rw [hy192]; with_reducible exact H) | (have H2_ := (Option.bind_some _ _).symm.trans H; rw [hy192]; with_reducible exact H2_) | (have H2_ := (Option.bind_some _ _).symm.trans H; with_reducible exact H2_) | with_reducible exact H | (rw [hy192]; exact H) | exact H
      have Ny192 := Aside0.mk hy192
      clear hy192
      obtain rfl := Option.some.inj H
      have hcz17_0 : wr.cell? ⟨gb183, 0, none⟩ = some (.string a0_0) := (blk_cell BK183.out 0).trans rfl
      have hcz17_1 : wr.cell? ⟨gb183, 1, none⟩ = some (.slice A0_1 l0_1.length c0_1) := (blk_cell BK183.out 1).trans rfl
      have hfz17_0 := blk_frozen BK183.out 0
      have hfz17_1 := blk_frozen BK183.out 1
      go_wp2_with (first | (at_builtin; refine print_append_str (w0 := w) w.heap.size rfl (.tmp 30) _ 52 9 5 rfl Try.underlying52 Try.underlying9 info5 u5 x5_1 a0_0 rfl rfl ?aO ?aB ?aS ?aL ?_; (case aB => exact (bel__)); (case aO => exact (Kd.own_of_R (rr__ HO_5.out))); (case aS => exact (below_size (bel__))); (case aL => have := LMc16.out; omega); intro v193 w18 ho0 hb hg; have ho := Kd.R_of_own (h1 := fun _ => rfl) (ok := fun _ => True) ho0 (fun _ _ => trivial); clear ho0; have hat := True.intro; rw [← Ny192.out] at ho; change Kd.R (Kd.int .u8) 5 w18 w.heap.size (fun _ => True) v193 y192 at ho; have n0_ := am__ (bgr__ BK183.out hg (Kd.R_ne HO_5.out BK183.out (by decide))); have n1_ := am__ (hb); have n2_ := am__ (ho); clear BK183; clear HB; clear HO_5; have BK183 := n0_; have HB := n1_; have HO194 := n2_; clear n0_ n1_ n2_; clear ho hb hg hat; have hcv19 := own_string (P := Try.prog) Try.underlying52 Try.underlying5 Try.underlying9 (Kd.own_of_R HO194.out)))
      go_ret
      exact ⟨by first | rfl | (simp [errW_none, errW_some] <;> rfl) | (simp [*, errW_none, errW_some] <;> rfl), bel__⟩
     ·rw [if_neg c16] at H
      exact absurd H (by simp)
 ·replace c4 := Bool.eq_false_iff.mpr c4
  subst c4
  have H1 : (some (⟨#[]⟩ : ByteArray)) = some r := by rw [if_neg (show ¬ (false = true) by decide)] at H; exact H
  clear H
  have H := H1
  clear H1
  obtain rfl := Option.some.inj H
  go_enter Try.func23, Try.ntmps23
  go_wp2_with (first | ((with_reducible refine gate_dst (N := 2) rfl ?_); refine be__ 2 #[.string a0_0, .slice A0_1 l0_1.length c0_1] 38 ?_; intro gb183 hg w20 hbox hb; have BK183 := am__ (hbox); have GW183 := am__ ((bsz__ hg bel__ : w.heap.size ≤ gb183)); have GE183 := am__ ((bsz__ hg bel__ : w.heap.size ≤ gb183)); replace HB := am__ (below_step (bel__) hb); clear hb hbox hg; obtain ⟨hcz21_0, hcz21_1, hfz21_0, hfz21_1⟩ := bk2__ BK183.out) | ((with_reducible refine gate_callee (f := 62) rfl ?_); refine gl__ (some 9) Try.func62 #[.agg #[.string a0_0, .slice A0_1 l0_1.length c0_1], .int .i64 a1] ?_; (with_reducible refine (spec_l1ThingOk.calls k a0_0 _ _ l0_1 a1 false _ ?side1 HC0_1.out A3.out).mono ?_); (case side1 => repeat (first | exact (Kd.C_below HR0_1.out HB.out) | (with_reducible refine Kd.C_alloc ?_ _) | (with_reducible refine Kd.C_drewN ?_ _) | (with_reducible refine Kd.C_drew ?_))); rintro e w22 ⟨rfl, hb⟩; refine ⟨_, rfl, ?_⟩; replace BK183 := am__ (blb__ BK183.out hb); replace HB := am__ (below_step (bel__) hb); clear hb))
  go_ret
  exact ⟨by first | rfl | (simp [errW_none, errW_some] <;> rfl) | (simp [*, errW_none, errW_some] <;> rfl), bel__⟩
end Go.Proofs.Ytpnblgbkjbpeoaa.P

namespace Go.Proofs.Ytpnblgbkjbpeoaa.P
open Go.RowKit Go.Proofs.YtpnblgbkjbpeoaaW.PrintWords Go.Proofs.YtpnblgbkjbpeoaaW.PrintLast Go.Proofs.YtpnblgbkjbpeoaaW.PrintMore
attribute [local go_sem] max2_int min2_int max_two min_two max_three min_three max_four min_four   -- for this text's walks alone
set_option linter.unusedVariables false
set_option linter.unusedSimpArgs false
/-! ### impl_widthOk: function 57 -/
def impl_widthOk.f (a0 : Int) : Option (Bool) := if a0 ≥ 1 then (some (decide (a0 ≤ 8))) else (some false)
set_option maxHeartbeats 8000000 in
set_option maxRecDepth 100000 in
theorem impl_widthOk.calls (a0 : Int) (r : Bool) (w : World) (h : impl_widthOk.f a0 = some r) :
  Calls Try.prog 57 #[.int .i64 a0] w fun e w' => e = .returned (.bool r) ∧ Drawn0 w w' := by
 have H : (if a0 ≥ 1 then (some (decide (a0 ≤ 8))) else (some false)) = some r := h
 clear h
 by_cases c2 : a0 ≥ 1
 ·rw [if_pos c2] at H
  have c2b0 : decide (1 ≤ a0) = true := decide_eq_true c2
  clear c2
  obtain rfl := Option.some.inj H
  go_enter Try.func57, Try.ntmps57
  go_wp2
  go_ret
  exact ⟨by first | rfl | (simp; done) | (simp [*]; done), by repeat (first | exact Drawn0.refl _ | apply Drawn0.step)⟩
 ·rw [if_neg c2] at H
  have c2b0 : decide (1 ≤ a0) = false := decide_eq_false c2
  clear c2
  obtain rfl := Option.some.inj H
  go_enter Try.func57, Try.ntmps57
  go_wp2
  go_ret
  exact ⟨by first | rfl | (simp; done) | (simp [*]; done), by repeat (first | exact Drawn0.refl _ | apply Drawn0.step)⟩
end Go.Proofs.Ytpnblgbkjbpeoaa.P

namespace Go.Proofs.Ytpnblgbkjbpeoaa.P
open Go.RowKit Go.Proofs.YtpnblgbkjbpeoaaW.PrintWords Go.Proofs.YtpnblgbkjbpeoaaW.PrintLast Go.Proofs.YtpnblgbkjbpeoaaW.PrintMore
attribute [local go_sem] max2_int min2_int max_two min_two max_three min_three max_four min_four   -- for this text's walks alone
set_option linter.unusedVariables false
set_option linter.unusedSimpArgs false
/-! ### impl_thingOk: function 63 -/
mutual
def impl_thingOk.j0 : Nat → Int → Bool → ByteArray → List ByteArray → Option (Bool)
 | 0, _, _, _, _ => none
 | k + 1, x1, x16, x202000, x202001 => if x16 = true then (some false) else (impl_thingOk.l0 k x1 x202001 (x202001.length : Int) 0 x202000 x202001)
def impl_thingOk.l0 : Nat → Int → List ByteArray → Int → Int → ByteArray → List ByteArray → Option (Bool)
 | 0, _, _, _, _, _, _ => none
 | k + 1, x1, x18, x19, x20, x202000, x202001 => if x20 < x19 then (if 0 ≤ x20 then (if x20 < (x18.length : Int) then (if ((rdOf ByteArray.empty x18 x20).size : Int) = x1 then (if x20 > 0 then (if 0 ≤ (wrap64 (x20 - 1)) then (if (wrap64 (x20 - 1)) < (x202001.length : Int) then (if ((Op.bytesLess ((rdOf ByteArray.empty x202001 (wrap64 (x20 - 1))).toList) ((rdOf ByteArray.empty x18 x20).toList)) = true) then (impl_thingOk.l0 k x1 x18 x19 (wrap64 (x20 + 1)) x202000 x202001) else (some false)) else (none)) else (none)) else (impl_thingOk.l0 k x1 x18 x19 (wrap64 (x20 + 1)) x202000 x202001)) else (some false)) else (none)) else (none)) else ((impl_widthOk.f x1).bind fun t204 => (some t204))
end
def impl_thingOk.f (k : Nat) (a0_0 : ByteArray) (l0_1 : List ByteArray) (a1 : Int) : Option (Bool) := if (a0_0.size : Int) > 2000 then (impl_thingOk.j0 k a1 true a0_0 l0_1) else (impl_thingOk.j0 k a1 (decide ((l0_1.length : Int) > 30)) a0_0 l0_1)
set_option maxHeartbeats 8000000 in
set_option maxRecDepth 100000 in
theorem impl_thingOk.calls (k : Nat) (a0_0 : ByteArray) (A0_1 : Option Addr) (c0_1 : Nat) (l0_1 : List ByteArray) (a1 : Int) (r : Bool) (w : World) (hr0_1 : Kd.C Kd.string w A0_1 l0_1.length l0_1) (hc0_1 : l0_1.length ≤ c0_1) (h : impl_thingOk.f k a0_0 l0_1 a1 = some r) :
  Calls Try.prog 63 #[.agg #[.string a0_0, .slice A0_1 l0_1.length c0_1], .int .i64 a1] w fun e w' => e = .returned (.bool r) ∧ Below w.heap.size w w' := by
 have hu38 := Try.underlying38
 have HR0_1 := Aside0.mk hr0_1
 have HC0_1 := Aside0.mk hc0_1
 clear hr0_1 hc0_1
 have HB := am__ (Below.refl w.heap.size w)
 have H : (if (a0_0.size : Int) > 2000 then (impl_thingOk.j0 k a1 true a0_0 l0_1) else (impl_thingOk.j0 k a1 (decide ((l0_1.length : Int) > 30)) a0_0 l0_1)) = some r := h
 clear h
 have HC3 := Aside0.mk H
 clear H
 go_enter Try.func63, Try.ntmps63
 go_upto_region 1 with (first | ((with_reducible refine gate_dst (N := 2) rfl ?_); (try (refine gate_guard (by rfl) ?_; dsimp only)); refine be__ 2 #[.string a0_0, .slice A0_1 l0_1.length c0_1] 38 ?_; intro gb201 hg w4 hbox hb; have BK201 := am__ (hbox); have GW201 := am__ ((bsz__ hg bel__ : w.heap.size ≤ gb201)); have GE201 := am__ ((bsz__ hg bel__ : w.heap.size ≤ gb201)); replace HB := am__ (below_step (bel__) hb); clear hb hbox hg))
 (try simp only [Act.put, List.setIfInBounds_toArray, List.set_cons_zero, List.set_cons_succ])
 go_cut [16] (fun v16 wc => ∃ (kq : Nat) (x16_2 : Bool), v16 = .bool x16_2 ∧ Aside0 (impl_thingOk.j0 kq a1 x16_2 a0_0 l0_1 = some r) ∧ Aside0 (kq ≤ k) ∧ Aside0 (wc.heap[gb201]? = some (.cells #[.string a0_0, (.slice A0_1 l0_1.length c0_1)] 38 (0, 0))) ∧ Aside0 (Below w.heap.size w wc))
 case first =>
  have H := HC3.out
  clear HC3
  by_cases c5 : (a0_0.size : Int) > 2000
  ·rw [if_pos c5] at H
   have c5b0 : decide (2000 < (a0_0.size : Int)) = true := decide_eq_true c5
   have c5b1 : decide (2000 < a0_0.size) = true := decide_eq_true (by omega)
   clear c5
   (first | rw [c5b0] | (simp only [i64_w, i32_w]; rw [c5b0]) | skip)
   have H' := Aside0.mk H
   clear H
   have hcz6_0 : w4.cell? ⟨gb201, 0, none⟩ = some (.string a0_0) := (blk_cell BK201.out 0).trans rfl
   have hcz6_1 : w4.cell? ⟨gb201, 1, none⟩ = some (.slice A0_1 l0_1.length c0_1) := (blk_cell BK201.out 1).trans rfl
   have hfz6_0 := blk_frozen BK201.out 0
   have hfz6_1 := blk_frozen BK201.out 1
   go_wp2
   go_meet
   case rel => exact ⟨_, (true), (rf__), H', ⟨by first | omega | exact Nat.le_refl _⟩, ⟨blk__ BK201.out⟩, ⟨bel__⟩⟩
  ·rw [if_neg c5] at H
   have c5b0 : decide (2000 < (a0_0.size : Int)) = false := decide_eq_false c5
   have c5b1 : decide (2000 < a0_0.size) = false := decide_eq_false (by omega)
   clear c5
   (first | rw [c5b0] | (simp only [i64_w, i32_w]; rw [c5b0]) | skip)
   have H' := Aside0.mk H
   clear H
   have hcz7_0 : w4.cell? ⟨gb201, 0, none⟩ = some (.string a0_0) := (blk_cell BK201.out 0).trans rfl
   have hcz7_1 : w4.cell? ⟨gb201, 1, none⟩ = some (.slice A0_1 l0_1.length c0_1) := (blk_cell BK201.out 1).trans rfl
   have hfz7_0 := blk_frozen BK201.out 0
   have hfz7_1 := blk_frozen BK201.out 1
   go_wp2
   go_meet
   case rel => exact ⟨_, (decide ((l0_1.length : Int) > 30)), (rf__), H', ⟨by first | omega | exact Nat.le_refl _⟩, ⟨blk__ BK201.out⟩, ⟨bel__⟩⟩
 case rest =>
  clear HC3
  try clear p2
  try clear c5
  try clear c5b0
  try clear c5b1
  try clear c6
  try clear hcz6_0 hcz6_1 hfz6_0 hfz6_1
  try clear hcz7_0 hcz7_1 hfz7_0 hfz7_1
  obtain ⟨kq, x16_2, rfl, HA, HJ2, BK201, HB⟩ := hcut
  cases kq with
  | zero => exact absurd HA.out (by simp [impl_thingOk.j0])
  | succ kj2 =>
   have H := HA.out
   clear HA
   simp only [impl_thingOk.j0] at H
   by_cases c8 : x16_2 = true
   ·subst c8
    have H1 : (some false) = some r := by rw [if_pos rfl] at H; exact H
    clear H
    have H := H1
    clear H1
    obtain rfl := Option.some.inj H
    go_wp2
    go_ret
    exact ⟨by first | rfl | (simp [errW_none, errW_some] <;> rfl) | (simp [*, errW_none, errW_some] <;> rfl), bel__⟩
   ·replace c8 := Bool.eq_false_iff.mpr c8
    subst c8
    have H1 : (impl_thingOk.l0 kj2 a1 l0_1 (l0_1.length : Int) 0 a0_0 l0_1) = some r := by rw [if_neg (show ¬ (false = true) by decide)] at H; exact H
    clear H
    have H := H1
    clear H1
    have H' := Aside0.mk H
    clear H
    have hcz9_0 : wc.cell? ⟨gb201, 0, none⟩ = some (.string a0_0) := (blk_cell BK201.out 0).trans rfl
    have hcz9_1 : wc.cell? ⟨gb201, 1, none⟩ = some (.slice A0_1 l0_1.length c0_1) := (blk_cell BK201.out 1).trans rfl
    have hfz9_0 := blk_frozen BK201.out 0
    have hfz9_1 := blk_frozen BK201.out 1
    go_wp2
    go_loopg [20] kj2 (fun kq v20 w' => ∃ (x20_2 : Int), v20 = .int .i64 x20_2 ∧ Aside0 (impl_thingOk.l0 kq a1 l0_1 (l0_1.length : Int) x20_2 a0_0 l0_1 = some r) ∧ Aside0 (kq ≤ kj2) ∧ Aside0 (w'.heap[gb201]? = some (.cells #[.string a0_0, (.slice A0_1 l0_1.length c0_1)] 38 (0, 0))) ∧ Aside0 (Below w.heap.size w w'))
    case atStart => exact ⟨(0), (rf__), H', ⟨Nat.le_refl _⟩, ⟨blk__ BK201.out⟩, ⟨bel__⟩⟩
    case round =>
     clear H'
     try clear p2
     try clear c5
     try clear c5b0
     try clear c5b1
     try clear c6
     try clear c8
     try clear hcz6_0 hcz6_1 hfz6_0 hfz6_1
     try clear hcz7_0 hcz7_1 hfz7_0 hfz7_1
     try clear hcz9_0 hcz9_1 hfz9_0 hfz9_1
     try clear p2
     obtain ⟨x20_2, rfl, HA, HK2, BK201, HB⟩ := hrel
     cases gk with
     | zero => exact absurd HA.out (by simp [impl_thingOk.l0])
     | succ k2 =>
      have H := HA.out
      clear HA
      simp only [impl_thingOk.l0] at H
      by_cases c10 : x20_2 < (l0_1.length : Int)
      ·rw [if_pos c10] at H
       have c10b0 : decide (x20_2 < (l0_1.length : Int)) = true := decide_eq_true c10
       clear c10
       by_cases c11 : 0 ≤ x20_2
       ·rw [if_pos c11] at H
        have c11b0 : decide (0 ≤ x20_2) = true := decide_eq_true c11
        clear c11
        by_cases c12 : x20_2 < (l0_1.length : Int)
        ·rw [if_pos c12] at H
         have c12b0 : decide (x20_2 < (l0_1.length : Int)) = true := decide_eq_true c12
         clear c12
         by_cases c13 : ((rdOf ByteArray.empty l0_1 x20_2).size : Int) = a1
         ·rw [if_pos c13] at H
          have c13b0 : (((rdOf ByteArray.empty l0_1 x20_2).size : Int) == a1) = true := beq_iff_eq.mpr c13
          have c13b1 : (((rdOf ByteArray.empty l0_1 x20_2).size : Int) != a1) = false := bne_eq_false_iff_eq.mpr c13
          clear c13
          by_cases c14 : x20_2 > 0
          ·rw [if_pos c14] at H
           have c14b0 : decide (0 < x20_2) = true := decide_eq_true c14
           clear c14
           obtain ⟨ji15, hji15⟩ : ∃ j_ : Int, (wrap64 (x20_2 - 1)) = j_ := ⟨_, rfl⟩
           replace H : (if 0 ≤ (ji15) then (if (ji15) < (l0_1.length : Int) then (if ((Op.bytesLess ((rdOf ByteArray.empty l0_1 (ji15)).toList) ((rdOf ByteArray.empty l0_1 x20_2).toList)) = true) then (impl_thingOk.l0 k2 a1 l0_1 (l0_1.length : Int) (wrap64 (x20_2 + 1)) a0_0 l0_1) else (some false)) else (none)) else (none)) = some r := by first | (rw [hji15] at H; exact H) | (simp only [hji15] at H ⊢; exact H)
           have hji15w : (IntKind.i64.wrap (x20_2 - 1)) = ji15 := (i64_w _).trans hji15
           by_cases c16 : 0 ≤ (ji15)
           ·rw [if_pos c16] at H
            have c16b0 : decide (0 ≤ (ji15)) = true := decide_eq_true c16
            clear c16
            by_cases c17 : (ji15) < (l0_1.length : Int)
            ·rw [if_pos c17] at H
             have c17b0 : decide ((ji15) < (l0_1.length : Int)) = true := decide_eq_true c17
             clear c17
             by_cases c18 : ((Op.bytesLess ((rdOf ByteArray.empty l0_1 (ji15)).toList) ((rdOf ByteArray.empty l0_1 x20_2).toList)) = true)
             ·rw [if_pos c18] at H
              have c18b0 : (Op.bytesLess ((rdOf ByteArray.empty l0_1 (ji15)).toList) ((rdOf ByteArray.empty l0_1 x20_2).toList)) = true := c18
              clear c18
              have H' := Aside0.mk H
              clear H
              have p202 : 0 ≤ (x20_2 : Int) := of_decide_eq_true (by first | (with_reducible assumption) | assumption)
              have q202 : x20_2 < (l0_1.length : Int) := of_decide_eq_true (by first | (with_reducible assumption) | assumption)
              obtain ⟨ad202, e202, hx202_0⟩ := Kd.at_string HR0_1.out x20_2 p202 q202
              cases e202
              try replace hx202_0 := (HB.out.cell (World.block_lt_of_cell? w _ hx202_0)).trans hx202_0
              replace p202 := eq_true p202
              replace q202 := eq_true q202
              have hcz19_0 : wr.cell? ⟨gb201, 0, none⟩ = some (.string a0_0) := (blk_cell BK201.out 0).trans rfl
              have hcz19_1 : wr.cell? ⟨gb201, 1, none⟩ = some (.slice (some ad202) l0_1.length c0_1) := (blk_cell BK201.out 1).trans rfl
              have hfz19_0 := blk_frozen BK201.out 0
              have hfz19_1 := blk_frozen BK201.out 1
              have p203 : 0 ≤ ((ji15) : Int) := of_decide_eq_true (by first | (with_reducible assumption) | assumption)
              have q203 : (ji15) < (l0_1.length : Int) := of_decide_eq_true (by first | (with_reducible assumption) | assumption)
              obtain ⟨ad203, e203, hx203_0⟩ := Kd.at_string HR0_1.out (ji15) p203 q203
              obtain rfl : ad202 = ad203 := (by injection e203)
              try replace hx203_0 := (HB.out.cell (World.block_lt_of_cell? w _ hx203_0)).trans hx203_0
              replace p203 := eq_true p203
              replace q203 := eq_true q203
              go_wp2
              go_roundg k2
              case measure => have := HJ2.out; have := HK2.out; omega
              case rel => exact ⟨(wrap64 (x20_2 + 1)), (rf__), H', ⟨by have := HJ2.out; have := HK2.out; omega⟩, ⟨blk__ BK201.out⟩, ⟨bel__⟩⟩
             ·rw [if_neg c18] at H
              have c18b0 : (Op.bytesLess ((rdOf ByteArray.empty l0_1 (ji15)).toList) ((rdOf ByteArray.empty l0_1 x20_2).toList)) = false := by simpa using c18
              clear c18
              obtain rfl := Option.some.inj H
              have p202 : 0 ≤ (x20_2 : Int) := of_decide_eq_true (by first | (with_reducible assumption) | assumption)
              have q202 : x20_2 < (l0_1.length : Int) := of_decide_eq_true (by first | (with_reducible assumption) | assumption)
              obtain ⟨ad202, e202, hx202_0⟩ := Kd.at_string HR0_1.out x20_2 p202 q202
              cases e202
              try replace hx202_0 := (HB.out.cell (World.block_lt_of_cell? w _ hx202_0)).trans hx202_0
              replace p202 := eq_true p202
              replace q202 := eq_true q202
              have hcz20_0 : wr.cell? ⟨gb201, 0, none⟩ = some (.string a0_0) := (blk_cell BK201.out 0).trans rfl
              have hcz20_1 : wr.cell? ⟨gb201, 1, none⟩ = some (.slice (some ad202) l0_1.length c0_1) := (blk_cell BK201.out 1).trans rfl
              have hfz20_0 := blk_frozen BK201.out 0
              have hfz20_1 := blk_frozen BK201.out 1
              have p203 : 0 ≤ ((ji15) : Int) := of_decide_eq_true (by first | (with_reducible assumption) | assumption)
              have q203 : (ji15) < (l0_1.length : Int) := of_decide_eq_true (by first | (with_reducible assumption) | assumption)
              obtain ⟨ad203, e203, hx203_0⟩ := Kd.at_string HR0_1.out (ji15) p203 q203
              obtain rfl : ad202 = ad203 := (by injection e203)
              try replace hx203_0 := (HB.out.cell (World.block_lt_of_cell? w _ hx203_0)).trans hx203_0
              replace p203 := eq_true p203
              replace q203 := eq_true q203
              go_wp2
              go_ret
              exact ⟨by first | rfl | (simp [errW_none, errW_some] <;> rfl) | (simp only [← hji15]; first | rfl | (simp [errW_none, errW_some] <;> rfl)) | (simp [*, errW_none, errW_some] <;> rfl), bel__⟩
            ·rw [if_neg c17] at H
             exact absurd H (by simp)
           ·rw [if_neg c16] at H
            exact absurd H (by simp)
          ·rw [if_neg c14] at H
           have c14b0 : decide (0 < x20_2) = false := decide_eq_false c14
           clear c14
           have H' := Aside0.mk H
           clear H
           have p202 : 0 ≤ (x20_2 : Int) := of_decide_eq_true (by first | (with_reducible assumption) | assumption)
           have q202 : x20_2 < (l0_1.length : Int) := of_decide_eq_true (by first | (with_reducible assumption) | assumption)
           obtain ⟨ad202, e202, hx202_0⟩ := Kd.at_string HR0_1.out x20_2 p202 q202
           cases e202
           try replace hx202_0 := (HB.out.cell (World.block_lt_of_cell? w _ hx202_0)).trans hx202_0
           replace p202 := eq_true p202
           replace q202 := eq_true q202
           go_wp2
           go_roundg k2
           case measure => have := HJ2.out; have := HK2.out; omega
           case rel => exact ⟨(wrap64 (x20_2 + 1)), (rf__), H', ⟨by have := HJ2.out; have := HK2.out; omega⟩, ⟨blk__ BK201.out⟩, ⟨bel__⟩⟩
         ·rw [if_neg c13] at H
          have c13b0 : (((rdOf ByteArray.empty l0_1 x20_2).size : Int) == a1) = false := beq_eq_false_iff_ne.mpr c13
          have c13b1 : (((rdOf ByteArray.empty l0_1 x20_2).size : Int) != a1) = true := bne_iff_ne.mpr c13
          obtain rfl := Option.some.inj H
          have p202 : 0 ≤ (x20_2 : Int) := of_decide_eq_true (by first | (with_reducible assumption) | assumption)
          have q202 : x20_2 < (l0_1.length : Int) := of_decide_eq_true (by first | (with_reducible assumption) | assumption)
          obtain ⟨ad202, e202, hx202_0⟩ := Kd.at_string HR0_1.out x20_2 p202 q202
          cases e202
          try replace hx202_0 := (HB.out.cell (World.block_lt_of_cell? w _ hx202_0)).trans hx202_0
          replace p202 := eq_true p202
          replace q202 := eq_true q202
          go_wp2
          go_ret
          exact ⟨by first | rfl | (simp [errW_none, errW_some] <;> rfl) | (simp [*, errW_none, errW_some] <;> rfl), bel__⟩
        ·rw [if_neg c12] at H
         exact absurd H (by simp)
       ·rw [if_neg c11] at H
        exact absurd H (by simp)
      ·rw [if_neg c10] at H
       have c10b0 : decide (x20_2 < (l0_1.length : Int)) = false := decide_eq_false c10
       clear c10
       replace H := Option.bind_eq_some_iff.mp H
       obtain ⟨t204, A210, H⟩ := H
       replace H : (some t204) = some r := H
       have A21 := Aside0.mk A210
       clear A210
       obtain rfl := Option.some.inj H
       go_wp2_with (first | ((with_reducible refine gate_callee (f := 57) rfl ?_); refine gl__ (some 45) Try.func57 #[.int .i64 a1] ?_; (with_reducible refine (impl_widthOk.calls a1 t204 _ A21.out).mono ?_); rintro e w' ⟨rfl, ⟨nd, rfl⟩⟩; refine ⟨_, rfl, ?_⟩))
       go_ret
       exact ⟨by first | rfl | (simp [errW_none, errW_some] <;> rfl) | (simp [*, errW_none, errW_some] <;> rfl), bel__⟩
end Go.Proofs.Ytpnblgbkjbpeoaa.P

namespace Go.Proofs.Ytpnblgbkjbpeoaa.P
open Go.RowKit Go.Proofs.YtpnblgbkjbpeoaaW.PrintWords Go.Proofs.YtpnblgbkjbpeoaaW.PrintLast Go.Proofs.YtpnblgbkjbpeoaaW.PrintMore
attribute [local go_sem] max2_int min2_int max_two min_two max_three min_three max_four min_four   -- for this text's walks alone
set_option linter.unusedVariables false
set_option linter.unusedSimpArgs false
/-! ### impl_form: function 64 -/
def impl_form.l0 : Nat → ByteArray → List ByteArray → Int → Int → ByteArray → List ByteArray → Option (ByteArray)
 | 0, _, _, _, _, _, _ => none
 | k + 1, x3, x13, x14, x15, x206000, x206001 => if x15 < x14 then (if 0 ≤ x15 then (if x15 < (x13.length : Int) then (if x3.size + (rdOf ByteArray.empty x13 x15).size ≤ 9223372036854775807 then (impl_form.l0 k (x3 ++ (rdOf ByteArray.empty x13 x15)) x13 x14 (wrap64 (x15 + 1)) x206000 x206001) else (none)) else (none)) else (none)) else (if x3.size + x206000.size ≤ 9223372036854775807 then (some (x3 ++ x206000)) else (none))
def impl_form.f (k : Nat) (a0_0 : ByteArray) (l0_1 : List ByteArray) : Option (ByteArray) := impl_form.l0 k (strOfNums (([((l0_1.length : Int)) % 256] : List Int))) l0_1 (l0_1.length : Int) 0 a0_0 l0_1
set_option maxHeartbeats 8000000 in
set_option maxRecDepth 100000 in
theorem impl_form.calls (k : Nat) (a0_0 : ByteArray) (A0_1 : Option Addr) (c0_1 : Nat) (l0_1 : List ByteArray) (r : ByteArray) (w : World) (hr0_1 : Kd.C Kd.string w A0_1 l0_1.length l0_1) (hc0_1 : l0_1.length ≤ c0_1) (h : impl_form.f k a0_0 l0_1 = some r) :
  Calls Try.prog 64 #[.agg #[.string a0_0, .slice A0_1 l0_1.length c0_1]] w fun e w' => e = .returned (.string r) ∧ Below w.heap.size w w' := by
 have hu38 := Try.underlying38
 have HR0_1 := Aside0.mk hr0_1
 have HC0_1 := Aside0.mk hc0_1
 clear hr0_1 hc0_1
 have HB := am__ (Below.refl w.heap.size w)
 have H : (impl_form.l0 k (strOfNums (([((l0_1.length : Int)) % 256] : List Int))) l0_1 (l0_1.length : Int) 0 a0_0 l0_1) = some r := h
 clear h
 obtain ⟨y206, hy206⟩ : ∃ y_ : List Int, y_ = (([((l0_1.length : Int)) % 256] : List Int)) := ⟨_, rfl⟩
 replace H : (impl_form.l0 k (strOfNums y206) l0_1 (l0_1.length : Int) 0 a0_0 l0_1) = some r := by first | (rw [hy206]; with_reducible exact H) | (have H2_ := (Option.bind_some _ _).symm.trans H; rw [hy206]; with_reducible exact H2_) | (have H2_ := (Option.bind_some _ _).symm.trans H; with_reducible exact H2_) | with_reducible exact H | (rw [hy206]; exact H) | exact H
 have Ny206 := Aside0.mk hy206
 clear hy206
 have H' := Aside0.mk H
 clear H
 go_enter Try.func64, Try.ntmps64
 go_wp2_with (first | ((with_reducible refine gate_dst (N := 1) rfl ?_); refine be__ 1 #[.string a0_0, .slice A0_1 l0_1.length c0_1] 38 ?_; intro gb205 hg w2 hbox hb; have BK205 := am__ (hbox); have GW205 := am__ ((bsz__ hg bel__ : w.heap.size ≤ gb205)); have GE205 := am__ ((bsz__ hg bel__ : w.heap.size ≤ gb205)); replace HB := am__ (below_step (bel__) hb); clear hb hbox hg; obtain ⟨hcz3_0, hcz3_1, hfz3_0, hfz3_1⟩ := bk2__ BK205.out) | ((with_reducible refine gate_dst (N := 10) rfl ?_); refine Kd.R_lit (Kd.int .u8) _ 5 ?hg (N := 10) ?hd (xs := ([((l0_1.length : Int)) % 256] : List Int)) (inner := [.int .u8 (((l0_1.length : Int)) % 256)]) (ok := fun _ => True) (okp := fun _ => True) ?hr ?hp (fun _ hk => hk) trivial (Below.refl _ _) (Nat.le_refl _) (by simp) ?_; (case hd => rfl); (case hg => rfl); (case hr => first | (go_simp; done) | (go_simp; rfl)); (case hp => exact (Reps.one (show Kd.M (Kd.int .u8) _ _ _ (((l0_1.length : Int)) % 256) [.int .u8 (((l0_1.length : Int)) % 256)] from rfl) (Reps.none _ _))); intro v207 w4 ho5 hb hg_ hnew_; clear hg_ hnew_; (first | rw [← Ny206.out] at ho5 | (simp only [Int.reduceToNat] at ho5; rw [← Ny206.out] at ho5)); have HO208 := am__ (Kd.R_lower ho5 (below_size (bel__))); replace BK205 := am__ (blb__ BK205.out hb); replace HB := am__ (below_step (bel__) hb); clear hb ho5; have hcv6 := own_string (P := Try.prog) Try.underlying52 Try.underlying5 Try.underlying9 (Kd.own_of_R HO208.out); obtain ⟨hcz7_0, hcz7_1, hfz7_0, hfz7_1⟩ := bk2__ BK205.out))
 go_loopg [3, 15] k (fun kq v3 v15 w' => ∃ (x3_1 : ByteArray) (x15_1 : Int), v3 = .string x3_1 ∧ v15 = .int .i64 x15_1 ∧ Aside0 (impl_form.l0 kq x3_1 l0_1 (l0_1.length : Int) x15_1 a0_0 l0_1 = some r) ∧ Aside0 (kq ≤ k) ∧ Aside0 (w'.heap[gb205]? = some (.cells #[.string a0_0, (.slice A0_1 l0_1.length c0_1)] 38 (0, 0))) ∧ Aside0 (Below w.heap.size w w'))
 case atStart => exact ⟨(strOfNums y206), (0), (rf__), (rf__), H', ⟨Nat.le_refl _⟩, ⟨blk__ BK205.out⟩, ⟨bel__⟩⟩
 case round =>
  clear H'
  try clear p2
  try clear c6
  try clear hcv6
  try clear hcz3_0 hcz3_1 hfz3_0 hfz3_1
  try clear hcz7_0 hcz7_1 hfz7_0 hfz7_1
  obtain ⟨x3_1, x15_1, rfl, rfl, HA, HK1, BK205, HB⟩ := hrel
  cases gk with
  | zero => exact absurd HA.out (by simp [impl_form.l0])
  | succ k1 =>
   have H := HA.out
   clear HA
   simp only [impl_form.l0] at H
   by_cases c8 : x15_1 < (l0_1.length : Int)
   ·rw [if_pos c8] at H
    have c8b0 : decide (x15_1 < (l0_1.length : Int)) = true := decide_eq_true c8
    clear c8
    by_cases c9 : 0 ≤ x15_1
    ·rw [if_pos c9] at H
     have c9b0 : decide (0 ≤ x15_1) = true := decide_eq_true c9
     clear c9
     by_cases c10 : x15_1 < (l0_1.length : Int)
     ·rw [if_pos c10] at H
      have c10b0 : decide (x15_1 < (l0_1.length : Int)) = true := decide_eq_true c10
      clear c10
      by_cases c11 : x3_1.size + (rdOf ByteArray.empty l0_1 x15_1).size ≤ 9223372036854775807
      ·rw [if_pos c11] at H
       have c11b0 := eq_true c11
       have c11b1 : decide (x3_1.size + (rdOf ByteArray.empty l0_1 x15_1).size ≤ 9223372036854775807) = true := decide_eq_true c11
       try have c11b2 : (9223372036854775807 < x3_1.size + (rdOf ByteArray.empty l0_1 x15_1).size) = False := eq_false (Nat.not_lt.2 c11)
       have H' := Aside0.mk H
       clear H
       have p209 : 0 ≤ (x15_1 : Int) := of_decide_eq_true (by first | (with_reducible assumption) | assumption)
       have q209 : x15_1 < (l0_1.length : Int) := of_decide_eq_true (by first | (with_reducible assumption) | assumption)
       obtain ⟨ad209, e209, hx209_0⟩ := Kd.at_string HR0_1.out x15_1 p209 q209
       cases e209
       try replace hx209_0 := (HB.out.cell (World.block_lt_of_cell? w _ hx209_0)).trans hx209_0
       replace p209 := eq_true p209
       replace q209 := eq_true q209
       go_wp2
       go_roundg k1
       case measure => have := HK1.out; omega
       case rel => exact ⟨(x3_1 ++ (rdOf ByteArray.empty l0_1 x15_1)), (wrap64 (x15_1 + 1)), (rf__), (rf__), H', ⟨by have := HK1.out; omega⟩, ⟨blk__ BK205.out⟩, ⟨bel__⟩⟩
      ·rw [if_neg c11] at H
       exact absurd H (by simp)
     ·rw [if_neg c10] at H
      exact absurd H (by simp)
    ·rw [if_neg c9] at H
     exact absurd H (by simp)
   ·rw [if_neg c8] at H
    have c8b0 : decide (x15_1 < (l0_1.length : Int)) = false := decide_eq_false c8
    clear c8
    by_cases c12 : x3_1.size + a0_0.size ≤ 9223372036854775807
    ·rw [if_pos c12] at H
     have c12b0 := eq_true c12
     have c12b1 : decide (x3_1.size + a0_0.size ≤ 9223372036854775807) = true := decide_eq_true c12
     try have c12b2 : (9223372036854775807 < x3_1.size + a0_0.size) = False := eq_false (Nat.not_lt.2 c12)
     obtain rfl := Option.some.inj H
     have hcz13_0 : wr.cell? ⟨gb205, 0, none⟩ = some (.string a0_0) := (blk_cell BK205.out 0).trans rfl
     have hcz13_1 : wr.cell? ⟨gb205, 1, none⟩ = some (.slice A0_1 l0_1.length c0_1) := (blk_cell BK205.out 1).trans rfl
     have hfz13_0 := blk_frozen BK205.out 0
     have hfz13_1 := blk_frozen BK205.out 1
     go_wp2
     go_ret
     exact ⟨by first | rfl | (simp [errW_none, errW_some] <;> rfl) | (simp [*, errW_none, errW_some] <;> rfl), bel__⟩
    ·rw [if_neg c12] at H
     exact absurd H (by simp)
end Go.Proofs.Ytpnblgbkjbpeoaa.P

namespace Go.Proofs.Ytpnblgbkjbpeoaa.P
open Go.RowKit Go.Proofs.YtpnblgbkjbpeoaaW.PrintWords Go.Proofs.YtpnblgbkjbpeoaaW.PrintLast Go.Proofs.YtpnblgbkjbpeoaaW.PrintMore
attribute [local go_sem] max2_int min2_int max_two min_two max_three min_three max_four min_four   -- for this text's walks alone
set_option linter.unusedVariables false
set_option linter.unusedSimpArgs false
/-! ### impl_FormThing: function 25 -/
def impl_FormThing.f (k : Nat) (a0_0 : ByteArray) (l0_1 : List ByteArray) (a1 : Int) : Option (ByteArray) := (impl_thingOk.f k a0_0 l0_1 a1).bind fun t211 => (if t211 = true then ((impl_form.f k a0_0 l0_1).bind fun t212 => (some t212)) else (some (⟨#[]⟩ : ByteArray)))
set_option maxHeartbeats 8000000 in
set_option maxRecDepth 100000 in
theorem impl_FormThing.calls (k : Nat) (a0_0 : ByteArray) (A0_1 : Option Addr) (c0_1 : Nat) (l0_1 : List ByteArray) (a1 : Int) (r : ByteArray) (w : World) (hr0_1 : Kd.C Kd.string w A0_1 l0_1.length l0_1) (hc0_1 : l0_1.length ≤ c0_1) (h : impl_FormThing.f k a0_0 l0_1 a1 = some r) :
  Calls Try.prog 25 #[.agg #[.string a0_0, .slice A0_1 l0_1.length c0_1], .int .i64 a1] w fun e w' => e = .returned (.string r) ∧ Below w.heap.size w w' := by
 have hu38 := Try.underlying38
 have HR0_1 := Aside0.mk hr0_1
 have HC0_1 := Aside0.mk hc0_1
 clear hr0_1 hc0_1
 have HB := am__ (Below.refl w.heap.size w)
 have H : ((impl_thingOk.f k a0_0 l0_1 a1).bind fun t211 => (if t211 = true then ((impl_form.f k a0_0 l0_1).bind fun t212 => (some t212)) else (some (⟨#[]⟩ : ByteArray)))) = some r := h
 clear h
 replace H := Option.bind_eq_some_iff.mp H
 obtain ⟨t211, A30, H⟩ := H
 replace H : (if t211 = true then ((impl_form.f k a0_0 l0_1).bind fun t212 => (some t212)) else (some (⟨#[]⟩ : ByteArray))) = some r := H
 have A3 := Aside0.mk A30
 clear A30
 by_cases c4 : t211 = true
 ·subst c4
  have H1 : ((impl_form.f k a0_0 l0_1).bind fun t212 => (some t212)) = some r := by rw [if_pos rfl] at H; exact H
  clear H
  have H := H1
  clear H1
  replace H := Option.bind_eq_some_iff.mp H
  obtain ⟨t212, A50, H⟩ := H
  replace H : (some t212) = some r := H
  have A5 := Aside0.mk A50
  clear A50
  obtain rfl := Option.some.inj H
  go_enter Try.func25, Try.ntmps25
  go_wp2_with (first | ((with_reducible refine gate_dst (N := 2) rfl ?_); refine be__ 2 #[.string a0_0, .slice A0_1 l0_1.length c0_1] 38 ?_; intro gb210 hg w6 hbox hb; have BK210 := am__ (hbox); have GW210 := am__ ((bsz__ hg bel__ : w.heap.size ≤ gb210)); have GE210 := am__ ((bsz__ hg bel__ : w.heap.size ≤ gb210)); replace HB := am__ (below_step (bel__) hb); clear hb hbox hg; obtain ⟨hcz7_0, hcz7_1, hfz7_0, hfz7_1⟩ := bk2__ BK210.out) | ((with_reducible refine gate_callee (f := 63) rfl ?_); refine gl__ (some 7) Try.func63 #[.agg #[.string a0_0, .slice A0_1 l0_1.length c0_1], .int .i64 a1] ?_; (with_reducible refine (impl_thingOk.calls k a0_0 _ _ l0_1 a1 true _ ?side1 HC0_1.out A3.out).mono ?_); (case side1 => repeat (first | exact (Kd.C_below HR0_1.out HB.out) | (with_reducible refine Kd.C_alloc ?_ _) | (with_reducible refine Kd.C_drewN ?_ _) | (with_reducible refine Kd.C_drew ?_))); rintro e w8 ⟨rfl, hb⟩; refine ⟨_, rfl, ?_⟩; replace BK210 := am__ (blb__ BK210.out hb); replace HB := am__ (below_step (bel__) hb); clear hb; obtain ⟨hcz9_0, hcz9_1, hfz9_0, hfz9_1⟩ := bk2__ BK210.out) | ((with_reducible refine gate_callee (f := 64) rfl ?_); refine gl__ (some 10) Try.func64 #[.agg #[.string a0_0, .slice A0_1 l0_1.length c0_1]] ?_; (with_reducible refine (impl_form.calls k a0_0 _ _ l0_1 t212 _ ?side1 HC0_1.out A5.out).mono ?_); (case side1 => repeat (first | exact (Kd.C_below HR0_1.out HB.out) | (with_reducible refine Kd.C_alloc ?_ _) | (with_reducible refine Kd.C_drewN ?_ _) | (with_reducible refine Kd.C_drew ?_))); rintro e w10 ⟨rfl, hb⟩; refine ⟨_, rfl, ?_⟩; replace BK210 := am__ (blb__ BK210.out hb); replace HB := am__ (below_step (bel__) hb); clear hb))
  go_ret
  exact ⟨by first | rfl | (simp [errW_none, errW_some] <;> rfl) | (simp [*, errW_none, errW_some] <;> rfl), bel__⟩
 ·replace c4 := Bool.eq_false_iff.mpr c4
  subst c4
  have H1 : (some (⟨#[]⟩ : ByteArray)) = some r := by rw [if_neg (show ¬ (false = true) by decide)] at H; exact H
  clear H
  have H := H1
  clear H1
  obtain rfl := Option.some.inj H
  go_enter Try.func25, Try.ntmps25
  go_wp2_with (first | ((with_reducible refine gate_dst (N := 2) rfl ?_); refine be__ 2 #[.string a0_0, .slice A0_1 l0_1.length c0_1] 38 ?_; intro gb210 hg w11 hbox hb; have BK210 := am__ (hbox); have GW210 := am__ ((bsz__ hg bel__ : w.heap.size ≤ gb210)); have GE210 := am__ ((bsz__ hg bel__ : w.heap.size ≤ gb210)); replace HB := am__ (below_step (bel__) hb); clear hb hbox hg; obtain ⟨hcz12_0, hcz12_1, hfz12_0, hfz12_1⟩ := bk2__ BK210.out) | ((with_reducible refine gate_callee (f := 63) rfl ?_); refine gl__ (some 7) Try.func63 #[.agg #[.string a0_0, .slice A0_1 l0_1.length c0_1], .int .i64 a1] ?_; (with_reducible refine (impl_thingOk.calls k a0_0 _ _ l0_1 a1 false _ ?side1 HC0_1.out A3.out).mono ?_); (case side1 => repeat (first | exact (Kd.C_below HR0_1.out HB.out) | (with_reducible refine Kd.C_alloc ?_ _) | (with_reducible refine Kd.C_drewN ?_ _) | (with_reducible refine Kd.C_drew ?_))); rintro e w13 ⟨rfl, hb⟩; refine ⟨_, rfl, ?_⟩; replace BK210 := am__ (blb__ BK210.out hb); replace HB := am__ (below_step (bel__) hb); clear hb))
  go_ret
  exact ⟨by first | rfl | (simp [errW_none, errW_some] <;> rfl) | (simp [*, errW_none, errW_some] <;> rfl), bel__⟩
end Go.Proofs.Ytpnblgbkjbpeoaa.P

namespace Go.Proofs.Ytpnblgbkjbpeoaa.P
open Go.RowKit Go.Proofs.YtpnblgbkjbpeoaaW.PrintWords Go.Proofs.YtpnblgbkjbpeoaaW.PrintLast Go.Proofs.YtpnblgbkjbpeoaaW.PrintMore
attribute [local go_sem] max2_int min2_int max_two min_two max_three min_three max_four min_four   -- for this text's walks alone
set_option linter.unusedVariables false
set_option linter.unusedSimpArgs false
/-! ### impl_ReadThing: function 28 -/
mutual
def impl_ReadThing.j0 : Nat → ByteArray → Int → Bool → Option (ByteArray × List ByteArray × Bool)
 | 0, _, _, _ => none
 | k + 1, x0, x1, x25 => if x25 = true then (some ((⟨#[]⟩ : ByteArray), ([] : List ByteArray), false)) else (if 0 < (x0.size : Int) then (if 1 ≤ (x0.size : Int) then (impl_ReadThing.l0 k (x0.extract 1 x0.size) x1 (wrap64 (bt x0 0)) (⟨#[]⟩ : ByteArray) ([] : List ByteArray)) else (none)) else (none))
def impl_ReadThing.l0 : Nat → ByteArray → Int → Int → ByteArray → List ByteArray → Option (ByteArray × List ByteArray × Bool)
 | 0, _, _, _, _, _ => none
 | k + 1, x0, x1, x7, x244000, x244001 => if x7 > 0 then (if 0 ≤ x1 then (if x1 ≤ (x0.size : Int) then (if x244001.length < 8796093022208 then (impl_ReadThing.l0 k (x0.extract (x1 : Int).toNat x0.size) x1 (wrap64 (x7 - 1)) x244000 (x244001 ++ [x0.extract 0 (x1 : Int).toNat])) else (none)) else (none)) else (none)) else ((impl_thingOk.f k x0 x244001 x1).bind fun t247 => (if t247 = true then (some (x0, x244001, true)) else (some ((⟨#[]⟩ : ByteArray), ([] : List ByteArray), false))))
end
def impl_ReadThing.f (k : Nat) (a0 : ByteArray) (a1 : Int) : Option (ByteArray × List ByteArray × Bool) := (impl_widthOk.f a1).bind fun t242 => (if t242 = true then (if a0.toList = ([] : List UInt8) then (impl_ReadThing.j0 k a0 a1 true) else (if 0 < (a0.size : Int) then (impl_ReadThing.j0 k a0 a1 (decide ((a0.size : Int) < (wrap64 (1 + (wrap64 ((wrap64 (bt a0 0)) * a1))))))) else (none))) else (impl_ReadThing.j0 k a0 a1 true))
def impl_ReadThing.T8 : Bool × List (List Nat × List Nat) := (true, [([], []), ([0], [0]), ([], []), ([], []), ([2, 3], [2, 3]), ([4], [4]), ([1, 5], [1, 5]), ([0, 1, 2, 3, 4, 5, 6], []), ([7, 6, 6, 0, 1, 2, 3, 4, 5, 6], [6, 7])])
def impl_ReadThing.B8 : List Nat := [0, 1, 0, 0, 12, 28, 63, 127, 255]
theorem impl_ReadThing.tab8 : rtab .any (opsOf Try.f28 8) = impl_ReadThing.T8 := by kernel_rfl
theorem impl_ReadThing.bits8 : waitsOk impl_ReadThing.T8.2 impl_ReadThing.B8 = true := by kernel_rfl
set_option maxHeartbeats 8000000 in
set_option maxRecDepth 100000 in
theorem impl_ReadThing.calls (k : Nat) (a0 : ByteArray) (a1 : Int) (r1 : ByteArray) (r2 : List ByteArray) (r3 : Bool) (w : World) (h : impl_ReadThing.f k a0 a1 = some (r1, r2, r3)) :
  Calls Try.prog 28 #[.string a0, .int .i64 a1] w fun e w' => ∃ v1_ : Value, e = .returned (.tuple #[.agg #[.string r1, v1_], .bool r3]) ∧ Kd.R Kd.string 9 w' w.heap.size (fun _ => True) v1_ r2 ∧ Below w.heap.size w w' := by
 have hu38 := Try.underlying38
 have HB := am__ (Below.refl w.heap.size w)
 have H : ((impl_widthOk.f a1).bind fun t242 => (if t242 = true then (if a0.toList = ([] : List UInt8) then (impl_ReadThing.j0 k a0 a1 true) else (if 0 < (a0.size : Int) then (impl_ReadThing.j0 k a0 a1 (decide ((a0.size : Int) < (wrap64 (1 + (wrap64 ((wrap64 (bt a0 0)) * a1))))))) else (none))) else (impl_ReadThing.j0 k a0 a1 true))) = some (r1, r2, r3) := h
 clear h
 have HC3 := Aside0.mk H
 clear H
 go_enter Try.func28, Try.ntmps28
 go_upto_region 1 with (first | ((with_reducible refine gate_dst (N := 4) rfl ?_); (try (refine gate_guard (by rfl) ?_; dsimp only)); refine be__ 4 #[.string (⟨#[]⟩ : ByteArray), .slice none 0 0] 38 ?_; intro gb241 hg w4 hbox hb; have BK241 := am__ (hbox); have GW241 := am__ ((bsz__ hg bel__ : w.heap.size ≤ gb241)); have GE241 := am__ ((bsz__ hg bel__ : w.heap.size ≤ gb241)); replace HB := am__ (below_step (bel__) hb); clear hb hbox hg))
 (try simp only [Act.put, List.setIfInBounds_toArray, List.set_cons_zero, List.set_cons_succ])
 go_cut [25] (fun v25 wc => ∃ (kq : Nat) (x25_2 : Bool), v25 = .bool x25_2 ∧ Aside0 (impl_ReadThing.j0 kq a0 a1 x25_2 = some (r1, r2, r3)) ∧ Aside0 (kq ≤ k) ∧ Aside0 (wc.heap[gb241]? = some (.cells #[.string (⟨#[]⟩ : ByteArray), (.slice none 0 0)] 38 (0, 0))) ∧ Aside0 (Below w.heap.size w wc))
 case first =>
  have H := HC3.out
  clear HC3
  replace H := Option.bind_eq_some_iff.mp H
  obtain ⟨t242, A50, H⟩ := H
  replace H : (if t242 = true then (if a0.toList = ([] : List UInt8) then (impl_ReadThing.j0 k a0 a1 true) else (if 0 < (a0.size : Int) then (impl_ReadThing.j0 k a0 a1 (decide ((a0.size : Int) < (wrap64 (1 + (wrap64 ((wrap64 (bt a0 0)) * a1))))))) else (none))) else (impl_ReadThing.j0 k a0 a1 true)) = some (r1, r2, r3) := H
  have A5 := Aside0.mk A50
  clear A50
  by_cases c6 : t242 = true
  ·subst c6
   have H1 : (if a0.toList = ([] : List UInt8) then (impl_ReadThing.j0 k a0 a1 true) else (if 0 < (a0.size : Int) then (impl_ReadThing.j0 k a0 a1 (decide ((a0.size : Int) < (wrap64 (1 + (wrap64 ((wrap64 (bt a0 0)) * a1))))))) else (none))) = some (r1, r2, r3) := by rw [if_pos rfl] at H; exact H
   clear H
   have H := H1
   clear H1
   by_cases c7 : a0.toList = ([] : List UInt8)
   ·rw [if_pos c7] at H
    have c7b0 : (a0.toList == ([] : List UInt8)) = true := beq_iff_eq.mpr c7
    have c7b1 : (a0.toList != ([] : List UInt8)) = false := bne_eq_false_iff_eq.mpr c7
    clear c7
    (first | rw [c7b0] | (simp only [i64_w, i32_w]; rw [c7b0]) | skip)
    have H' := Aside0.mk H
    clear H
    go_wp2_with (first | ((with_reducible refine gate_callee (f := 57) rfl ?_); refine gl__ (some 9) Try.func57 #[.int .i64 a1] ?_; (with_reducible refine (impl_widthOk.calls a1 true _ A5.out).mono ?_); rintro e w' ⟨rfl, ⟨nd, rfl⟩⟩; refine ⟨_, rfl, ?_⟩))
    go_meet
    case rel => exact ⟨_, (true), (rf__), H', ⟨by first | omega | exact Nat.le_refl _⟩, ⟨blk__ BK241.out⟩, ⟨bel__⟩⟩
   ·rw [if_neg c7] at H
    have c7b0 : (a0.toList == ([] : List UInt8)) = false := beq_eq_false_iff_ne.mpr c7
    have c7b1 : (a0.toList != ([] : List UInt8)) = true := bne_iff_ne.mpr c7
    (first | rw [c7b0] | (simp only [i64_w, i32_w]; rw [c7b0]) | skip)
    by_cases c8 : 0 < (a0.size : Int)
    ·rw [if_pos c8] at H
     have c8b0 : decide (0 < (a0.size : Int)) = true := decide_eq_true c8
     have c8b1 : decide (0 < a0.size) = true := decide_eq_true (by omega)
     clear c8
     have H' := Aside0.mk H
     clear H
     go_wp2_with (first | ((with_reducible refine gate_callee (f := 57) rfl ?_); refine gl__ (some 9) Try.func57 #[.int .i64 a1] ?_; (with_reducible refine (impl_widthOk.calls a1 true _ A5.out).mono ?_); rintro e w' ⟨rfl, ⟨nd, rfl⟩⟩; refine ⟨_, rfl, ?_⟩; have p9 : 0 ≤ (0 : Int) := (by omega); have q9 : 0 < a0.size := (by have : (0 : Int) < (a0.size : Int) := of_decide_eq_true (by first | (with_reducible assumption) | assumption); omega); have hx9 : ∀ h : 0 < a0.size, ((a0[0]'h).toNat : Int) = bt a0 0 := bt_at a0 0; clear p9; have qi9 : (0 < (a0.size : Int)) = True := eq_true (of_decide_eq_true (by first | (with_reducible assumption) | assumption)); replace q9 := eq_true q9))
     go_meet
     case rel => exact ⟨_, (decide ((a0.size : Int) < (wrap64 (1 + (wrap64 ((wrap64 (bt a0 0)) * a1)))))), (rf__), H', ⟨by first | omega | exact Nat.le_refl _⟩, ⟨blk__ BK241.out⟩, ⟨bel__⟩⟩
    ·rw [if_neg c8] at H
     exact absurd H (by simp)
  ·replace c6 := Bool.eq_false_iff.mpr c6
   subst c6
   have H1 : (impl_ReadThing.j0 k a0 a1 true) = some (r1, r2, r3) := by rw [if_neg (show ¬ (false = true) by decide)] at H; exact H
   clear H
   have H := H1
   clear H1
   have H' := Aside0.mk H
   clear H
   go_wp2_with (first | ((with_reducible refine gate_callee (f := 57) rfl ?_); refine gl__ (some 9) Try.func57 #[.int .i64 a1] ?_; (with_reducible refine (impl_widthOk.calls a1 false _ A5.out).mono ?_); rintro e w' ⟨rfl, ⟨nd, rfl⟩⟩; refine ⟨_, rfl, ?_⟩))
   go_meet
   case rel => exact ⟨_, (true), (rf__), H', ⟨by first | omega | exact Nat.le_refl _⟩, ⟨blk__ BK241.out⟩, ⟨bel__⟩⟩
 case rest =>
  clear HC3
  try clear c2
  try clear p2
  try clear c5
  try clear c6
  try clear p6
  try clear c7
  try clear c7b0
  try clear c7b1
  try clear c8
  try clear c8b0
  try clear c8b1
  try clear p9
  try clear q9
  try clear hx9
  try clear qi9
  try clear p9
  try clear q9
  obtain ⟨kq, x25_2, rfl, HA, HJ2, BK241, HB⟩ := hcut
  cases kq with
  | zero => exact absurd HA.out (by simp [impl_ReadThing.j0])
  | succ kj2 =>
   have H := HA.out
   clear HA
   simp only [impl_ReadThing.j0] at H
   by_cases c10 : x25_2 = true
   ·subst c10
    have H1 : (some ((⟨#[]⟩ : ByteArray), ([] : List ByteArray), false)) = some (r1, r2, r3) := by rw [if_pos rfl] at H; exact H
    clear H
    have H := H1
    clear H1
    simp only [Option.some.injEq, Prod.mk.injEq] at H
    obtain ⟨rfl, rfl, rfl⟩ := H
    have hcz11_0 : wc.cell? ⟨gb241, 0, none⟩ = some (.string (⟨#[]⟩ : ByteArray)) := (blk_cell BK241.out 0).trans rfl
    have hcz11_1 : wc.cell? ⟨gb241, 1, none⟩ = some (.slice none 0 0) := (blk_cell BK241.out 1).trans rfl
    have hfz11_0 := blk_frozen BK241.out 0
    have hfz11_1 := blk_frozen BK241.out 1
    go_wp2
    refine bodyPost_ret (results_ct rfl _ _ gb241 38 #[.string (⟨#[]⟩ : ByteArray), .slice none 0 0] (0, 0) _ rfl (bpu__ BK241.out) Try.underlying38 rfl (by kernel_rfl)) rfl ?_
    exact ⟨_, by first | rfl | (simp [errW_none, errW_some] <;> rfl) | (simp [*, errW_none, errW_some] <;> rfl), by first | exact Kd.R_nil _ _ _ _ _ | exact Kd.N_nil _ _ _ _ _ | exact Kd.V_nil _ _ _ _ _ | exact Kd.Q_nil _ _ _ _ _ | exact Kd.S_nil _ _ _ _ _, bel__⟩
   ·replace c10 := Bool.eq_false_iff.mpr c10
    subst c10
    have H1 : (if 0 < (a0.size : Int) then (if 1 ≤ (a0.size : Int) then (impl_ReadThing.l0 kj2 (a0.extract 1 a0.size) a1 (wrap64 (bt a0 0)) (⟨#[]⟩ : ByteArray) ([] : List ByteArray)) else (none)) else (none)) = some (r1, r2, r3) := by rw [if_neg (show ¬ (false = true) by decide)] at H; exact H
    clear H
    have H := H1
    clear H1
    by_cases c12 : 0 < (a0.size : Int)
    ·rw [if_pos c12] at H
     have c12b0 : decide (0 < (a0.size : Int)) = true := decide_eq_true c12
     have c12b1 : decide (0 < a0.size) = true := decide_eq_true (by omega)
     clear c12
     by_cases c14 : 1 ≤ (a0.size : Int)
     ·rw [if_pos c14] at H
      have c14b0 := eq_true c14
      have c14b1 : decide (1 ≤ (a0.size : Int)) = true := decide_eq_true c14
      clear c14
      have H' := Aside0.mk H
      clear H
      go_wp2_with (first | ((with_reducible refine gate_dst (N := 6) rfl ?_); (try (refine gate_guard (by rfl) ?_; dsimp only)); refine be__ 6 #[.string (⟨#[]⟩ : ByteArray), .slice none 0 0] 38 ?_; intro gb243 hg w15 hbox hb; have BK243 := am__ (hbox); have GW243 := am__ ((bsz__ hg bel__ : w.heap.size ≤ gb243)); have GE243 := am__ ((bsz__ hg bel__ : w.heap.size ≤ gb243)); replace HB := am__ (below_step (bel__) hb); have NB241_243 := am__ ((nlt__ hg (blk_lt (g := gb241) (o := .cells #[.string (⟨#[]⟩ : ByteArray), .slice none 0 0] 38 (0, 0)) (blk__ BK241.out)) : gb241 ≠ gb243)); have NB243_241 := am__ ((ngt__ hg (blk_lt (g := gb241) (o := .cells #[.string (⟨#[]⟩ : ByteArray), .slice none 0 0] 38 (0, 0)) (blk__ BK241.out)) : gb243 ≠ gb241)); replace BK241 := am__ (blb__ BK241.out hb); clear hb hbox hg; have p13 : 0 ≤ (0 : Int) := (by omega); have q13 : 0 < a0.size := (by have : (0 : Int) < (a0.size : Int) := of_decide_eq_true (by first | (with_reducible assumption) | assumption); omega); have hx13 : ∀ h : 0 < a0.size, ((a0[0]'h).toNat : Int) = bt a0 0 := bt_at a0 0; clear p13; have qi13 : (0 < (a0.size : Int)) = True := eq_true (of_decide_eq_true (by first | (with_reducible assumption) | assumption)); replace q13 := eq_true q13))
      go_loopg [0, 7] kj2 (fun kq v0 v7 w' => ∃ (x0_2 : ByteArray) (x7_2 : Int) (x244001_2 : List ByteArray) (u244001 : Value), v0 = .string x0_2 ∧ v7 = .int .i64 x7_2 ∧ Aside0 (impl_ReadThing.l0 kq x0_2 a1 x7_2 (⟨#[]⟩ : ByteArray) x244001_2 = some (r1, r2, r3)) ∧ Aside0 (kq ≤ kj2) ∧ Aside0 (Kd.R Kd.string 9 w' w.heap.size (fun _ => True) u244001 x244001_2) ∧ Aside0 (w'.heap[gb241]? = some (.cells #[.string (⟨#[]⟩ : ByteArray), (.slice none 0 0)] 38 (0, 0))) ∧ Aside0 (w'.heap[gb243]? = some (.cells #[.string (⟨#[]⟩ : ByteArray), u244001] 38 (0, 0))) ∧ Aside0 (Below w.heap.size w w'))
      case atStart => exact ⟨(a0.extract 1 a0.size), (wrap64 (bt a0 0)), (([] : List ByteArray)), (.slice none 0 0), (rf__), (rf__), H', ⟨Nat.le_refl _⟩, ⟨by first | exact Kd.R_nil _ _ _ _ _ | exact Kd.N_nil _ _ _ _ _ | exact Kd.V_nil _ _ _ _ _ | exact Kd.Q_nil _ _ _ _ _ | exact Kd.S_nil _ _ _ _ _⟩, ⟨blk__ BK241.out⟩, ⟨blk__ BK243.out⟩, ⟨bel__⟩⟩
      case round =>
       clear H'
       try clear c1
       try clear p1
       try clear q1
       try clear hx1
       try clear qi1
       try clear c2
       try clear p2
       try clear c5
       try clear c6
       try clear p6
       try clear c7
       try clear c7b0
       try clear c7b1
       try clear c8
       try clear c8b0
       try clear c8b1
       try clear p9
       try clear q9
       try clear hx9
       try clear qi9
       try clear c10
       try clear c12
       try clear c12b0
       try clear c12b1
       try clear p13
       try clear q13
       try clear hx13
       try clear qi13
       try clear c14
       try clear c14b0
       try clear c14b1
       try clear hcz11_0 hcz11_1 hfz11_0 hfz11_1
       try clear p13
       try clear p2
       try clear p6
       try clear p9
       try clear q13
       try clear q9
       obtain ⟨x0_2, x7_2, x244001_2, u244001, rfl, rfl, HA, HK2, HO_244001, BK241, BK243, HB⟩ := hrel
       cases gk with
       | zero => exact absurd HA.out (by simp [impl_ReadThing.l0])
       | succ k2 =>
        have H := HA.out
        clear HA
        simp only [impl_ReadThing.l0] at H
        by_cases c16 : x7_2 > 0
        ·rw [if_pos c16] at H
         have c16b0 : decide (0 < x7_2) = true := decide_eq_true c16
         clear c16
         by_cases c17 : 0 ≤ a1
         ·rw [if_pos c17] at H
          have c17b0 := eq_true c17
          have c17b1 : decide (0 ≤ a1) = true := decide_eq_true c17
          clear c17
          by_cases c18 : a1 ≤ (x0_2.size : Int)
          ·rw [if_pos c18] at H
           have c18b0 := eq_true c18
           have c18b1 : decide (a1 ≤ (x0_2.size : Int)) = true := decide_eq_true c18
           clear c18
           by_cases c19 : x244001_2.length < 8796093022208
           ·rw [if_pos c19] at H
            have LMc19 := Aside0.mk c19
            clear c19
            obtain ⟨y244, hy244⟩ : ∃ y_ : List ByteArray, y_ = (x244001_2 ++ [x0_2.extract 0 (a1 : Int).toNat]) := ⟨_, rfl⟩
            replace H : (impl_ReadThing.l0 k2 (x0_2.extract (a1 : Int).toNat x0_2.size) a1 (wrap64 (x7_2 - 1)) (⟨#[]⟩ : ByteArray) y244) = some (r1, r2, r3) := by first | (rw [hy244]; with_reducible exact H) | (have H2_ := (Option.bind_some _ _).symm.trans H; rw [hy244]; with_reducible exact H2_) | (have H2_ := (Option.bind_some _ _).symm.trans H; with_reducible exact H2_) | with_reducible exact H | (rw [hy244]; exact H) | exact H
            have Ny244 := Aside0.mk hy244
            clear hy244
            have c20b0 := eq_true (of_decide_eq_true (by first | (with_reducible assumption) | assumption) : 0 ≤ a1)
            have c21b0 := eq_true (of_decide_eq_true (by first | (with_reducible assumption) | assumption) : a1 ≤ (x0_2.size : Int))
            have H' := Aside0.mk H
            clear H
            try go_wp2
            have n0_ := am__ (Kd.R_drew HO_244001.out)
            have n1_ := am__ (blk_drew BK241.out)
            have n2_ := am__ (blk_drew BK243.out)
            have n3_ := am__ (below_drew1 HB.out)
            clear HO_244001
            clear BK241
            clear BK243
            clear HB
            have HO_244001 := n0_
            have BK241 := n1_
            have BK243 := n2_
            have HB := n3_
            clear n0_ n1_ n2_ n3_
            refine start_ (n := 9) (S := fun w' => w'.cell? ⟨gb243, 0, none⟩ = some (.string (⟨#[]⟩ : ByteArray)) ∧ w'.cell? ⟨gb243, 1, none⟩ = some (u244001)) (ds := [8]) #[false, false, false, false, false, false, false, false, false] (by kernel_rfl) rfl rfl ⟨(blk_cell BK243.out 0).trans rfl, (blk_cell BK243.out 1).trans rfl⟩ (fun hHeld => ?_); refine with_tabW impl_ReadThing.tab8 impl_ReadThing.bits8 (fun HT_ HW_ => ?_)
            generalize wr.drew = w22 at HO_244001 BK241 BK243 HB hHeld ⊢
            refine pu__ (i := 0) (N := some 36) #[true, false, false, false, false, false, false, false, false] HT_.out ?_
            refine pu__ (i := 2) (N := some 38) #[true, false, true, false, false, false, false, false, false] HT_.out ?_
            refine pu__ (i := 3) (N := some 39) #[true, false, true, true, false, false, false, false, false] HT_.out ?_
            refine pu__ (i := 4) (N := some 40) #[true, false, true, true, true, false, false, false, false] HT_.out ?_
            refine take_ (i := 1) (N := some 37) (v := ?_) (a' := ?_) #[true, true, true, true, true, false, false, false, false] rfl rfl (take_ofW HT_.out HW_.out (by kernel_rfl)) (fun _ _ _ h => h) (Or.inl ⟨by rfl, ?_⟩) hHeld ?_ ?_
            rotate_left
            ·rintro w' ⟨s0, s1⟩
             go_simp
             with_reducible rfl
            rotate_left
            ·simp only [Act.put, List.setIfInBounds_toArray, List.set_cons_zero, List.set_cons_succ, i64_w, i32_w]
             rfl
            refine one_ (i := 5) (N := some 41) #[true, true, true, true, true, true, false, false, false] rfl rfl (one_of HT_.out (by kernel_rfl)) (by decide) (fun K hK => ?_)
            refine value_ (w1 := ?_) (v := ?_) (by rfl) rfl ?_ ?_
            rotate_left 2
            ·go_simp
             constructor
             ·rfl
             ·rfl
            refine hK.out _ _ ⟨(blk_cell (blk_alloc BK243.out _) 0).trans rfl, (blk_cell (blk_alloc BK243.out _) 1).trans rfl⟩ (fun hHeld => ?_)
            clear hK K
            refine na__ 41 ?_
            refine one_ (i := 6) (N := some 42) #[true, true, true, true, true, true, true, false, false] rfl rfl (one_of HT_.out (by kernel_rfl)) (by decide) (fun K hK => ?_)
            refine Kd.R_append_step Kd.string (w0 := w) w.heap.size (by rfl) (.tmp 37) (.tmp 41) 25 9 (.string ⟨#[]⟩) 16 rfl Try.underlying25 info9 rfl (by decide) (by omega) u244001 x244001_2 (x0_2.extract 0 (a1 : Int).toNat) [.string (x0_2.extract 0 (a1 : Int).toNat)] (fun _ => True) (fun _ => False) rfl rfl ?aP (fun _ hk => hk.elim) ?aF ?aO ?aB ?aS ?aL ?_
            (case aP => exact rfl)
            (case aB => exact (bel__))
            (case aF => exact (fun _ _ => trivial))
            (case aO => exact (rr__ HO_244001.out))
            (case aS => exact (below_size (bel__)))
            (case aL => have := LMc19.out; omega)
            intro v245 w23 ho hb hg hat
            rw [← Ny244.out] at ho
            have n0_ := am__ (bgr__ BK241.out hg (Kd.R_ne HO_244001.out BK241.out (by decide)))
            have n1_ := am__ (bgr__ BK243.out hg (Kd.R_ne HO_244001.out BK243.out (by decide)))
            have n2_ := am__ (hb)
            have n3_ := am__ (ho)
            clear BK241
            clear BK243
            clear HB
            clear HO_244001
            have BK241 := n0_
            have BK243 := n1_
            have HB := n2_
            have HO246 := n3_
            clear n0_ n1_ n2_ n3_
            clear ho hb hg hat
            obtain ⟨Ao24, co24, eo24⟩ := Kd.R_slice HO246.out
            (first | subst eo24 | (injection eo24 with f1_ f2_ f3_; have f4_ := f1_.symm; have f5_ := f3_.symm; clear f1_ f2_ f3_; subst f4_; subst f5_))
            refine hK.out _ _ ⟨(blk_cell BK243.out 0).trans rfl, (blk_cell BK243.out 1).trans rfl⟩ (fun hHeld => ?_)
            clear hK K
            refine na__ 42 ?_
            refine pu__ (i := 7) (N := some 43) #[true, true, true, true, true, true, true, true, false] HT_.out ?_
            refine last_ (i := 8) (N := none) #[true, true, true, true, true, true, true, true, true] rfl rfl (one_of HT_.out (by kernel_rfl)) (by decide) (fun K hK => ?_)
            have hs25 : w23.cell? ⟨gb243, 1, none⟩ = some (u244001) := (blk_cell BK243.out 1).trans rfl
            have hfs25 := blk_frozen BK243.out 1
            have hns25_0 := NB241_243.out
            have hms25_0 := NB243_241.out
            refine skip_ (w1 := ?_) (by rfl) rfl ?_ ?_
            rotate_left
            ·go_simp
             rfl
            refine hK.out _ _ ?_
            clear hK K
            refine done_ (done_of HT_.out (by kernel_rfl)) ?_
            try go_wp2
            go_roundg k2
            case measure => have := HJ2.out; have := HK2.out; omega
            case rel => exact ⟨(x0_2.extract (a1 : Int).toNat x0_2.size), (wrap64 (x7_2 - 1)), (y244), (.slice Ao24 y244.length co24), (rf__), (rf__), H', ⟨by have := HJ2.out; have := HK2.out; omega⟩, ⟨by refine rps__ ?_; exact Kd.R_mono (Kd.R_far (p := ⟨gb243, 1, none⟩) (Kd.R_types HO246.out BK243.out (by decide)) h2__ (.slice Ao24 y244.length co24)) (fun _ hk => trivial)⟩, ⟨blf1__ BK241.out⟩, ⟨bpu__ BK243.out⟩, ⟨bel__⟩⟩
           ·rw [if_neg c19] at H
            exact absurd H (by simp)
          ·rw [if_neg c18] at H
           exact absurd H (by simp)
         ·rw [if_neg c17] at H
          exact absurd H (by simp)
        ·rw [if_neg c16] at H
         have c16b0 : decide (0 < x7_2) = false := decide_eq_false c16
         clear c16
         replace H := Option.bind_eq_some_iff.mp H
         obtain ⟨t247, A260, H⟩ := H
         replace H : (if t247 = true then (some (x0_2, x244001_2, true)) else (some ((⟨#[]⟩ : ByteArray), ([] : List ByteArray), false))) = some (r1, r2, r3) := H
         have A26 := Aside0.mk A260
         clear A260
         by_cases c27 : t247 = true
         ·subst c27
          have H1 : (some (x0_2, x244001_2, true)) = some (r1, r2, r3) := by rw [if_pos rfl] at H; exact H
          clear H
          have H := H1
          clear H1
          simp only [Option.some.injEq, Prod.mk.injEq] at H
          obtain ⟨rfl, rfl, rfl⟩ := H
          have hnb28 := NB243_241.out
          have hnc28 := NB241_243.out
          have hcz29_0 : wr.cell? ⟨gb243, 0, none⟩ = some (.string (⟨#[]⟩ : ByteArray)) := (blk_cell BK243.out 0).trans rfl
          have hcz29_1 : wr.cell? ⟨gb243, 1, none⟩ = some (u244001) := (blk_cell BK243.out 1).trans rfl
          have hfz29_0 := blk_frozen BK243.out 0
          have hfz29_1 := blk_frozen BK243.out 1
          obtain ⟨Ao30, co30, eo30⟩ := Kd.R_slice HO_244001.out
          subst eo30
          go_wp2_with (first | ((with_reducible refine gate_callee (f := 63) rfl ?_); refine gl__ (some 51) Try.func63 #[.agg #[.string x0_2, .slice Ao30 x244001_2.length co30], .int .i64 a1] ?_; (with_reducible refine (impl_thingOk.calls k2 x0_2 _ _ x244001_2 a1 true _ ?side1 ?side2 A26.out).mono ?_); (case side1 => refine (Kd.R_reads' (e := 9) (base := w.heap.size) (ok := fun k_ => True) (n := x244001_2.length) (c := co30) ?_).2.2; exact (by refine rps__ ?_; exact (Kd.R_mono (Kd.R_far (p := ⟨gb243, 0, none⟩) (Kd.R_types HO_244001.out BK243.out (by decide)) h2__ (.string x0_2)) h1__))); (case side2 => exact (Kd.R_reads' HO_244001.out).2.1); rintro e w31 ⟨rfl, hb⟩; refine ⟨_, rfl, ?_⟩; replace HO_244001 := am__ (Kd.R_below (by refine rps__ ?_; exact (Kd.R_mono (Kd.R_far (p := ⟨gb243, 0, none⟩) (Kd.R_types HO_244001.out BK243.out (by decide)) h2__ (.string x0_2)) h1__)) hb); replace BK241 := am__ (blk_below (g := gb241) (o := .cells #[.string (⟨#[]⟩ : ByteArray), .slice none 0 0] 38 (0, 0)) (blf1__ BK241.out) hb); replace BK243 := am__ (blk_below (g := gb243) (o := .cells #[.string x0_2, .slice Ao30 x244001_2.length co30] 38 (0, 0)) (bpu__ BK243.out) hb); replace HB := am__ (below_step (bel__) hb); clear hb; obtain ⟨hcz32_0, hcz32_1, hfz32_0, hfz32_1⟩ := bk2__ BK243.out; obtain ⟨hcz33_0, hcz33_1, hfz33_0, hfz33_1⟩ := bk2__ BK241.out))
          refine bodyPost_ret (results_ct rfl _ _ gb241 38 #[.string x0_2, .slice Ao30 x244001_2.length co30] (0, 0) _ rfl (bpu__ BK241.out) Try.underlying38 rfl (by kernel_rfl)) rfl ?_
          exact ⟨_, by first | rfl | (simp [errW_none, errW_some] <;> rfl) | (simp [*, errW_none, errW_some] <;> rfl), by refine rps__ ?_; exact Kd.R_mono (Kd.R_far (p := ⟨gb241, 1, none⟩) (Kd.R_far (p := ⟨gb241, 0, none⟩) (Kd.R_types HO_244001.out BK241.out (by decide)) h2__ (.string x0_2)) h2__ (.slice Ao30 x244001_2.length co30)) (fun _ hk => trivial), bel__⟩
         ·replace c27 := Bool.eq_false_iff.mpr c27
          subst c27
          have H1 : (some ((⟨#[]⟩ : ByteArray), ([] : List ByteArray), false)) = some (r1, r2, r3) := by rw [if_neg (show ¬ (false = true) by decide)] at H; exact H
          clear H
          have H := H1
          clear H1
          simp only [Option.some.injEq, Prod.mk.injEq] at H
          obtain ⟨rfl, rfl, rfl⟩ := H
          have hnb34 := NB243_241.out
          have hnc34 := NB241_243.out
          have hcz35_0 : wr.cell? ⟨gb243, 0, none⟩ = some (.string (⟨#[]⟩ : ByteArray)) := (blk_cell BK243.out 0).trans rfl
          have hcz35_1 : wr.cell? ⟨gb243, 1, none⟩ = some (u244001) := (blk_cell BK243.out 1).trans rfl
          have hfz35_0 := blk_frozen BK243.out 0
          have hfz35_1 := blk_frozen BK243.out 1
          obtain ⟨Ao36, co36, eo36⟩ := Kd.R_slice HO_244001.out
          subst eo36
          go_wp2_with (first | ((with_reducible refine gate_callee (f := 63) rfl ?_); refine gl__ (some 51) Try.func63 #[.agg #[.string x0_2, .slice Ao36 x244001_2.length co36], .int .i64 a1] ?_; (with_reducible refine (impl_thingOk.calls k2 x0_2 _ _ x244001_2 a1 false _ ?side1 ?side2 A26.out).mono ?_); (case side1 => refine (Kd.R_reads' (e := 9) (base := w.heap.size) (ok := fun k_ => True) (n := x244001_2.length) (c := co36) ?_).2.2; exact (by refine rps__ ?_; exact (Kd.R_mono (Kd.R_far (p := ⟨gb243, 0, none⟩) (Kd.R_types HO_244001.out BK243.out (by decide)) h2__ (.string x0_2)) h1__))); (case side2 => exact (Kd.R_reads' HO_244001.out).2.1); rintro e w37 ⟨rfl, hb⟩; refine ⟨_, rfl, ?_⟩; replace HO_244001 := am__ (Kd.R_below (by refine rps__ ?_; exact (Kd.R_mono (Kd.R_far (p := ⟨gb243, 0, none⟩) (Kd.R_types HO_244001.out BK243.out (by decide)) h2__ (.string x0_2)) h1__)) hb); replace BK241 := am__ (blk_below (g := gb241) (o := .cells #[.string (⟨#[]⟩ : ByteArray), .slice none 0 0] 38 (0, 0)) (blf1__ BK241.out) hb); replace BK243 := am__ (blk_below (g := gb243) (o := .cells #[.string x0_2, .slice Ao36 x244001_2.length co36] 38 (0, 0)) (bpu__ BK243.out) hb); replace HB := am__ (below_step (bel__) hb); clear hb; obtain ⟨hcz38_0, hcz38_1, hfz38_0, hfz38_1⟩ := bk2__ BK241.out))
          refine bodyPost_ret (results_ct rfl _ _ gb241 38 #[.string (⟨#[]⟩ : ByteArray), .slice none 0 0] (0, 0) _ rfl (bpu__ BK241.out) Try.underlying38 rfl (by kernel_rfl)) rfl ?_
          exact ⟨_, by first | rfl | (simp [errW_none, errW_some] <;> rfl) | (simp [*, errW_none, errW_some] <;> rfl), by first | exact Kd.R_nil _ _ _ _ _ | exact Kd.N_nil _ _ _ _ _ | exact Kd.V_nil _ _ _ _ _ | exact Kd.Q_nil _ _ _ _ _ | exact Kd.S_nil _ _ _ _ _, bel__⟩
     ·rw [if_neg c14] at H
      exact absurd H (by simp)
    ·rw [if_neg c12] at H
     exact absurd H (by simp)
end Go.Proofs.Ytpnblgbkjbpeoaa.P

namespace Go.Proofs.Ytpnblgbkjbpeoaa.P
open Go.RowKit Go.Proofs.YtpnblgbkjbpeoaaW.PrintWords Go.Proofs.YtpnblgbkjbpeoaaW.PrintLast Go.Proofs.YtpnblgbkjbpeoaaW.PrintMore
attribute [local go_sem] max2_int min2_int max_two min_two max_three min_three max_four min_four   -- for this text's walks alone
set_option linter.unusedVariables false
set_option linter.unusedSimpArgs false
/-! ### spec_l3Uses: function 85 -/
def spec_l3Uses.f (a0 : Int) : Option (Bool × Bool × Int × Bool) := if a0 = 1 then (some (false, false, 1, true)) else (if a0 = 2 then (some (true, true, 0, false)) else (if a0 = 3 then (some (false, true, 0, false)) else (if a0 = 4 then (some (true, false, 1, false)) else (if a0 = 5 then (some (false, false, 2, false)) else (if a0 = 6 then (some (false, false, 1, false)) else (if a0 = 7 then (some (true, false, 0, false)) else (some (false, false, 0, false))))))))
set_option maxHeartbeats 8000000 in
set_option maxRecDepth 100000 in
theorem spec_l3Uses.calls (a0 : Int) (r1 : Bool) (r2 : Bool) (r3 : Int) (r4 : Bool) (w : World) (h : spec_l3Uses.f a0 = some (r1, r2, r3, r4)) :
  Calls Try.prog 85 #[.int .i64 a0] w fun e w' => e = .returned (.tuple #[.bool r1, .bool r2, .int .i64 r3, .bool r4]) ∧ Drawn0 w w' := by
 have H : (if a0 = 1 then (some (false, false, 1, true)) else (if a0 = 2 then (some (true, true, 0, false)) else (if a0 = 3 then (some (false, true, 0, false)) else (if a0 = 4 then (some (true, false, 1, false)) else (if a0 = 5 then (some (false, false, 2, false)) else (if a0 = 6 then (some (false, false, 1, false)) else (if a0 = 7 then (some (true, false, 0, false)) else (some (false, false, 0, false))))))))) = some (r1, r2, r3, r4) := h
 clear h
 by_cases c2 : a0 = 1
 ·rw [if_pos c2] at H
  have c2b0 : (a0 == 1) = true := beq_iff_eq.mpr c2
  have c2b1 : (a0 != 1) = false := bne_eq_false_iff_eq.mpr c2
  clear c2
  simp only [Option.some.injEq, Prod.mk.injEq] at H
  obtain ⟨rfl, rfl, rfl, rfl⟩ := H
  go_enter Try.func85, Try.ntmps85
  go_wp2
  refine bodyPost_ret (results_list (rs := [.tmp 2, .tmp 3, .tmp 4, .tmp 5]) rfl (by simp) (.tmp (.tmp (.tmp (.tmp .nil))))) rfl ?_
  exact ⟨by first | rfl | (simp; done) | (simp [*]; done), by repeat (first | exact Drawn0.refl _ | apply Drawn0.step)⟩
 ·rw [if_neg c2] at H
  have c2b0 : (a0 == 1) = false := beq_eq_false_iff_ne.mpr c2
  have c2b1 : (a0 != 1) = true := bne_iff_ne.mpr c2
  by_cases c3 : a0 = 2
  ·rw [if_pos c3] at H
   have c3b0 : (a0 == 2) = true := beq_iff_eq.mpr c3
   have c3b1 : (a0 != 2) = false := bne_eq_false_iff_eq.mpr c3
   clear c3
   simp only [Option.some.injEq, Prod.mk.injEq] at H
   obtain ⟨rfl, rfl, rfl, rfl⟩ := H
   go_enter Try.func85, Try.ntmps85
   go_wp2
   refine bodyPost_ret (results_list (rs := [.tmp 2, .tmp 3, .tmp 4, .tmp 5]) rfl (by simp) (.tmp (.tmp (.tmp (.tmp .nil))))) rfl ?_
   exact ⟨by first | rfl | (simp; done) | (simp [*]; done), by repeat (first | exact Drawn0.refl _ | apply Drawn0.step)⟩
  ·rw [if_neg c3] at H
   have c3b0 : (a0 == 2) = false := beq_eq_false_iff_ne.mpr c3
   have c3b1 : (a0 != 2) = true := bne_iff_ne.mpr c3
   by_cases c4 : a0 = 3
   ·rw [if_pos c4] at H
    have c4b0 : (a0 == 3) = true := beq_iff_eq.mpr c4
    have c4b1 : (a0 != 3) = false := bne_eq_false_iff_eq.mpr c4
    clear c4
    simp only [Option.some.injEq, Prod.mk.injEq] at H
    obtain ⟨rfl, rfl, rfl, rfl⟩ := H
    go_enter Try.func85, Try.ntmps85
    go_wp2
    refine bodyPost_ret (results_list (rs := [.tmp 2, .tmp 3, .tmp 4, .tmp 5]) rfl (by simp) (.tmp (.tmp (.tmp (.tmp .nil))))) rfl ?_
    exact ⟨by first | rfl | (simp; done) | (simp [*]; done), by repeat (first | exact Drawn0.refl _ | apply Drawn0.step)⟩
   ·rw [if_neg c4] at H
    have c4b0 : (a0 == 3) = false := beq_eq_false_iff_ne.mpr c4
    have c4b1 : (a0 != 3) = true := bne_iff_ne.mpr c4
    by_cases c5 : a0 = 4
    ·rw [if_pos c5] at H
     have c5b0 : (a0 == 4) = true := beq_iff_eq.mpr c5
     have c5b1 : (a0 != 4) = false := bne_eq_false_iff_eq.mpr c5
     clear c5
     simp only [Option.some.injEq, Prod.mk.injEq] at H
     obtain ⟨rfl, rfl, rfl, rfl⟩ := H
     go_enter Try.func85, Try.ntmps85
     go_wp2
     refine bodyPost_ret (results_list (rs := [.tmp 2, .tmp 3, .tmp 4, .tmp 5]) rfl (by simp) (.tmp (.tmp (.tmp (.tmp .nil))))) rfl ?_
     exact ⟨by first | rfl | (simp; done) | (simp [*]; done), by repeat (first | exact Drawn0.refl _ | apply Drawn0.step)⟩
    ·rw [if_neg c5] at H
     have c5b0 : (a0 == 4) = false := beq_eq_false_iff_ne.mpr c5
     have c5b1 : (a0 != 4) = true := bne_iff_ne.mpr c5
     by_cases c6 : a0 = 5
     ·rw [if_pos c6] at H
      have c6b0 : (a0 == 5) = true := beq_iff_eq.mpr c6
      have c6b1 : (a0 != 5) = false := bne_eq_false_iff_eq.mpr c6
      clear c6
      simp only [Option.some.injEq, Prod.mk.injEq] at H
      obtain ⟨rfl, rfl, rfl, rfl⟩ := H
      go_enter Try.func85, Try.ntmps85
      go_wp2
      refine bodyPost_ret (results_list (rs := [.tmp 2, .tmp 3, .tmp 4, .tmp 5]) rfl (by simp) (.tmp (.tmp (.tmp (.tmp .nil))))) rfl ?_
      exact ⟨by first | rfl | (simp; done) | (simp [*]; done), by repeat (first | exact Drawn0.refl _ | apply Drawn0.step)⟩
     ·rw [if_neg c6] at H
      have c6b0 : (a0 == 5) = false := beq_eq_false_iff_ne.mpr c6
      have c6b1 : (a0 != 5) = true := bne_iff_ne.mpr c6
      by_cases c7 : a0 = 6
      ·rw [if_pos c7] at H
       have c7b0 : (a0 == 6) = true := beq_iff_eq.mpr c7
       have c7b1 : (a0 != 6) = false := bne_eq_false_iff_eq.mpr c7
       clear c7
       simp only [Option.some.injEq, Prod.mk.injEq] at H
       obtain ⟨rfl, rfl, rfl, rfl⟩ := H
       go_enter Try.func85, Try.ntmps85
       go_wp2
       refine bodyPost_ret (results_list (rs := [.tmp 2, .tmp 3, .tmp 4, .tmp 5]) rfl (by simp) (.tmp (.tmp (.tmp (.tmp .nil))))) rfl ?_
       exact ⟨by first | rfl | (simp; done) | (simp [*]; done), by repeat (first | exact Drawn0.refl _ | apply Drawn0.step)⟩
      ·rw [if_neg c7] at H
       have c7b0 : (a0 == 6) = false := beq_eq_false_iff_ne.mpr c7
       have c7b1 : (a0 != 6) = true := bne_iff_ne.mpr c7
       by_cases c8 : a0 = 7
       ·rw [if_pos c8] at H
        have c8b0 : (a0 == 7) = true := beq_iff_eq.mpr c8
        have c8b1 : (a0 != 7) = false := bne_eq_false_iff_eq.mpr c8
        clear c8
        simp only [Option.some.injEq, Prod.mk.injEq] at H
        obtain ⟨rfl, rfl, rfl, rfl⟩ := H
        go_enter Try.func85, Try.ntmps85
        go_wp2
        refine bodyPost_ret (results_list (rs := [.tmp 2, .tmp 3, .tmp 4, .tmp 5]) rfl (by simp) (.tmp (.tmp (.tmp (.tmp .nil))))) rfl ?_
        exact ⟨by first | rfl | (simp; done) | (simp [*]; done), by repeat (first | exact Drawn0.refl _ | apply Drawn0.step)⟩
       ·rw [if_neg c8] at H
        have c8b0 : (a0 == 7) = false := beq_eq_false_iff_ne.mpr c8
        have c8b1 : (a0 != 7) = true := bne_iff_ne.mpr c8
        simp only [Option.some.injEq, Prod.mk.injEq] at H
        obtain ⟨rfl, rfl, rfl, rfl⟩ := H
        go_enter Try.func85, Try.ntmps85
        go_wp2
        refine bodyPost_ret (results_list (rs := [.tmp 2, .tmp 3, .tmp 4, .tmp 5]) rfl (by simp) (.tmp (.tmp (.tmp (.tmp .nil))))) rfl ?_
        exact ⟨by first | rfl | (simp; done) | (simp [*]; done), by repeat (first | exact Drawn0.refl _ | apply Drawn0.step)⟩
end Go.Proofs.Ytpnblgbkjbpeoaa.P

namespace Go.Proofs.Ytpnblgbkjbpeoaa.P
open Go.RowKit Go.Proofs.YtpnblgbkjbpeoaaW.PrintWords Go.Proofs.YtpnblgbkjbpeoaaW.PrintLast Go.Proofs.YtpnblgbkjbpeoaaW.PrintMore
attribute [local go_sem] max2_int min2_int max_two min_two max_three min_three max_four min_four   -- for this text's walks alone
set_option linter.unusedVariables false
set_option linter.unusedSimpArgs false
/-! ### spec_l3NumberOk: function 86 -/
def spec_l3NumberOk.f (a0 : Int) (a1 : Int) : Option (Bool) := if a1 = 1 then (if a0 ≥ 1 then (some (decide (a0 ≤ 100000))) else (some false)) else (if a1 = 2 then (if a0 ≥ 1 then (some (decide (a0 ≤ 1000000000))) else (some false)) else (some (a0 == 0)))
set_option maxHeartbeats 8000000 in
set_option maxRecDepth 100000 in
theorem spec_l3NumberOk.calls (a0 : Int) (a1 : Int) (r : Bool) (w : World) (h : spec_l3NumberOk.f a0 a1 = some r) :
  Calls Try.prog 86 #[.int .i64 a0, .int .i64 a1] w fun e w' => e = .returned (.bool r) ∧ Drawn0 w w' := by
 have H : (if a1 = 1 then (if a0 ≥ 1 then (some (decide (a0 ≤ 100000))) else (some false)) else (if a1 = 2 then (if a0 ≥ 1 then (some (decide (a0 ≤ 1000000000))) else (some false)) else (some (a0 == 0)))) = some r := h
 clear h
 by_cases c3 : a1 = 1
 ·rw [if_pos c3] at H
  have c3b0 : (a1 == 1) = true := beq_iff_eq.mpr c3
  have c3b1 : (a1 != 1) = false := bne_eq_false_iff_eq.mpr c3
  clear c3
  by_cases c4 : a0 ≥ 1
  ·rw [if_pos c4] at H
   have c4b0 : decide (1 ≤ a0) = true := decide_eq_true c4
   clear c4
   obtain rfl := Option.some.inj H
   go_enter Try.func86, Try.ntmps86
   go_wp2
   go_ret
   exact ⟨by first | rfl | (simp; done) | (simp [*]; done), by repeat (first | exact Drawn0.refl _ | apply Drawn0.step)⟩
  ·rw [if_neg c4] at H
   have c4b0 : decide (1 ≤ a0) = false := decide_eq_false c4
   clear c4
   obtain rfl := Option.some.inj H
   go_enter Try.func86, Try.ntmps86
   go_wp2
   go_ret
   exact ⟨by first | rfl | (simp; done) | (simp [*]; done), by repeat (first | exact Drawn0.refl _ | apply Drawn0.step)⟩
 ·rw [if_neg c3] at H
  have c3b0 : (a1 == 1) = false := beq_eq_false_iff_ne.mpr c3
  have c3b1 : (a1 != 1) = true := bne_iff_ne.mpr c3
  by_cases c5 : a1 = 2
  ·rw [if_pos c5] at H
   have c5b0 : (a1 == 2) = true := beq_iff_eq.mpr c5
   have c5b1 : (a1 != 2) = false := bne_eq_false_iff_eq.mpr c5
   clear c5
   by_cases c6 : a0 ≥ 1
   ·rw [if_pos c6] at H
    have c6b0 : decide (1 ≤ a0) = true := decide_eq_true c6
    clear c6
    obtain rfl := Option.some.inj H
    go_enter Try.func86, Try.ntmps86
    go_wp2
    go_ret
    exact ⟨by first | rfl | (simp; done) | (simp [*]; done), by repeat (first | exact Drawn0.refl _ | apply Drawn0.step)⟩
   ·rw [if_neg c6] at H
    have c6b0 : decide (1 ≤ a0) = false := decide_eq_false c6
    clear c6
    obtain rfl := Option.some.inj H
    go_enter Try.func86, Try.ntmps86
    go_wp2
    go_ret
    exact ⟨by first | rfl | (simp; done) | (simp [*]; done), by repeat (first | exact Drawn0.refl _ | apply Drawn0.step)⟩
  ·rw [if_neg c5] at H
   have c5b0 : (a1 == 2) = false := beq_eq_false_iff_ne.mpr c5
   have c5b1 : (a1 != 2) = true := bne_iff_ne.mpr c5
   obtain rfl := Option.some.inj H
   go_enter Try.func86, Try.ntmps86
   go_wp2
   go_ret
   exact ⟨by first | rfl | (simp; done) | (simp [*]; done), by repeat (first | exact Drawn0.refl _ | apply Drawn0.step)⟩
end Go.Proofs.Ytpnblgbkjbpeoaa.P

namespace Go.Proofs.Ytpnblgbkjbpeoaa.P
open Go.RowKit Go.Proofs.YtpnblgbkjbpeoaaW.PrintWords Go.Proofs.YtpnblgbkjbpeoaaW.PrintLast Go.Proofs.YtpnblgbkjbpeoaaW.PrintMore
attribute [local go_sem] max2_int min2_int max_two min_two max_three min_three max_four min_four   -- for this text's walks alone
set_option linter.unusedVariables false
set_option linter.unusedSimpArgs false
/-! ### spec_l3NameOk: function 87 -/
def spec_l3NameOk.l0 : Nat → ByteArray → Int → Option (Bool)
 | 0, _, _ => none
 | k + 1, x0, x3 => if x3 < (x0.size : Int) then (if 0 ≤ x3 then (if (bt x0 x3) < 33 then (some false) else (if (bt x0 x3) > 126 then (some false) else (spec_l3NameOk.l0 k x0 (wrap64 (x3 + 1))))) else (none)) else (if (x0.size : Int) ≥ 1 then (some (decide ((x0.size : Int) ≤ 40))) else (some false))
def spec_l3NameOk.f (k : Nat) (a0 : ByteArray) : Option (Bool) := spec_l3NameOk.l0 k a0 0
set_option maxHeartbeats 8000000 in
set_option maxRecDepth 100000 in
theorem spec_l3NameOk.calls (k : Nat) (a0 : ByteArray) (r : Bool) (w : World) (h : spec_l3NameOk.f k a0 = some r) :
  Calls Try.prog 87 #[.string a0] w fun e w' => e = .returned (.bool r) ∧ Drawn0 w w' := by
 have H : (spec_l3NameOk.l0 k a0 0) = some r := h
 clear h
 have H' := Aside0.mk H
 clear H
 go_enter Try.func87, Try.ntmps87
 go_wp2
 go_loopg [3] k (fun kq v3 w' => ∃ (x3_1 : Int), v3 = .int .i64 x3_1 ∧ Aside0 (spec_l3NameOk.l0 kq a0 x3_1 = some r) ∧ Aside0 (kq ≤ k) ∧ Drawn0 w w')
 case atStart => exact ⟨(0), (rf__), H', ⟨Nat.le_refl _⟩, by repeat (first | exact Drawn0.refl _ | apply Drawn0.step)⟩
 case round =>
  clear H'
  obtain ⟨x3_1, rfl, HA, HK1, ⟨m1, rfl⟩⟩ := hrel
  cases gk with
  | zero => exact absurd HA.out (by simp [spec_l3NameOk.l0])
  | succ k1 =>
   have H := HA.out
   clear HA
   simp only [spec_l3NameOk.l0] at H
   by_cases c2 : x3_1 < (a0.size : Int)
   ·rw [if_pos c2] at H
    have c2b0 : decide (x3_1 < (a0.size : Int)) = true := decide_eq_true c2
    clear c2
    by_cases c3 : 0 ≤ x3_1
    ·rw [if_pos c3] at H
     have c3b0 : decide (0 ≤ x3_1) = true := decide_eq_true c3
     clear c3
     by_cases c5 : (bt a0 x3_1) < 33
     ·rw [if_pos c5] at H
      have c5b0 : decide ((bt a0 x3_1) < 33) = true := decide_eq_true c5
      clear c5
      obtain rfl := Option.some.inj H
      have p4 : 0 ≤ (x3_1 : Int) := of_decide_eq_true (by first | (with_reducible assumption) | assumption)
      have q4 : x3_1 < (a0.size : Int) := of_decide_eq_true (by first | (with_reducible assumption) | assumption)
      have hx4 := bt_at a0 x3_1
      replace p4 := eq_true p4
      replace q4 := eq_true q4
      go_wp2
      go_ret
      exact ⟨by first | rfl | (simp; done) | (simp [*]; done), by repeat (first | exact Drawn0.refl _ | apply Drawn0.step)⟩
     ·rw [if_neg c5] at H
      have c5b0 : decide ((bt a0 x3_1) < 33) = false := decide_eq_false c5
      clear c5
      by_cases c7 : (bt a0 x3_1) > 126
      ·rw [if_pos c7] at H
       have c7b0 : decide (126 < (bt a0 x3_1)) = true := decide_eq_true c7
       clear c7
       obtain rfl := Option.some.inj H
       have p4 : 0 ≤ (x3_1 : Int) := of_decide_eq_true (by first | (with_reducible assumption) | assumption)
       have q4 : x3_1 < (a0.size : Int) := of_decide_eq_true (by first | (with_reducible assumption) | assumption)
       have hx4 := bt_at a0 x3_1
       replace p4 := eq_true p4
       replace q4 := eq_true q4
       have p6 : 0 ≤ (x3_1 : Int) := of_decide_eq_true (by first | (with_reducible assumption) | assumption)
       have q6 : x3_1 < (a0.size : Int) := of_decide_eq_true (by first | (with_reducible assumption) | assumption)
       have hx6 := bt_at a0 x3_1
       replace p6 := eq_true p6
       replace q6 := eq_true q6
       go_wp2
       go_ret
       exact ⟨by first | rfl | (simp; done) | (simp [*]; done), by repeat (first | exact Drawn0.refl _ | apply Drawn0.step)⟩
      ·rw [if_neg c7] at H
       have c7b0 : decide (126 < (bt a0 x3_1)) = false := decide_eq_false c7
       clear c7
       have H' := Aside0.mk H
       clear H
       have p4 : 0 ≤ (x3_1 : Int) := of_decide_eq_true (by first | (with_reducible assumption) | assumption)
       have q4 : x3_1 < (a0.size : Int) := of_decide_eq_true (by first | (with_reducible assumption) | assumption)
       have hx4 := bt_at a0 x3_1
       replace p4 := eq_true p4
       replace q4 := eq_true q4
       have p6 : 0 ≤ (x3_1 : Int) := of_decide_eq_true (by first | (with_reducible assumption) | assumption)
       have q6 : x3_1 < (a0.size : Int) := of_decide_eq_true (by first | (with_reducible assumption) | assumption)
       have hx6 := bt_at a0 x3_1
       replace p6 := eq_true p6
       replace q6 := eq_true q6
       go_wp2
       go_roundg k1
       case measure => have := HK1.out; omega
       case rel => exact ⟨(wrap64 (x3_1 + 1)), (rf__), H', ⟨by have := HK1.out; omega⟩, by repeat (first | exact Drawn0.refl _ | apply Drawn0.step)⟩
    ·rw [if_neg c3] at H
     exact absurd H (by simp)
   ·rw [if_neg c2] at H
    have c2b0 : decide (x3_1 < (a0.size : Int)) = false := decide_eq_false c2
    clear c2
    by_cases c8 : (a0.size : Int) ≥ 1
    ·rw [if_pos c8] at H
     have c8b0 : decide (1 ≤ (a0.size : Int)) = true := decide_eq_true c8
     have c8b1 : decide (1 ≤ a0.size) = true := decide_eq_true (by omega)
     clear c8
     obtain rfl := Option.some.inj H
     go_wp2
     go_ret
     exact ⟨by first | rfl | (simp; done) | (simp [*]; done), by repeat (first | exact Drawn0.refl _ | apply Drawn0.step)⟩
    ·rw [if_neg c8] at H
     have c8b0 : decide (1 ≤ (a0.size : Int)) = false := decide_eq_false c8
     have c8b1 : decide (1 ≤ a0.size) = false := decide_eq_false (by omega)
     clear c8
     obtain rfl := Option.some.inj H
     go_wp2
     go_ret
     exact ⟨by first | rfl | (simp; done) | (simp [*]; done), by repeat (first | exact Drawn0.refl _ | apply Drawn0.step)⟩
end Go.Proofs.Ytpnblgbkjbpeoaa.P

namespace Go.Proofs.Ytpnblgbkjbpeoaa.P
open Go.RowKit Go.Proofs.YtpnblgbkjbpeoaaW.PrintWords Go.Proofs.YtpnblgbkjbpeoaaW.PrintLast Go.Proofs.YtpnblgbkjbpeoaaW.PrintMore
attribute [local go_sem] max2_int min2_int max_two min_two max_three min_three max_four min_four   -- for this text's walks alone
set_option linter.unusedVariables false
set_option linter.unusedSimpArgs false
/-! ### spec_l3Ok: function 74 -/
mutual
def spec_l3Ok.j0 : Nat → Int → Bool → Int → ByteArray → ByteArray → Int → ByteArray → List ByteArray → Option (Bool)
 | 0, _, _, _, _, _, _, _, _ => none
 | k + 1, x1, x21, x753000, x753001, x753002, x753003, x753004, x753005 => if x21 = true then (some false) else ((spec_l3Uses.f x753000).bind fun bt754 => (if bt754.1 = true then (if (x753001.size : Int) = x1 then ((spec_l3NumberOk.f x753003 bt754.2.2.1).bind fun t758 => (spec_l3Ok.j1 k x1 bt754.2.1 bt754.2.2.2 (!t758) x753000 x753001 x753002 x753003 x753004 x753005)) else (spec_l3Ok.j1 k x1 bt754.2.1 bt754.2.2.2 true x753000 x753001 x753002 x753003 x753004 x753005)) else (if x753001.toList = ([] : List UInt8) then ((spec_l3NumberOk.f x753003 bt754.2.2.1).bind fun t759 => (spec_l3Ok.j1 k x1 bt754.2.1 bt754.2.2.2 (!t759) x753000 x753001 x753002 x753003 x753004 x753005)) else (spec_l3Ok.j1 k x1 bt754.2.1 bt754.2.2.2 true x753000 x753001 x753002 x753003 x753004 x753005))))
def spec_l3Ok.j1 : Nat → Int → Bool → Bool → Bool → Int → ByteArray → ByteArray → Int → ByteArray → List ByteArray → Option (Bool)
 | 0, _, _, _, _, _, _, _, _, _, _ => none
 | k + 1, x1, x6, x8, x53, x753000, x753001, x753002, x753003, x753004, x753005 => if x53 = true then (some false) else (if x6 = true then ((spec_l3NameOk.f k x753002).bind fun t760 => (if t760 = true then (spec_l3Ok.j2 k x1 x8 false x753000 x753001 x753002 x753003 x753004 x753005) else (spec_l3Ok.j2 k x1 x8 true x753000 x753001 x753002 x753003 x753004 x753005))) else (spec_l3Ok.j2 k x1 x8 (x753002.toList != ([] : List UInt8)) x753000 x753001 x753002 x753003 x753004 x753005))
def spec_l3Ok.j2 : Nat → Int → Bool → Bool → Int → ByteArray → ByteArray → Int → ByteArray → List ByteArray → Option (Bool)
 | 0, _, _, _, _, _, _, _, _, _ => none
 | k + 1, x1, x8, x69, x753000, x753001, x753002, x753003, x753004, x753005 => if x69 = true then (some false) else (if x8 = true then ((spec_l1ThingOk.f k x753004 x753005 x1).bind fun t761 => (some t761)) else (if x753004.toList = ([] : List UInt8) then (some ((x753005.length : Int) == 0)) else (some false)))
end
def spec_l3Ok.f (k : Nat) (a0_0 : Int) (a0_1 : ByteArray) (a0_2 : ByteArray) (a0_3 : Int) (a0_4 : ByteArray) (l0_5 : List ByteArray) (a1 : Int) : Option (Bool) := (spec_l1Width.f a1).bind fun t753 => (if t753 = true then (if a0_0 < 1 then (spec_l3Ok.j0 k a1 true a0_0 a0_1 a0_2 a0_3 a0_4 l0_5) else (spec_l3Ok.j0 k a1 (decide (a0_0 > 7)) a0_0 a0_1 a0_2 a0_3 a0_4 l0_5)) else (spec_l3Ok.j0 k a1 true a0_0 a0_1 a0_2 a0_3 a0_4 l0_5))
set_option maxHeartbeats 8000000 in
set_option maxRecDepth 100000 in
theorem spec_l3Ok.calls (k : Nat) (a0_0 : Int) (a0_1 : ByteArray) (a0_2 : ByteArray) (a0_3 : Int) (a0_4 : ByteArray) (A0_5 : Option Addr) (c0_5 : Nat) (l0_5 : List ByteArray) (a1 : Int) (r : Bool) (w : World) (hr0_5 : Kd.C Kd.string w A0_5 l0_5.length l0_5) (hc0_5 : l0_5.length ≤ c0_5) (h : spec_l3Ok.f k a0_0 a0_1 a0_2 a0_3 a0_4 l0_5 a1 = some r) :
  Calls Try.prog 74 #[.agg #[.int .i64 a0_0, .string a0_1, .string a0_2, .int .i64 a0_3, .string a0_4, .slice A0_5 l0_5.length c0_5], .int .i64 a1] w fun e w' => e = .returned (.bool r) ∧ Below w.heap.size w w' := by
 have hu63 := Try.underlying63
 have hu38 := Try.underlying38
 have HR0_5 := Aside0.mk hr0_5
 have HC0_5 := Aside0.mk hc0_5
 clear hr0_5 hc0_5
 have HB := am__ (Below.refl w.heap.size w)
 have H : ((spec_l1Width.f a1).bind fun t753 => (if t753 = true then (if a0_0 < 1 then (spec_l3Ok.j0 k a1 true a0_0 a0_1 a0_2 a0_3 a0_4 l0_5) else (spec_l3Ok.j0 k a1 (decide (a0_0 > 7)) a0_0 a0_1 a0_2 a0_3 a0_4 l0_5)) else (spec_l3Ok.j0 k a1 true a0_0 a0_1 a0_2 a0_3 a0_4 l0_5))) = some r := h
 clear h
 have HC3 := Aside0.mk H
 clear H
 go_enter Try.func74, Try.ntmps74
 go_upto_region 1 with (first | ((with_reducible refine gate_dst (N := 2) rfl ?_); (try (refine gate_guard (by rfl) ?_; dsimp only)); refine be__ 2 #[.int .i64 a0_0, .string a0_1, .string a0_2, .int .i64 a0_3, .string a0_4, .slice A0_5 l0_5.length c0_5] 63 ?_; intro gb752 hg w4 hbox hb; have BK752 := am__ (hbox); have GW752 := am__ ((bsz__ hg bel__ : w.heap.size ≤ gb752)); have GE752 := am__ ((bsz__ hg bel__ : w.heap.size ≤ gb752)); replace HB := am__ (below_step (bel__) hb); clear hb hbox hg))
 (try simp only [Act.put, List.setIfInBounds_toArray, List.set_cons_zero, List.set_cons_succ])
 go_cut [21] (fun v21 wc => ∃ (kq : Nat) (x21_2 : Bool), v21 = .bool x21_2 ∧ Aside0 (spec_l3Ok.j0 kq a1 x21_2 a0_0 a0_1 a0_2 a0_3 a0_4 l0_5 = some r) ∧ Aside0 (kq ≤ k) ∧ Aside0 (wc.heap[gb752]? = some (.cells #[.int .i64 a0_0, .string a0_1, .string a0_2, .int .i64 a0_3, .string a0_4, (.slice A0_5 l0_5.length c0_5)] 63 (0, 0))) ∧ Aside0 (Below w.heap.size w wc))
 case first =>
  have H := HC3.out
  clear HC3
  replace H := Option.bind_eq_some_iff.mp H
  obtain ⟨t753, A50, H⟩ := H
  replace H : (if t753 = true then (if a0_0 < 1 then (spec_l3Ok.j0 k a1 true a0_0 a0_1 a0_2 a0_3 a0_4 l0_5) else (spec_l3Ok.j0 k a1 (decide (a0_0 > 7)) a0_0 a0_1 a0_2 a0_3 a0_4 l0_5)) else (spec_l3Ok.j0 k a1 true a0_0 a0_1 a0_2 a0_3 a0_4 l0_5)) = some r := H
  have A5 := Aside0.mk A50
  clear A50
  by_cases c6 : t753 = true
  ·subst c6
   have H1 : (if a0_0 < 1 then (spec_l3Ok.j0 k a1 true a0_0 a0_1 a0_2 a0_3 a0_4 l0_5) else (spec_l3Ok.j0 k a1 (decide (a0_0 > 7)) a0_0 a0_1 a0_2 a0_3 a0_4 l0_5)) = some r := by rw [if_pos rfl] at H; exact H
   clear H
   have H := H1
   clear H1
   by_cases c7 : a0_0 < 1
   ·rw [if_pos c7] at H
    have c7b0 : decide (a0_0 < 1) = true := decide_eq_true c7
    clear c7
    (first | rw [c7b0] | (simp only [i64_w, i32_w]; rw [c7b0]) | skip)
    have H' := Aside0.mk H
    clear H
    go_wp2_with (first | ((with_reducible refine gate_callee (f := 56) rfl ?_); refine gl__ (some 10) Try.func56 #[.int .i64 a1] ?_; (with_reducible refine (spec_l1Width.calls a1 true _ A5.out).mono ?_); rintro e w' ⟨rfl, ⟨nd, rfl⟩⟩; refine ⟨_, rfl, ?_⟩; obtain ⟨hcz8_0, hcz8_1, hcz8_2, hcz8_3, hcz8_4, hcz8_5, hfz8_0, hfz8_1, hfz8_2, hfz8_3, hfz8_4, hfz8_5⟩ := bk6__ BK752.out))
    go_meet
    case rel => exact ⟨_, (true), (rf__), H', ⟨by first | omega | exact Nat.le_refl _⟩, ⟨blk__ BK752.out⟩, ⟨bel__⟩⟩
   ·rw [if_neg c7] at H
    have c7b0 : decide (a0_0 < 1) = false := decide_eq_false c7
    clear c7
    (first | rw [c7b0] | (simp only [i64_w, i32_w]; rw [c7b0]) | skip)
    have H' := Aside0.mk H
    clear H
    go_wp2_with (first | ((with_reducible refine gate_callee (f := 56) rfl ?_); refine gl__ (some 10) Try.func56 #[.int .i64 a1] ?_; (with_reducible refine (spec_l1Width.calls a1 true _ A5.out).mono ?_); rintro e w' ⟨rfl, ⟨nd, rfl⟩⟩; refine ⟨_, rfl, ?_⟩; obtain ⟨hcz9_0, hcz9_1, hcz9_2, hcz9_3, hcz9_4, hcz9_5, hfz9_0, hfz9_1, hfz9_2, hfz9_3, hfz9_4, hfz9_5⟩ := bk6__ BK752.out))
    go_meet
    case rel => exact ⟨_, (decide (a0_0 > 7)), (rf__), H', ⟨by first | omega | exact Nat.le_refl _⟩, ⟨blk__ BK752.out⟩, ⟨bel__⟩⟩
  ·replace c6 := Bool.eq_false_iff.mpr c6
   subst c6
   have H1 : (spec_l3Ok.j0 k a1 true a0_0 a0_1 a0_2 a0_3 a0_4 l0_5) = some r := by rw [if_neg (show ¬ (false = true) by decide)] at H; exact H
   clear H
   have H := H1
   clear H1
   have H' := Aside0.mk H
   clear H
   go_wp2_with (first | ((with_reducible refine gate_callee (f := 56) rfl ?_); refine gl__ (some 10) Try.func56 #[.int .i64 a1] ?_; (with_reducible refine (spec_l1Width.calls a1 false _ A5.out).mono ?_); rintro e w' ⟨rfl, ⟨nd, rfl⟩⟩; refine ⟨_, rfl, ?_⟩))
   go_meet
   case rel => exact ⟨_, (true), (rf__), H', ⟨by first | omega | exact Nat.le_refl _⟩, ⟨blk__ BK752.out⟩, ⟨bel__⟩⟩
 case rest =>
  clear HC3
  try clear p2
  try clear c5
  try clear c6
  try clear c7
  try clear c7b0
  try clear hcz8_0 hcz8_1 hcz8_2 hcz8_3 hcz8_4 hcz8_5 hfz8_0 hfz8_1 hfz8_2 hfz8_3 hfz8_4 hfz8_5
  try clear hcz9_0 hcz9_1 hcz9_2 hcz9_3 hcz9_4 hcz9_5 hfz9_0 hfz9_1 hfz9_2 hfz9_3 hfz9_4 hfz9_5
  obtain ⟨kq, x21_2, rfl, HA, HJ2, BK752, HB⟩ := hcut
  cases kq with
  | zero => exact absurd HA.out (by simp [spec_l3Ok.j0])
  | succ kj2 =>
   have H := HA.out
   clear HA
   simp only [spec_l3Ok.j0] at H
   by_cases c10 : x21_2 = true
   ·subst c10
    have H1 : (some false) = some r := by rw [if_pos rfl] at H; exact H
    clear H
    have H := H1
    clear H1
    obtain rfl := Option.some.inj H
    go_wp2
    go_ret
    exact ⟨by first | rfl | (simp [errW_none, errW_some] <;> rfl) | (simp [*, errW_none, errW_some] <;> rfl), bel__⟩
   ·replace c10 := Bool.eq_false_iff.mpr c10
    subst c10
    have H1 : ((spec_l3Uses.f a0_0).bind fun bt754 => (if bt754.1 = true then (if (a0_1.size : Int) = a1 then ((spec_l3NumberOk.f a0_3 bt754.2.2.1).bind fun t758 => (spec_l3Ok.j1 kj2 a1 bt754.2.1 bt754.2.2.2 (!t758) a0_0 a0_1 a0_2 a0_3 a0_4 l0_5)) else (spec_l3Ok.j1 kj2 a1 bt754.2.1 bt754.2.2.2 true a0_0 a0_1 a0_2 a0_3 a0_4 l0_5)) else (if a0_1.toList = ([] : List UInt8) then ((spec_l3NumberOk.f a0_3 bt754.2.2.1).bind fun t759 => (spec_l3Ok.j1 kj2 a1 bt754.2.1 bt754.2.2.2 (!t759) a0_0 a0_1 a0_2 a0_3 a0_4 l0_5)) else (spec_l3Ok.j1 kj2 a1 bt754.2.1 bt754.2.2.2 true a0_0 a0_1 a0_2 a0_3 a0_4 l0_5)))) = some r := by rw [if_neg (show ¬ (false = true) by decide)] at H; exact H
    clear H
    have H := H1
    clear H1
    replace H := Option.bind_eq_some_iff.mp H
    obtain ⟨⟨t754, t755, t756, t757⟩, A110, H⟩ := H
    replace H : (if t754 = true then (if (a0_1.size : Int) = a1 then ((spec_l3NumberOk.f a0_3 t756).bind fun t758 => (spec_l3Ok.j1 kj2 a1 t755 t757 (!t758) a0_0 a0_1 a0_2 a0_3 a0_4 l0_5)) else (spec_l3Ok.j1 kj2 a1 t755 t757 true a0_0 a0_1 a0_2 a0_3 a0_4 l0_5)) else (if a0_1.toList = ([] : List UInt8) then ((spec_l3NumberOk.f a0_3 t756).bind fun t759 => (spec_l3Ok.j1 kj2 a1 t755 t757 (!t759) a0_0 a0_1 a0_2 a0_3 a0_4 l0_5)) else (spec_l3Ok.j1 kj2 a1 t755 t757 true a0_0 a0_1 a0_2 a0_3 a0_4 l0_5))) = some r := H
    have A11 := Aside0.mk A110
    clear A110
    have HC12 := Aside0.mk H
    clear H
    have hcz13_0 : wc.cell? ⟨gb752, 0, none⟩ = some (.int .i64 a0_0) := (blk_cell BK752.out 0).trans rfl
    have hcz13_1 : wc.cell? ⟨gb752, 1, none⟩ = some (.string a0_1) := (blk_cell BK752.out 1).trans rfl
    have hcz13_2 : wc.cell? ⟨gb752, 2, none⟩ = some (.string a0_2) := (blk_cell BK752.out 2).trans rfl
    have hcz13_3 : wc.cell? ⟨gb752, 3, none⟩ = some (.int .i64 a0_3) := (blk_cell BK752.out 3).trans rfl
    have hcz13_4 : wc.cell? ⟨gb752, 4, none⟩ = some (.string a0_4) := (blk_cell BK752.out 4).trans rfl
    have hcz13_5 : wc.cell? ⟨gb752, 5, none⟩ = some (.slice A0_5 l0_5.length c0_5) := (blk_cell BK752.out 5).trans rfl
    have hfz13_0 := blk_frozen BK752.out 0
    have hfz13_1 := blk_frozen BK752.out 1
    have hfz13_2 := blk_frozen BK752.out 2
    have hfz13_3 := blk_frozen BK752.out 3
    have hfz13_4 := blk_frozen BK752.out 4
    have hfz13_5 := blk_frozen BK752.out 5
    go_upto_region 4 with (first | ((with_reducible refine gate_callee (f := 85) rfl ?_); refine gl__ (some 25) Try.func85 #[.int .i64 a0_0] ?_; (with_reducible refine (spec_l3Uses.calls a0_0 t754 t755 t756 t757 _ A11.out).mono ?_); rintro e w' ⟨rfl, ⟨nd, rfl⟩⟩; refine ⟨_, rfl, ?_⟩))
    (try simp only [Act.put, List.setIfInBounds_toArray, List.set_cons_zero, List.set_cons_succ])
    go_cut [53] (fun v53 wc => ∃ (kq : Nat) (x53_11 : Bool), v53 = .bool x53_11 ∧ Aside0 (spec_l3Ok.j1 kq a1 t755 t757 x53_11 a0_0 a0_1 a0_2 a0_3 a0_4 l0_5 = some r) ∧ Aside0 (kq ≤ kj2) ∧ Aside0 (wc.heap[gb752]? = some (.cells #[.int .i64 a0_0, .string a0_1, .string a0_2, .int .i64 a0_3, .string a0_4, (.slice A0_5 l0_5.length c0_5)] 63 (0, 0))) ∧ Aside0 (Below w.heap.size w wc))
    case first =>
     have H := HC12.out
     clear HC12
     by_cases c14 : t754 = true
     ·subst c14
      have H1 : (if (a0_1.size : Int) = a1 then ((spec_l3NumberOk.f a0_3 t756).bind fun t758 => (spec_l3Ok.j1 kj2 a1 t755 t757 (!t758) a0_0 a0_1 a0_2 a0_3 a0_4 l0_5)) else (spec_l3Ok.j1 kj2 a1 t755 t757 true a0_0 a0_1 a0_2 a0_3 a0_4 l0_5)) = some r := by rw [if_pos rfl] at H; exact H
      clear H
      have H := H1
      clear H1
      by_cases c15 : (a0_1.size : Int) = a1
      ·rw [if_pos c15] at H
       have c15b0 : ((a0_1.size : Int) == a1) = true := beq_iff_eq.mpr c15
       have c15b1 : ((a0_1.size : Int) != a1) = false := bne_eq_false_iff_eq.mpr c15
       clear c15
       (first | rw [c15b0] | (simp only [i64_w, i32_w]; rw [c15b0]) | skip)
       replace H := Option.bind_eq_some_iff.mp H
       obtain ⟨t758, A160, H⟩ := H
       replace H : (spec_l3Ok.j1 kj2 a1 t755 t757 (!t758) a0_0 a0_1 a0_2 a0_3 a0_4 l0_5) = some r := H
       have A16 := Aside0.mk A160
       clear A160
       have H' := Aside0.mk H
       clear H
       have hcz17_0 : wc.cell? ⟨gb752, 0, none⟩ = some (.int .i64 a0_0) := (blk_cell BK752.out 0).trans rfl
       have hcz17_1 : wc.cell? ⟨gb752, 1, none⟩ = some (.string a0_1) := (blk_cell BK752.out 1).trans rfl
       have hcz17_2 : wc.cell? ⟨gb752, 2, none⟩ = some (.string a0_2) := (blk_cell BK752.out 2).trans rfl
       have hcz17_3 : wc.cell? ⟨gb752, 3, none⟩ = some (.int .i64 a0_3) := (blk_cell BK752.out 3).trans rfl
       have hcz17_4 : wc.cell? ⟨gb752, 4, none⟩ = some (.string a0_4) := (blk_cell BK752.out 4).trans rfl
       have hcz17_5 : wc.cell? ⟨gb752, 5, none⟩ = some (.slice A0_5 l0_5.length c0_5) := (blk_cell BK752.out 5).trans rfl
       have hfz17_0 := blk_frozen BK752.out 0
       have hfz17_1 := blk_frozen BK752.out 1
       have hfz17_2 := blk_frozen BK752.out 2
       have hfz17_3 := blk_frozen BK752.out 3
       have hfz17_4 := blk_frozen BK752.out 4
       have hfz17_5 := blk_frozen BK752.out 5
       go_wp2_with (first | (go_at_call 86; (with_reducible refine (spec_l3NumberOk.calls a0_3 t756 t758 _ A16.out).mono ?_); rintro e w' ⟨rfl, ⟨nd, rfl⟩⟩))
       go_meet
       case rel => exact ⟨_, (!t758), (rf__), H', ⟨by have := HJ2.out; first | omega | exact Nat.le_refl _⟩, ⟨blk__ BK752.out⟩, ⟨bel__⟩⟩
      ·rw [if_neg c15] at H
       have c15b0 : ((a0_1.size : Int) == a1) = false := beq_eq_false_iff_ne.mpr c15
       have c15b1 : ((a0_1.size : Int) != a1) = true := bne_iff_ne.mpr c15
       (first | rw [c15b0] | (simp only [i64_w, i32_w]; rw [c15b0]) | skip)
       have H' := Aside0.mk H
       clear H
       have hcz18_0 : wc.cell? ⟨gb752, 0, none⟩ = some (.int .i64 a0_0) := (blk_cell BK752.out 0).trans rfl
       have hcz18_1 : wc.cell? ⟨gb752, 1, none⟩ = some (.string a0_1) := (blk_cell BK752.out 1).trans rfl
       have hcz18_2 : wc.cell? ⟨gb752, 2, none⟩ = some (.string a0_2) := (blk_cell BK752.out 2).trans rfl
       have hcz18_3 : wc.cell? ⟨gb752, 3, none⟩ = some (.int .i64 a0_3) := (blk_cell BK752.out 3).trans rfl
       have hcz18_4 : wc.cell? ⟨gb752, 4, none⟩ = some (.string a0_4) := (blk_cell BK752.out 4).trans rfl
       have hcz18_5 : wc.cell? ⟨gb752, 5, none⟩ = some (.slice A0_5 l0_5.length c0_5) := (blk_cell BK752.out 5).trans rfl
       have hfz18_0 := blk_frozen BK752.out 0
       have hfz18_1 := blk_frozen BK752.out 1
       have hfz18_2 := blk_frozen BK752.out 2
       have hfz18_3 := blk_frozen BK752.out 3
       have hfz18_4 := blk_frozen BK752.out 4
       have hfz18_5 := blk_frozen BK752.out 5
       go_wp2
       go_meet
       case rel => exact ⟨_, (true), (rf__), H', ⟨by have := HJ2.out; first | omega | exact Nat.le_refl _⟩, ⟨blk__ BK752.out⟩, ⟨bel__⟩⟩
     ·replace c14 := Bool.eq_false_iff.mpr c14
      subst c14
      have H1 : (if a0_1.toList = ([] : List UInt8) then ((spec_l3NumberOk.f a0_3 t756).bind fun t759 => (spec_l3Ok.j1 kj2 a1 t755 t757 (!t759) a0_0 a0_1 a0_2 a0_3 a0_4 l0_5)) else (spec_l3Ok.j1 kj2 a1 t755 t757 true a0_0 a0_1 a0_2 a0_3 a0_4 l0_5)) = some r := by rw [if_neg (show ¬ (false = true) by decide)] at H; exact H
      clear H
      have H := H1
      clear H1
      by_cases c19 : a0_1.toList = ([] : List UInt8)
      ·rw [if_pos c19] at H
       have c19b0 : (a0_1.toList == ([] : List UInt8)) = true := beq_iff_eq.mpr c19
       have c19b1 : (a0_1.toList != ([] : List UInt8)) = false := bne_eq_false_iff_eq.mpr c19
       clear c19
       replace H := Option.bind_eq_some_iff.mp H
       obtain ⟨t759, A200, H⟩ := H
       replace H : (spec_l3Ok.j1 kj2 a1 t755 t757 (!t759) a0_0 a0_1 a0_2 a0_3 a0_4 l0_5) = some r := H
       have A20 := Aside0.mk A200
       clear A200
       have H' := Aside0.mk H
       clear H
       have hcz21_0 : wc.cell? ⟨gb752, 0, none⟩ = some (.int .i64 a0_0) := (blk_cell BK752.out 0).trans rfl
       have hcz21_1 : wc.cell? ⟨gb752, 1, none⟩ = some (.string a0_1) := (blk_cell BK752.out 1).trans rfl
       have hcz21_2 : wc.cell? ⟨gb752, 2, none⟩ = some (.string a0_2) := (blk_cell BK752.out 2).trans rfl
       have hcz21_3 : wc.cell? ⟨gb752, 3, none⟩ = some (.int .i64 a0_3) := (blk_cell BK752.out 3).trans rfl
       have hcz21_4 : wc.cell? ⟨gb752, 4, none⟩ = some (.string a0_4) := (blk_cell BK752.out 4).trans rfl
       have hcz21_5 : wc.cell? ⟨gb752, 5, none⟩ = some (.slice A0_5 l0_5.length c0_5) := (blk_cell BK752.out 5).trans rfl
       have hfz21_0 := blk_frozen BK752.out 0
       have hfz21_1 := blk_frozen BK752.out 1
       have hfz21_2 := blk_frozen BK752.out 2
       have hfz21_3 := blk_frozen BK752.out 3
       have hfz21_4 := blk_frozen BK752.out 4
       have hfz21_5 := blk_frozen BK752.out 5
       go_wp2_with (first | (go_at_call 86; (with_reducible refine (spec_l3NumberOk.calls a0_3 t756 t759 _ A20.out).mono ?_); rintro e w' ⟨rfl, ⟨nd, rfl⟩⟩))
       go_meet
       case rel => exact ⟨_, (!t759), (rf__), H', ⟨by have := HJ2.out; first | omega | exact Nat.le_refl _⟩, ⟨blk__ BK752.out⟩, ⟨bel__⟩⟩
      ·rw [if_neg c19] at H
       have c19b0 : (a0_1.toList == ([] : List UInt8)) = false := beq_eq_false_iff_ne.mpr c19
       have c19b1 : (a0_1.toList != ([] : List UInt8)) = true := bne_iff_ne.mpr c19
       have H' := Aside0.mk H
       clear H
       have hcz22_0 : wc.cell? ⟨gb752, 0, none⟩ = some (.int .i64 a0_0) := (blk_cell BK752.out 0).trans rfl
       have hcz22_1 : wc.cell? ⟨gb752, 1, none⟩ = some (.string a0_1) := (blk_cell BK752.out 1).trans rfl
       have hcz22_2 : wc.cell? ⟨gb752, 2, none⟩ = some (.string a0_2) := (blk_cell BK752.out 2).trans rfl
       have hcz22_3 : wc.cell? ⟨gb752, 3, none⟩ = some (.int .i64 a0_3) := (blk_cell BK752.out 3).trans rfl
       have hcz22_4 : wc.cell? ⟨gb752, 4, none⟩ = some (.string a0_4) := (blk_cell BK752.out 4).trans rfl
       have hcz22_5 : wc.cell? ⟨gb752, 5, none⟩ = some (.slice A0_5 l0_5.length c0_5) := (blk_cell BK752.out 5).trans rfl
       have hfz22_0 := blk_frozen BK752.out 0
       have hfz22_1 := blk_frozen BK752.out 1
       have hfz22_2 := blk_frozen BK752.out 2
       have hfz22_3 := blk_frozen BK752.out 3
       have hfz22_4 := blk_frozen BK752.out 4
       have hfz22_5 := blk_frozen BK752.out 5
       go_wp2
       go_meet
       case rel => exact ⟨_, (true), (rf__), H', ⟨by have := HJ2.out; first | omega | exact Nat.le_refl _⟩, ⟨blk__ BK752.out⟩, ⟨bel__⟩⟩
    case rest =>
     clear HC12
     try clear c1
     try clear p2
     try clear c5
     try clear c6
     try clear c7
     try clear c7b0
     try clear c8
     try clear c10
     try clear c14
     try clear c15
     try clear c15b0
     try clear c15b1
     try clear c19
     try clear c19b0
     try clear c19b1
     try clear hcz13_0 hcz13_1 hcz13_2 hcz13_3 hcz13_4 hcz13_5 hfz13_0 hfz13_1 hfz13_2 hfz13_3 hfz13_4 hfz13_5
     try clear hcz17_0 hcz17_1 hcz17_2 hcz17_3 hcz17_4 hcz17_5 hfz17_0 hfz17_1 hfz17_2 hfz17_3 hfz17_4 hfz17_5
     try clear hcz18_0 hcz18_1 hcz18_2 hcz18_3 hcz18_4 hcz18_5 hfz18_0 hfz18_1 hfz18_2 hfz18_3 hfz18_4 hfz18_5
     try clear hcz21_0 hcz21_1 hcz21_2 hcz21_3 hcz21_4 hcz21_5 hfz21_0 hfz21_1 hfz21_2 hfz21_3 hfz21_4 hfz21_5
     try clear hcz22_0 hcz22_1 hcz22_2 hcz22_3 hcz22_4 hcz22_5 hfz22_0 hfz22_1 hfz22_2 hfz22_3 hfz22_4 hfz22_5
     try clear hcz8_0 hcz8_1 hcz8_2 hcz8_3 hcz8_4 hcz8_5 hfz8_0 hfz8_1 hfz8_2 hfz8_3 hfz8_4 hfz8_5
     try clear hcz9_0 hcz9_1 hcz9_2 hcz9_3 hcz9_4 hcz9_5 hfz9_0 hfz9_1 hfz9_2 hfz9_3 hfz9_4 hfz9_5
     try clear p2
     obtain ⟨kq, x53_11, rfl, HA, HJ11, BK752, HB⟩ := hcut
     cases kq with
     | zero => exact absurd HA.out (by simp [spec_l3Ok.j1])
     | succ kj11 =>
      have H := HA.out
      clear HA
      simp only [spec_l3Ok.j1] at H
      by_cases c23 : x53_11 = true
      ·subst c23
       have H1 : (some false) = some r := by rw [if_pos rfl] at H; exact H
       clear H
       have H := H1
       clear H1
       obtain rfl := Option.some.inj H
       go_wp2
       go_ret
       exact ⟨by first | rfl | (simp [errW_none, errW_some] <;> rfl) | (simp [*, errW_none, errW_some] <;> rfl), bel__⟩
      ·replace c23 := Bool.eq_false_iff.mpr c23
       subst c23
       have H1 : (if t755 = true then ((spec_l3NameOk.f kj11 a0_2).bind fun t760 => (if t760 = true then (spec_l3Ok.j2 kj11 a1 t757 false a0_0 a0_1 a0_2 a0_3 a0_4 l0_5) else (spec_l3Ok.j2 kj11 a1 t757 true a0_0 a0_1 a0_2 a0_3 a0_4 l0_5))) else (spec_l3Ok.j2 kj11 a1 t757 (a0_2.toList != ([] : List UInt8)) a0_0 a0_1 a0_2 a0_3 a0_4 l0_5)) = some r := by rw [if_neg (show ¬ (false = true) by decide)] at H; exact H
       clear H
       have H := H1
       clear H1
       have HC24 := Aside0.mk H
       clear H
       go_upto_region 6 with (fail)
       go_cut [69] (fun v69 wc => ∃ (kq : Nat) (x69_23 : Bool), v69 = .bool x69_23 ∧ Aside0 (spec_l3Ok.j2 kq a1 t757 x69_23 a0_0 a0_1 a0_2 a0_3 a0_4 l0_5 = some r) ∧ Aside0 (kq ≤ kj11) ∧ Aside0 (wc.heap[gb752]? = some (.cells #[.int .i64 a0_0, .string a0_1, .string a0_2, .int .i64 a0_3, .string a0_4, (.slice A0_5 l0_5.length c0_5)] 63 (0, 0))) ∧ Aside0 (Below w.heap.size w wc))
       case first =>
        have H := HC24.out
        clear HC24
        by_cases c25 : t755 = true
        ·subst c25
         have H1 : ((spec_l3NameOk.f kj11 a0_2).bind fun t760 => (if t760 = true then (spec_l3Ok.j2 kj11 a1 t757 false a0_0 a0_1 a0_2 a0_3 a0_4 l0_5) else (spec_l3Ok.j2 kj11 a1 t757 true a0_0 a0_1 a0_2 a0_3 a0_4 l0_5))) = some r := by rw [if_pos rfl] at H; exact H
         clear H
         have H := H1
         clear H1
         replace H := Option.bind_eq_some_iff.mp H
         obtain ⟨t760, A260, H⟩ := H
         replace H : (if t760 = true then (spec_l3Ok.j2 kj11 a1 t757 false a0_0 a0_1 a0_2 a0_3 a0_4 l0_5) else (spec_l3Ok.j2 kj11 a1 t757 true a0_0 a0_1 a0_2 a0_3 a0_4 l0_5)) = some r := H
         have A26 := Aside0.mk A260
         clear A260
         by_cases c27 : t760 = true
         ·subst c27
          have H1 : (spec_l3Ok.j2 kj11 a1 t757 false a0_0 a0_1 a0_2 a0_3 a0_4 l0_5) = some r := by rw [if_pos rfl] at H; exact H
          clear H
          have H := H1
          clear H1
          have H' := Aside0.mk H
          clear H
          have hcz28_0 : wc.cell? ⟨gb752, 0, none⟩ = some (.int .i64 a0_0) := (blk_cell BK752.out 0).trans rfl
          have hcz28_1 : wc.cell? ⟨gb752, 1, none⟩ = some (.string a0_1) := (blk_cell BK752.out 1).trans rfl
          have hcz28_2 : wc.cell? ⟨gb752, 2, none⟩ = some (.string a0_2) := (blk_cell BK752.out 2).trans rfl
          have hcz28_3 : wc.cell? ⟨gb752, 3, none⟩ = some (.int .i64 a0_3) := (blk_cell BK752.out 3).trans rfl
          have hcz28_4 : wc.cell? ⟨gb752, 4, none⟩ = some (.string a0_4) := (blk_cell BK752.out 4).trans rfl
          have hcz28_5 : wc.cell? ⟨gb752, 5, none⟩ = some (.slice A0_5 l0_5.length c0_5) := (blk_cell BK752.out 5).trans rfl
          have hfz28_0 := blk_frozen BK752.out 0
          have hfz28_1 := blk_frozen BK752.out 1
          have hfz28_2 := blk_frozen BK752.out 2
          have hfz28_3 := blk_frozen BK752.out 3
          have hfz28_4 := blk_frozen BK752.out 4
          have hfz28_5 := blk_frozen BK752.out 5
          go_wp2_with (first | (go_at_call 87; (with_reducible refine (spec_l3NameOk.calls kj11 a0_2 true _ A26.out).mono ?_); rintro e w' ⟨rfl, ⟨nd, rfl⟩⟩))
          go_meet
          case rel => exact ⟨_, (false), (rf__), H', ⟨by have := HJ2.out; have := HJ11.out; first | omega | exact Nat.le_refl _⟩, ⟨blk__ BK752.out⟩, ⟨bel__⟩⟩
         ·replace c27 := Bool.eq_false_iff.mpr c27
          subst c27
          have H1 : (spec_l3Ok.j2 kj11 a1 t757 true a0_0 a0_1 a0_2 a0_3 a0_4 l0_5) = some r := by rw [if_neg (show ¬ (false = true) by decide)] at H; exact H
          clear H
          have H := H1
          clear H1
          have H' := Aside0.mk H
          clear H
          have hcz29_0 : wc.cell? ⟨gb752, 0, none⟩ = some (.int .i64 a0_0) := (blk_cell BK752.out 0).trans rfl
          have hcz29_1 : wc.cell? ⟨gb752, 1, none⟩ = some (.string a0_1) := (blk_cell BK752.out 1).trans rfl
          have hcz29_2 : wc.cell? ⟨gb752, 2, none⟩ = some (.string a0_2) := (blk_cell BK752.out 2).trans rfl
          have hcz29_3 : wc.cell? ⟨gb752, 3, none⟩ = some (.int .i64 a0_3) := (blk_cell BK752.out 3).trans rfl
          have hcz29_4 : wc.cell? ⟨gb752, 4, none⟩ = some (.string a0_4) := (blk_cell BK752.out 4).trans rfl
          have hcz29_5 : wc.cell? ⟨gb752, 5, none⟩ = some (.slice A0_5 l0_5.length c0_5) := (blk_cell BK752.out 5).trans rfl
          have hfz29_0 := blk_frozen BK752.out 0
          have hfz29_1 := blk_frozen BK752.out 1
          have hfz29_2 := blk_frozen BK752.out 2
          have hfz29_3 := blk_frozen BK752.out 3
          have hfz29_4 := blk_frozen BK752.out 4
          have hfz29_5 := blk_frozen BK752.out 5
          go_wp2_with (first | (go_at_call 87; (with_reducible refine (spec_l3NameOk.calls kj11 a0_2 false _ A26.out).mono ?_); rintro e w' ⟨rfl, ⟨nd, rfl⟩⟩))
          go_meet
          case rel => exact ⟨_, (true), (rf__), H', ⟨by have := HJ2.out; have := HJ11.out; first | omega | exact Nat.le_refl _⟩, ⟨blk__ BK752.out⟩, ⟨bel__⟩⟩
        ·replace c25 := Bool.eq_false_iff.mpr c25
         subst c25
         have H1 : (spec_l3Ok.j2 kj11 a1 t757 (a0_2.toList != ([] : List UInt8)) a0_0 a0_1 a0_2 a0_3 a0_4 l0_5) = some r := by rw [if_neg (show ¬ (false = true) by decide)] at H; exact H
         clear H
         have H := H1
         clear H1
         have H' := Aside0.mk H
         clear H
         have hcz30_0 : wc.cell? ⟨gb752, 0, none⟩ = some (.int .i64 a0_0) := (blk_cell BK752.out 0).trans rfl
         have hcz30_1 : wc.cell? ⟨gb752, 1, none⟩ = some (.string a0_1) := (blk_cell BK752.out 1).trans rfl
         have hcz30_2 : wc.cell? ⟨gb752, 2, none⟩ = some (.string a0_2) := (blk_cell BK752.out 2).trans rfl
         have hcz30_3 : wc.cell? ⟨gb752, 3, none⟩ = some (.int .i64 a0_3) := (blk_cell BK752.out 3).trans rfl
         have hcz30_4 : wc.cell? ⟨gb752, 4, none⟩ = some (.string a0_4) := (blk_cell BK752.out 4).trans rfl
         have hcz30_5 : wc.cell? ⟨gb752, 5, none⟩ = some (.slice A0_5 l0_5.length c0_5) := (blk_cell BK752.out 5).trans rfl
         have hfz30_0 := blk_frozen BK752.out 0
         have hfz30_1 := blk_frozen BK752.out 1
         have hfz30_2 := blk_frozen BK752.out 2
         have hfz30_3 := blk_frozen BK752.out 3
         have hfz30_4 := blk_frozen BK752.out 4
         have hfz30_5 := blk_frozen BK752.out 5
         go_wp2
         go_meet
         case rel => exact ⟨_, ((a0_2.toList != ([] : List UInt8))), (rf__), H', ⟨by have := HJ2.out; have := HJ11.out; first | omega | exact Nat.le_refl _⟩, ⟨blk__ BK752.out⟩, ⟨bel__⟩⟩
       case rest =>
        clear HC24
        try clear c1
        try clear c2
        try clear p2
        try clear c5
        try clear c6
        try clear c7
        try clear c7b0
        try clear c8
        try clear c10
        try clear c14
        try clear c15
        try clear c15b0
        try clear c15b1
        try clear c19
        try clear c19b0
        try clear c19b1
        try clear c23
        try clear c25
        try clear c27
        try clear hcz13_0 hcz13_1 hcz13_2 hcz13_3 hcz13_4 hcz13_5 hfz13_0 hfz13_1 hfz13_2 hfz13_3 hfz13_4 hfz13_5
        try clear hcz17_0 hcz17_1 hcz17_2 hcz17_3 hcz17_4 hcz17_5 hfz17_0 hfz17_1 hfz17_2 hfz17_3 hfz17_4 hfz17_5
        try clear hcz18_0 hcz18_1 hcz18_2 hcz18_3 hcz18_4 hcz18_5 hfz18_0 hfz18_1 hfz18_2 hfz18_3 hfz18_4 hfz18_5
        try clear hcz21_0 hcz21_1 hcz21_2 hcz21_3 hcz21_4 hcz21_5 hfz21_0 hfz21_1 hfz21_2 hfz21_3 hfz21_4 hfz21_5
        try clear hcz22_0 hcz22_1 hcz22_2 hcz22_3 hcz22_4 hcz22_5 hfz22_0 hfz22_1 hfz22_2 hfz22_3 hfz22_4 hfz22_5
        try clear hcz28_0 hcz28_1 hcz28_2 hcz28_3 hcz28_4 hcz28_5 hfz28_0 hfz28_1 hfz28_2 hfz28_3 hfz28_4 hfz28_5
        try clear hcz29_0 hcz29_1 hcz29_2 hcz29_3 hcz29_4 hcz29_5 hfz29_0 hfz29_1 hfz29_2 hfz29_3 hfz29_4 hfz29_5
        try clear hcz30_0 hcz30_1 hcz30_2 hcz30_3 hcz30_4 hcz30_5 hfz30_0 hfz30_1 hfz30_2 hfz30_3 hfz30_4 hfz30_5
        try clear hcz8_0 hcz8_1 hcz8_2 hcz8_3 hcz8_4 hcz8_5 hfz8_0 hfz8_1 hfz8_2 hfz8_3 hfz8_4 hfz8_5
        try clear hcz9_0 hcz9_1 hcz9_2 hcz9_3 hcz9_4 hcz9_5 hfz9_0 hfz9_1 hfz9_2 hfz9_3 hfz9_4 hfz9_5
        try clear p2
        obtain ⟨kq, x69_23, rfl, HA, HJ23, BK752, HB⟩ := hcut
        cases kq with
        | zero => exact absurd HA.out (by simp [spec_l3Ok.j2])
        | succ kj23 =>
         have H := HA.out
         clear HA
         simp only [spec_l3Ok.j2] at H
         by_cases c31 : x69_23 = true
         ·subst c31
          have H1 : (some false) = some r := by rw [if_pos rfl] at H; exact H
          clear H
          have H := H1
          clear H1
          obtain rfl := Option.some.inj H
          go_wp2
          go_ret
          exact ⟨by first | rfl | (simp [errW_none, errW_some] <;> rfl) | (simp [*, errW_none, errW_some] <;> rfl), bel__⟩
         ·replace c31 := Bool.eq_false_iff.mpr c31
          subst c31
          have H1 : (if t757 = true then ((spec_l1ThingOk.f kj23 a0_4 l0_5 a1).bind fun t761 => (some t761)) else (if a0_4.toList = ([] : List UInt8) then (some ((l0_5.length : Int) == 0)) else (some false))) = some r := by rw [if_neg (show ¬ (false = true) by decide)] at H; exact H
          clear H
          have H := H1
          clear H1
          by_cases c32 : t757 = true
          ·subst c32
           have H1 : ((spec_l1ThingOk.f kj23 a0_4 l0_5 a1).bind fun t761 => (some t761)) = some r := by rw [if_pos rfl] at H; exact H
           clear H
           have H := H1
           clear H1
           replace H := Option.bind_eq_some_iff.mp H
           obtain ⟨t761, A330, H⟩ := H
           replace H : (some t761) = some r := H
           have A33 := Aside0.mk A330
           clear A330
           obtain rfl := Option.some.inj H
           have hcz34_0 : wc.cell? ⟨gb752, 0, none⟩ = some (.int .i64 a0_0) := (blk_cell BK752.out 0).trans rfl
           have hcz34_1 : wc.cell? ⟨gb752, 1, none⟩ = some (.string a0_1) := (blk_cell BK752.out 1).trans rfl
           have hcz34_2 : wc.cell? ⟨gb752, 2, none⟩ = some (.string a0_2) := (blk_cell BK752.out 2).trans rfl
           have hcz34_3 : wc.cell? ⟨gb752, 3, none⟩ = some (.int .i64 a0_3) := (blk_cell BK752.out 3).trans rfl
           have hcz34_4 : wc.cell? ⟨gb752, 4, none⟩ = some (.string a0_4) := (blk_cell BK752.out 4).trans rfl
           have hcz34_5 : wc.cell? ⟨gb752, 5, none⟩ = some (.slice A0_5 l0_5.length c0_5) := (blk_cell BK752.out 5).trans rfl
           have hfz34_0 := blk_frozen BK752.out 0
           have hfz34_1 := blk_frozen BK752.out 1
           have hfz34_2 := blk_frozen BK752.out 2
           have hfz34_3 := blk_frozen BK752.out 3
           have hfz34_4 := blk_frozen BK752.out 4
           have hfz34_5 := blk_frozen BK752.out 5
           go_wp2_with (first | ((with_reducible refine gate_callee (f := 62) rfl ?_); refine gl__ (some 74) Try.func62 #[.agg #[.string a0_4, .slice A0_5 l0_5.length c0_5], .int .i64 a1] ?_; (with_reducible refine (spec_l1ThingOk.calls kj23 a0_4 _ _ l0_5 a1 t761 _ ?side1 HC0_5.out A33.out).mono ?_); (case side1 => repeat (first | exact (Kd.C_below HR0_5.out HB.out) | (with_reducible refine Kd.C_alloc ?_ _) | (with_reducible refine Kd.C_drewN ?_ _) | (with_reducible refine Kd.C_drew ?_))); rintro e w35 ⟨rfl, hb⟩; refine ⟨_, rfl, ?_⟩; replace BK752 := am__ (blb__ BK752.out hb); replace HB := am__ (below_step (bel__) hb); clear hb))
           go_ret
           exact ⟨by first | rfl | (simp [errW_none, errW_some] <;> rfl) | (simp [*, errW_none, errW_some] <;> rfl), bel__⟩
          ·replace c32 := Bool.eq_false_iff.mpr c32
           subst c32
           have H1 : (if a0_4.toList = ([] : List UInt8) then (some ((l0_5.length : Int) == 0)) else (some false)) = some r := by rw [if_neg (show ¬ (false = true) by decide)] at H; exact H
           clear H
           have H := H1
           clear H1
           by_cases c36 : a0_4.toList = ([] : List UInt8)
           ·rw [if_pos c36] at H
            have c36b0 : (a0_4.toList == ([] : List UInt8)) = true := beq_iff_eq.mpr c36
            have c36b1 : (a0_4.toList != ([] : List UInt8)) = false := bne_eq_false_iff_eq.mpr c36
            clear c36
            obtain rfl := Option.some.inj H
            have hcz37_0 : wc.cell? ⟨gb752, 0, none⟩ = some (.int .i64 a0_0) := (blk_cell BK752.out 0).trans rfl
            have hcz37_1 : wc.cell? ⟨gb752, 1, none⟩ = some (.string a0_1) := (blk_cell BK752.out 1).trans rfl
            have hcz37_2 : wc.cell? ⟨gb752, 2, none⟩ = some (.string a0_2) := (blk_cell BK752.out 2).trans rfl
            have hcz37_3 : wc.cell? ⟨gb752, 3, none⟩ = some (.int .i64 a0_3) := (blk_cell BK752.out 3).trans rfl
            have hcz37_4 : wc.cell? ⟨gb752, 4, none⟩ = some (.string a0_4) := (blk_cell BK752.out 4).trans rfl
            have hcz37_5 : wc.cell? ⟨gb752, 5, none⟩ = some (.slice A0_5 l0_5.length c0_5) := (blk_cell BK752.out 5).trans rfl
            have hfz37_0 := blk_frozen BK752.out 0
            have hfz37_1 := blk_frozen BK752.out 1
            have hfz37_2 := blk_frozen BK752.out 2
            have hfz37_3 := blk_frozen BK752.out 3
            have hfz37_4 := blk_frozen BK752.out 4
            have hfz37_5 := blk_frozen BK752.out 5
            go_wp2
            go_ret
            exact ⟨by first | rfl | (simp [errW_none, errW_some] <;> rfl) | (simp [*, errW_none, errW_some] <;> rfl), bel__⟩
           ·rw [if_neg c36] at H
            have c36b0 : (a0_4.toList == ([] : List UInt8)) = false := beq_eq_false_iff_ne.mpr c36
            have c36b1 : (a0_4.toList != ([] : List UInt8)) = true := bne_iff_ne.mpr c36
            obtain rfl := Option.some.inj H
            have hcz38_0 : wc.cell? ⟨gb752, 0, none⟩ = some (.int .i64 a0_0) := (blk_cell BK752.out 0).trans rfl
            have hcz38_1 : wc.cell? ⟨gb752, 1, none⟩ = some (.string a0_1) := (blk_cell BK752.out 1).trans rfl
            have hcz38_2 : wc.cell? ⟨gb752, 2, none⟩ = some (.string a0_2) := (blk_cell BK752.out 2).trans rfl
            have hcz38_3 : wc.cell? ⟨gb752, 3, none⟩ = some (.int .i64 a0_3) := (blk_cell BK752.out 3).trans rfl
            have hcz38_4 : wc.cell? ⟨gb752, 4, none⟩ = some (.string a0_4) := (blk_cell BK752.out 4).trans rfl
            have hcz38_5 : wc.cell? ⟨gb752, 5, none⟩ = some (.slice A0_5 l0_5.length c0_5) := (blk_cell BK752.out 5).trans rfl
            have hfz38_0 := blk_frozen BK752.out 0
            have hfz38_1 := blk_frozen BK752.out 1
            have hfz38_2 := blk_frozen BK752.out 2
            have hfz38_3 := blk_frozen BK752.out 3
            have hfz38_4 := blk_frozen BK752.out 4
            have hfz38_5 := blk_frozen BK752.out 5
            go_wp2
            go_ret
            exact ⟨by first | rfl | (simp [errW_none, errW_some] <;> rfl) | (simp [*, errW_none, errW_some] <;> rfl), bel__⟩
end Go.Proofs.Ytpnblgbkjbpeoaa.P

namespace Go.Proofs.Ytpnblgbkjbpeoaa.P
open Go.RowKit Go.Proofs.YtpnblgbkjbpeoaaW.PrintWords Go.Proofs.YtpnblgbkjbpeoaaW.PrintLast Go.Proofs.YtpnblgbkjbpeoaaW.PrintMore
attribute [local go_sem] max2_int min2_int max_two min_two max_three min_three max_four min_four   -- for this text's walks alone
set_option linter.unusedVariables false
set_option linter.unusedSimpArgs false
/-! ### spec_FormEntry: function 43 -/
def spec_FormEntry.f (k : Nat) (a0_0 : Int) (a0_1 : ByteArray) (a0_2 : ByteArray) (a0_3 : Int) (a0_4 : ByteArray) (l0_5 : List ByteArray) (a1 : Int) : Option (ByteArray) := (spec_l3Ok.f k a0_0 a0_1 a0_2 a0_3 a0_4 l0_5 a1).bind fun t763 => (if t763 = true then ((some (([(a0_0) % 256, (wrap64 (Int.tdiv a0_3 16777216)) % 256, (Int.tmod (wrap64 (Int.tdiv a0_3 65536)) 256) % 256, (Int.tmod (wrap64 (Int.tdiv a0_3 256)) 256) % 256, (Int.tmod a0_3 256) % 256, ((a0_2.size : Int)) % 256] : List Int) : List Int)).bind fun y764 => (if y764.length + a0_2.size < 140737488355328 then ((some (y764 ++ bytesOf a0_2 : List Int)).bind fun y767 => (if y767.length + a0_1.size < 140737488355328 then ((some (y767 ++ bytesOf a0_1 : List Int)).bind fun y770 => (if a0_0 = 1 then ((spec_FormThing.f k a0_4 l0_5 a1).bind fun t773 => (if y770.length + t773.size < 140737488355328 then (some (strOfNums (y770 ++ bytesOf t773))) else (none))) else (some (strOfNums y770)))) else (none))) else (none))) else (some (⟨#[]⟩ : ByteArray)))
def spec_FormEntry.T5 : Bool × List (List Nat × List Nat) := (true, [([], []), ([], []), ([1], [1]), ([0, 2], [0, 2]), ([], []), ([4], [4]), ([3, 5, 3], [3, 5]), ([6, 6, 0, 1, 2, 3, 4, 5, 6], [0, 6])])
def spec_FormEntry.B5 : List Nat := [0, 0, 2, 7, 0, 16, 63, 127]
theorem spec_FormEntry.tab5 : rtab .any (opsOf Try.f43 5) = spec_FormEntry.T5 := by kernel_rfl
theorem spec_FormEntry.bits5 : waitsOk spec_FormEntry.T5.2 spec_FormEntry.B5 = true := by kernel_rfl
set_option maxHeartbeats 8000000 in
set_option maxRecDepth 100000 in
theorem spec_FormEntry.calls (k : Nat) (a0_0 : Int) (a0_1 : ByteArray) (a0_2 : ByteArray) (a0_3 : Int) (a0_4 : ByteArray) (A0_5 : Option Addr) (c0_5 : Nat) (l0_5 : List ByteArray) (a1 : Int) (r : ByteArray) (w : World) (hr0_5 : Kd.C Kd.string w A0_5 l0_5.length l0_5) (hc0_5 : l0_5.length ≤ c0_5) (h : spec_FormEntry.f k a0_0 a0_1 a0_2 a0_3 a0_4 l0_5 a1 = some r) :
  Calls Try.prog 43 #[.agg #[.int .i64 a0_0, .string a0_1, .string a0_2, .int .i64 a0_3, .string a0_4, .slice A0_5 l0_5.length c0_5], .int .i64 a1] w fun e w' => e = .returned (.string r) ∧ Below w.heap.size w w' := by
 have hu63 := Try.underlying63
 have hu38 := Try.underlying38
 have HR0_5 := Aside0.mk hr0_5
 have HC0_5 := Aside0.mk hc0_5
 clear hr0_5 hc0_5
 have HB := am__ (Below.refl w.heap.size w)
 have H : ((spec_l3Ok.f k a0_0 a0_1 a0_2 a0_3 a0_4 l0_5 a1).bind fun t763 => (if t763 = true then ((some (([(a0_0) % 256, (wrap64 (Int.tdiv a0_3 16777216)) % 256, (Int.tmod (wrap64 (Int.tdiv a0_3 65536)) 256) % 256, (Int.tmod (wrap64 (Int.tdiv a0_3 256)) 256) % 256, (Int.tmod a0_3 256) % 256, ((a0_2.size : Int)) % 256] : List Int) : List Int)).bind fun y764 => (if y764.length + a0_2.size < 140737488355328 then ((some (y764 ++ bytesOf a0_2 : List Int)).bind fun y767 => (if y767.length + a0_1.size < 140737488355328 then ((some (y767 ++ bytesOf a0_1 : List Int)).bind fun y770 => (if a0_0 = 1 then ((spec_FormThing.f k a0_4 l0_5 a1).bind fun t773 => (if y770.length + t773.size < 140737488355328 then (some (strOfNums (y770 ++ bytesOf t773))) else (none))) else (some (strOfNums y770)))) else (none))) else (none))) else (some (⟨#[]⟩ : ByteArray)))) = some r := h
 clear h
 replace H := Option.bind_eq_some_iff.mp H
 obtain ⟨t763, A30, H⟩ := H
 replace H : (if t763 = true then ((some (([(a0_0) % 256, (wrap64 (Int.tdiv a0_3 16777216)) % 256, (Int.tmod (wrap64 (Int.tdiv a0_3 65536)) 256) % 256, (Int.tmod (wrap64 (Int.tdiv a0_3 256)) 256) % 256, (Int.tmod a0_3 256) % 256, ((a0_2.size : Int)) % 256] : List Int) : List Int)).bind fun y764 => (if y764.length + a0_2.size < 140737488355328 then ((some (y764 ++ bytesOf a0_2 : List Int)).bind fun y767 => (if y767.length + a0_1.size < 140737488355328 then ((some (y767 ++ bytesOf a0_1 : List Int)).bind fun y770 => (if a0_0 = 1 then ((spec_FormThing.f k a0_4 l0_5 a1).bind fun t773 => (if y770.length + t773.size < 140737488355328 then (some (strOfNums (y770 ++ bytesOf t773))) else (none))) else (some (strOfNums y770)))) else (none))) else (none))) else (some (⟨#[]⟩ : ByteArray))) = some r := H
 have A3 := Aside0.mk A30
 clear A30
 by_cases c4 : t763 = true
 ·subst c4
  have H1 : ((some (([(a0_0) % 256, (wrap64 (Int.tdiv a0_3 16777216)) % 256, (Int.tmod (wrap64 (Int.tdiv a0_3 65536)) 256) % 256, (Int.tmod (wrap64 (Int.tdiv a0_3 256)) 256) % 256, (Int.tmod a0_3 256) % 256, ((a0_2.size : Int)) % 256] : List Int) : List Int)).bind fun y764 => (if y764.length + a0_2.size < 140737488355328 then ((some (y764 ++ bytesOf a0_2 : List Int)).bind fun y767 => (if y767.length + a0_1.size < 140737488355328 then ((some (y767 ++ bytesOf a0_1 : List Int)).bind fun y770 => (if a0_0 = 1 then ((spec_FormThing.f k a0_4 l0_5 a1).bind fun t773 => (if y770.length + t773.size < 140737488355328 then (some (strOfNums (y770 ++ bytesOf t773))) else (none))) else (some (strOfNums y770)))) else (none))) else (none))) = some r := by rw [if_pos rfl] at H; exact H
  clear H
  have H := H1
  clear H1
  obtain ⟨y764, hy764⟩ : ∃ y_ : List Int, y_ = (([(a0_0) % 256, (wrap64 (Int.tdiv a0_3 16777216)) % 256, (Int.tmod (wrap64 (Int.tdiv a0_3 65536)) 256) % 256, (Int.tmod (wrap64 (Int.tdiv a0_3 256)) 256) % 256, (Int.tmod a0_3 256) % 256, ((a0_2.size : Int)) % 256] : List Int)) := ⟨_, rfl⟩
  replace H : (if y764.length + a0_2.size < 140737488355328 then ((some (y764 ++ bytesOf a0_2 : List Int)).bind fun y767 => (if y767.length + a0_1.size < 140737488355328 then ((some (y767 ++ bytesOf a0_1 : List Int)).bind fun y770 => (if a0_0 = 1 then ((spec_FormThing.f k a0_4 l0_5 a1).bind fun t773 => (if y770.length + t773.size < 140737488355328 then (some (strOfNums (y770 ++ bytesOf t773))) else (none))) else (some (strOfNums y770)))) else (none))) else (none)) = some r := by first | (rw [hy764]; with_reducible exact H) | (have H2_ := (Option.bind_some _ _).symm.trans H; rw [hy764]; with_reducible exact H2_) | (have H2_ := (Option.bind_some _ _).symm.trans H; with_reducible exact H2_) | with_reducible exact H | (rw [hy764]; exact H) | exact H
  have Ny764 := Aside0.mk hy764
  clear hy764
  by_cases c5 : y764.length + a0_2.size < 140737488355328
  ·rw [if_pos c5] at H
   have LMc5 := Aside0.mk c5
   clear c5
   obtain ⟨y767, hy767⟩ : ∃ y_ : List Int, y_ = (y764 ++ bytesOf a0_2) := ⟨_, rfl⟩
   replace H : (if y767.length + a0_1.size < 140737488355328 then ((some (y767 ++ bytesOf a0_1 : List Int)).bind fun y770 => (if a0_0 = 1 then ((spec_FormThing.f k a0_4 l0_5 a1).bind fun t773 => (if y770.length + t773.size < 140737488355328 then (some (strOfNums (y770 ++ bytesOf t773))) else (none))) else (some (strOfNums y770)))) else (none)) = some r := by first | (rw [hy767]; with_reducible exact H) | (have H2_ := (Option.bind_some _ _).symm.trans H; rw [hy767]; with_reducible exact H2_) | (have H2_ := (Option.bind_some _ _).symm.trans H; with_reducible exact H2_) | with_reducible exact H | (rw [hy767]; exact H) | exact H
   have Ny767 := Aside0.mk hy767
   clear hy767
   by_cases c6 : y767.length + a0_1.size < 140737488355328
   ·rw [if_pos c6] at H
    have LMc6 := Aside0.mk c6
    clear c6
    obtain ⟨y770, hy770⟩ : ∃ y_ : List Int, y_ = (y767 ++ bytesOf a0_1) := ⟨_, rfl⟩
    replace H : (if a0_0 = 1 then ((spec_FormThing.f k a0_4 l0_5 a1).bind fun t773 => (if y770.length + t773.size < 140737488355328 then (some (strOfNums (y770 ++ bytesOf t773))) else (none))) else (some (strOfNums y770))) = some r := by first | (rw [hy770]; with_reducible exact H) | (have H2_ := (Option.bind_some _ _).symm.trans H; rw [hy770]; with_reducible exact H2_) | (have H2_ := (Option.bind_some _ _).symm.trans H; with_reducible exact H2_) | with_reducible exact H | (rw [hy770]; exact H) | exact H
    have Ny770 := Aside0.mk hy770
    clear hy770
    by_cases c7 : a0_0 = 1
    ·rw [if_pos c7] at H
     have c7b0 : (a0_0 == 1) = true := beq_iff_eq.mpr c7
     have c7b1 : (a0_0 != 1) = false := bne_eq_false_iff_eq.mpr c7
     clear c7
     replace H := Option.bind_eq_some_iff.mp H
     obtain ⟨t773, A80, H⟩ := H
     replace H : (if y770.length + t773.size < 140737488355328 then (some (strOfNums (y770 ++ bytesOf t773))) else (none)) = some r := H
     have A8 := Aside0.mk A80
     clear A80
     by_cases c9 : y770.length + t773.size < 140737488355328
     ·rw [if_pos c9] at H
      have LMc9 := Aside0.mk c9
      clear c9
      obtain ⟨y774, hy774⟩ : ∃ y_ : List Int, y_ = (y770 ++ bytesOf t773) := ⟨_, rfl⟩
      replace H : (some (strOfNums y774)) = some r := by first | (rw [hy774]; with_reducible exact H) | (have H2_ := (Option.bind_some _ _).symm.trans H; rw [hy774]; with_reducible exact H2_) | (have H2_ := (Option.bind_some _ _).symm.trans H; with_reducible exact H2_) | with_reducible exact H | (rw [hy774]; exact H) | exact H
      have Ny774 := Aside0.mk hy774
      clear hy774
      obtain rfl := Option.some.inj H
      go_enter Try.func43, Try.ntmps43
      try go_wp2_with (first | ((with_reducible refine gate_dst (N := 2) rfl ?_); refine be__ 2 #[.int .i64 a0_0, .string a0_1, .string a0_2, .int .i64 a0_3, .string a0_4, .slice A0_5 l0_5.length c0_5] 63 ?_; intro gb762 hg w10 hbox hb; have BK762 := am__ (hbox); have GW762 := am__ ((bsz__ hg bel__ : w.heap.size ≤ gb762)); have GE762 := am__ ((bsz__ hg bel__ : w.heap.size ≤ gb762)); replace HB := am__ (below_step (bel__) hb); clear hb hbox hg; obtain ⟨hcz11_0, hcz11_1, hcz11_2, hcz11_3, hcz11_4, hcz11_5, hfz11_0, hfz11_1, hfz11_2, hfz11_3, hfz11_4, hfz11_5⟩ := bk6__ BK762.out) | ((with_reducible refine gate_callee (f := 74) rfl ?_); refine gl__ (some 9) Try.func74 #[.agg #[.int .i64 a0_0, .string a0_1, .string a0_2, .int .i64 a0_3, .string a0_4, .slice A0_5 l0_5.length c0_5], .int .i64 a1] ?_; (with_reducible refine (spec_l3Ok.calls k a0_0 a0_1 a0_2 a0_3 a0_4 _ _ l0_5 a1 true _ ?side1 HC0_5.out A3.out).mono ?_); (case side1 => repeat (first | exact (Kd.C_below HR0_5.out HB.out) | (with_reducible refine Kd.C_alloc ?_ _) | (with_reducible refine Kd.C_drewN ?_ _) | (with_reducible refine Kd.C_drew ?_))); rintro e w12 ⟨rfl, hb⟩; refine ⟨_, rfl, ?_⟩; replace BK762 := am__ (blb__ BK762.out hb); replace HB := am__ (below_step (bel__) hb); clear hb; obtain ⟨hcz13_0, hcz13_1, hcz13_2, hcz13_3, hcz13_4, hcz13_5, hfz13_0, hfz13_1, hfz13_2, hfz13_3, hfz13_4, hfz13_5⟩ := bk6__ BK762.out) | ((with_reducible refine gate_dst (N := 34) rfl ?_); refine Kd.R_lit (Kd.int .u8) _ 5 ?hg (N := 34) ?hd (xs := ([(a0_0) % 256, (wrap64 (Int.tdiv a0_3 16777216)) % 256, (Int.tmod (wrap64 (Int.tdiv a0_3 65536)) 256) % 256, (Int.tmod (wrap64 (Int.tdiv a0_3 256)) 256) % 256, (Int.tmod a0_3 256) % 256, ((a0_2.size : Int)) % 256] : List Int)) (inner := [.int .u8 ((a0_0) % 256), .int .u8 ((wrap64 (Int.tdiv a0_3 16777216)) % 256), .int .u8 ((Int.tmod (wrap64 (Int.tdiv a0_3 65536)) 256) % 256), .int .u8 ((Int.tmod (wrap64 (Int.tdiv a0_3 256)) 256) % 256), .int .u8 ((Int.tmod a0_3 256) % 256), .int .u8 (((a0_2.size : Int)) % 256)]) (ok := fun _ => True) (okp := fun _ => True) ?hr ?hp (fun _ hk => hk) trivial (Below.refl _ _) (Nat.le_refl _) (by simp) ?_; (case hd => rfl); (case hg => rfl); (case hr => first | (go_simp; done) | (go_simp; rfl)); (case hp => exact (Reps.one (show Kd.M (Kd.int .u8) _ _ _ ((a0_0) % 256) [.int .u8 ((a0_0) % 256)] from rfl) (Reps.one (show Kd.M (Kd.int .u8) _ _ _ ((wrap64 (Int.tdiv a0_3 16777216)) % 256) [.int .u8 ((wrap64 (Int.tdiv a0_3 16777216)) % 256)] from rfl) (Reps.one (show Kd.M (Kd.int .u8) _ _ _ ((Int.tmod (wrap64 (Int.tdiv a0_3 65536)) 256) % 256) [.int .u8 ((Int.tmod (wrap64 (Int.tdiv a0_3 65536)) 256) % 256)] from rfl) (Reps.one (show Kd.M (Kd.int .u8) _ _ _ ((Int.tmod (wrap64 (Int.tdiv a0_3 256)) 256) % 256) [.int .u8 ((Int.tmod (wrap64 (Int.tdiv a0_3 256)) 256) % 256)] from rfl) (Reps.one (show Kd.M (Kd.int .u8) _ _ _ ((Int.tmod a0_3 256) % 256) [.int .u8 ((Int.tmod a0_3 256) % 256)] from rfl) (Reps.one (show Kd.M (Kd.int .u8) _ _ _ (((a0_2.size : Int)) % 256) [.int .u8 (((a0_2.size : Int)) % 256)] from rfl) (Reps.none _ _)))))))); intro v765 w14 ho15 hb hg_ hnew_; clear hg_ hnew_; (first | rw [← Ny764.out] at ho15 | (simp only [Int.reduceToNat] at ho15; rw [← Ny764.out] at ho15)); have HO766 := am__ (Kd.R_lower ho15 (below_size (bel__))); replace BK762 := am__ (blb__ BK762.out hb); replace HB := am__ (below_step (bel__) hb); clear hb ho15))
      have n0_ := am__ (Kd.R_drew HO766.out)
      have n1_ := am__ (blk_drew BK762.out)
      have n2_ := am__ (below_drew1 HB.out)
      clear HO766
      clear BK762
      clear HB
      have HO766 := n0_
      have BK762 := n1_
      have HB := n2_
      clear n0_ n1_ n2_
      refine start_ (n := 8) (S := fun w' => w'.cell? ⟨gb762, 0, none⟩ = some (.int .i64 a0_0) ∧ w'.cell? ⟨gb762, 1, none⟩ = some (.string a0_1) ∧ w'.cell? ⟨gb762, 2, none⟩ = some (.string a0_2) ∧ w'.cell? ⟨gb762, 3, none⟩ = some (.int .i64 a0_3) ∧ w'.cell? ⟨gb762, 4, none⟩ = some (.string a0_4) ∧ w'.cell? ⟨gb762, 5, none⟩ = some (.slice A0_5 l0_5.length c0_5)) (ds := []) #[false, false, false, false, false, false, false, false] (by kernel_rfl) rfl rfl ⟨(blk_cell BK762.out 0).trans rfl, (blk_cell BK762.out 1).trans rfl, (blk_cell BK762.out 2).trans rfl, (blk_cell BK762.out 3).trans rfl, (blk_cell BK762.out 4).trans rfl, (blk_cell BK762.out 5).trans rfl⟩ (fun hHeld => ?_); refine with_tabW spec_FormEntry.tab5 spec_FormEntry.bits5 (fun HT_ HW_ => ?_)
      generalize w14.drew = w16 at HO766 BK762 HB hHeld ⊢
      refine pu__ (i := 0) (N := some 35) #[true, false, false, false, false, false, false, false] HT_.out ?_
      refine pu__ (i := 1) (N := some 36) #[true, true, false, false, false, false, false, false] HT_.out ?_
      refine pu__ (i := 4) (N := some 39) #[true, true, false, false, true, false, false, false] HT_.out ?_
      refine take_ (i := 2) (N := some 37) (v := ?_) (a' := ?_) #[true, true, true, false, true, false, false, false] rfl rfl (take_ofW HT_.out HW_.out (by kernel_rfl)) (fun _ _ _ h => h) (Or.inl ⟨by rfl, ?_⟩) hHeld ?_ ?_
      rotate_left
      ·rintro w' ⟨s0, s1, s2, s3, s4, s5⟩
       go_simp
       with_reducible rfl
      rotate_left
      ·simp only [Act.put, List.setIfInBounds_toArray, List.set_cons_zero, List.set_cons_succ, i64_w, i32_w]
       rfl
      refine take_ (i := 5) (N := some 40) (v := ?_) (a' := ?_) #[true, true, true, false, true, true, false, false] rfl rfl (take_ofW HT_.out HW_.out (by kernel_rfl)) (fun _ _ _ h => h) (Or.inl ⟨by rfl, ?_⟩) hHeld ?_ ?_
      rotate_left
      ·rintro w' ⟨s0, s1, s2, s3, s4, s5⟩
       go_simp
       with_reducible rfl
      rotate_left
      ·simp only [Act.put, List.setIfInBounds_toArray, List.set_cons_zero, List.set_cons_succ, i64_w, i32_w]
       rfl
      refine one_ (i := 3) (N := some 38) #[true, true, true, true, true, true, false, false] rfl rfl (one_of HT_.out (by kernel_rfl)) (by decide) (fun K hK => ?_)
      refine print_append_str_step (w0 := w) w.heap.size (by rfl) (.tmp 35) _ 52 9 5 rfl Try.underlying52 Try.underlying9 info5 v765 y764 a0_2 rfl rfl ?aO ?aB ?aS ?aL ?_
      (case aB => exact (bel__))
      (case aO => exact (Kd.own_of_R (rr__ HO766.out)))
      (case aS => exact (below_size (bel__)))
      (case aL => have := LMc5.out; omega)
      intro v768 w17 ho0 hb hg
      have ho := Kd.R_of_own (h1 := fun _ => rfl) (ok := fun _ => True) ho0 (fun _ _ => trivial)
      clear ho0
      have hat := True.intro
      rw [← Ny767.out] at ho
      change Kd.R (Kd.int .u8) 5 w17 w.heap.size (fun _ => True) v768 y767 at ho
      have n0_ := am__ (bgr__ BK762.out hg (Kd.R_ne HO766.out BK762.out (by decide)))
      have n1_ := am__ (hb)
      have n2_ := am__ (ho)
      clear BK762
      clear HB
      clear HO766
      have BK762 := n0_
      have HB := n1_
      have HO769 := n2_
      clear n0_ n1_ n2_
      clear ho hb hg hat
      refine hK.out _ _ ⟨(blk_cell BK762.out 0).trans rfl, (blk_cell BK762.out 1).trans rfl, (blk_cell BK762.out 2).trans rfl, (blk_cell BK762.out 3).trans rfl, (blk_cell BK762.out 4).trans rfl, (blk_cell BK762.out 5).trans rfl⟩ (fun hHeld => ?_)
      clear hK K
      refine na__ 38 ?_
      refine one_ (i := 6) (N := some 41) #[true, true, true, true, true, true, true, false] rfl rfl (one_of HT_.out (by kernel_rfl)) (by decide) (fun K hK => ?_)
      refine print_append_str_step (w0 := w) w.heap.size (by rfl) (.tmp 38) _ 52 9 5 rfl Try.underlying52 Try.underlying9 info5 v768 y767 a0_1 rfl rfl ?aO ?aB ?aS ?aL ?_
      (case aB => exact (bel__))
      (case aO => exact (Kd.own_of_R (rr__ HO769.out)))
      (case aS => exact (below_size (bel__)))
      (case aL => have := LMc6.out; omega)
      intro v771 w18 ho0 hb hg
      have ho := Kd.R_of_own (h1 := fun _ => rfl) (ok := fun _ => True) ho0 (fun _ _ => trivial)
      clear ho0
      have hat := True.intro
      rw [← Ny770.out] at ho
      change Kd.R (Kd.int .u8) 5 w18 w.heap.size (fun _ => True) v771 y770 at ho
      have n0_ := am__ (bgr__ BK762.out hg (Kd.R_ne HO769.out BK762.out (by decide)))
      have n1_ := am__ (hb)
      have n2_ := am__ (ho)
      clear BK762
      clear HB
      clear HO769
      have BK762 := n0_
      have HB := n1_
      have HO772 := n2_
      clear n0_ n1_ n2_
      clear ho hb hg hat
      refine hK.out _ _ ⟨(blk_cell BK762.out 0).trans rfl, (blk_cell BK762.out 1).trans rfl, (blk_cell BK762.out 2).trans rfl, (blk_cell BK762.out 3).trans rfl, (blk_cell BK762.out 4).trans rfl, (blk_cell BK762.out 5).trans rfl⟩ (fun hHeld => ?_)
      clear hK K
      refine na__ 41 ?_
      refine pu__ (i := 7) (N := some 6) #[true, true, true, true, true, true, true, true] HT_.out ?_
      refine done_ (done_of HT_.out (by kernel_rfl)) ?_
      have hcz19_0 : w18.cell? ⟨gb762, 0, none⟩ = some (.int .i64 a0_0) := (blk_cell BK762.out 0).trans rfl
      have hcz19_1 : w18.cell? ⟨gb762, 1, none⟩ = some (.string a0_1) := (blk_cell BK762.out 1).trans rfl
      have hcz19_2 : w18.cell? ⟨gb762, 2, none⟩ = some (.string a0_2) := (blk_cell BK762.out 2).trans rfl
      have hcz19_3 : w18.cell? ⟨gb762, 3, none⟩ = some (.int .i64 a0_3) := (blk_cell BK762.out 3).trans rfl
      have hcz19_4 : w18.cell? ⟨gb762, 4, none⟩ = some (.string a0_4) := (blk_cell BK762.out 4).trans rfl
      have hcz19_5 : w18.cell? ⟨gb762, 5, none⟩ = some (.slice A0_5 l0_5.length c0_5) := (blk_cell BK762.out 5).trans rfl
      have hfz19_0 := blk_frozen BK762.out 0
      have hfz19_1 := blk_frozen BK762.out 1
      have hfz19_2 := blk_frozen BK762.out 2
      have hfz19_3 := blk_frozen BK762.out 3
      have hfz19_4 := blk_frozen BK762.out 4
      have hfz19_5 := blk_frozen BK762.out 5
      try go_wp2_with (first | ((with_reducible refine gate_callee (f := 23) rfl ?_); refine gl__ (some 49) Try.func23 #[.agg #[.string a0_4, .slice A0_5 l0_5.length c0_5], .int .i64 a1] ?_; (with_reducible refine (spec_FormThing.calls k a0_4 _ _ l0_5 a1 t773 _ ?side1 HC0_5.out A8.out).mono ?_); (case side1 => repeat (first | exact (Kd.C_below HR0_5.out HB.out) | (with_reducible refine Kd.C_alloc ?_ _) | (with_reducible refine Kd.C_drewN ?_ _) | (with_reducible refine Kd.C_drew ?_))); rintro e w20 ⟨rfl, hb⟩; refine ⟨_, rfl, ?_⟩; replace HO772 := am__ (Kd.R_below (rr__ HO772.out) hb); replace BK762 := am__ (blb__ BK762.out hb); replace HB := am__ (below_step (bel__) hb); clear hb) | (at_builtin; refine print_append_str (w0 := w) w.heap.size rfl (.tmp 45) _ 52 9 5 rfl Try.underlying52 Try.underlying9 info5 v771 y770 t773 rfl rfl ?aO ?aB ?aS ?aL ?_; (case aB => exact (bel__)); (case aO => exact (Kd.own_of_R (rr__ HO772.out))); (case aS => exact (below_size (bel__))); (case aL => have := LMc9.out; omega); intro v775 w21 ho0 hb hg; have ho := Kd.R_of_own (h1 := fun _ => rfl) (ok := fun _ => True) ho0 (fun _ _ => trivial); clear ho0; have hat := True.intro; rw [← Ny774.out] at ho; change Kd.R (Kd.int .u8) 5 w21 w.heap.size (fun _ => True) v775 y774 at ho; have n0_ := am__ (bgr__ BK762.out hg (Kd.R_ne HO772.out BK762.out (by decide))); have n1_ := am__ (hb); have n2_ := am__ (ho); clear BK762; clear HB; clear HO772; have BK762 := n0_; have HB := n1_; have HO776 := n2_; clear n0_ n1_ n2_; clear ho hb hg hat; have hcv22 := own_string (P := Try.prog) Try.underlying52 Try.underlying5 Try.underlying9 (Kd.own_of_R HO776.out)))
      go_ret
      exact ⟨by first | rfl | (simp [errW_none, errW_some] <;> rfl) | (simp [*, errW_none, errW_some] <;> rfl), bel__⟩
     ·rw [if_neg c9] at H
      exact absurd H (by simp)
    ·rw [if_neg c7] at H
     have c7b0 : (a0_0 == 1) = false := beq_eq_false_iff_ne.mpr c7
     have c7b1 : (a0_0 != 1) = true := bne_iff_ne.mpr c7
     obtain rfl := Option.some.inj H
     go_enter Try.func43, Try.ntmps43
     try go_wp2_with (first | ((with_reducible refine gate_dst (N := 2) rfl ?_); refine be__ 2 #[.int .i64 a0_0, .string a0_1, .string a0_2, .int .i64 a0_3, .string a0_4, .slice A0_5 l0_5.length c0_5] 63 ?_; intro gb762 hg w23 hbox hb; have BK762 := am__ (hbox); have GW762 := am__ ((bsz__ hg bel__ : w.heap.size ≤ gb762)); have GE762 := am__ ((bsz__ hg bel__ : w.heap.size ≤ gb762)); replace HB := am__ (below_step (bel__) hb); clear hb hbox hg; obtain ⟨hcz24_0, hcz24_1, hcz24_2, hcz24_3, hcz24_4, hcz24_5, hfz24_0, hfz24_1, hfz24_2, hfz24_3, hfz24_4, hfz24_5⟩ := bk6__ BK762.out) | ((with_reducible refine gate_callee (f := 74) rfl ?_); refine gl__ (some 9) Try.func74 #[.agg #[.int .i64 a0_0, .string a0_1, .string a0_2, .int .i64 a0_3, .string a0_4, .slice A0_5 l0_5.length c0_5], .int .i64 a1] ?_; (with_reducible refine (spec_l3Ok.calls k a0_0 a0_1 a0_2 a0_3 a0_4 _ _ l0_5 a1 true _ ?side1 HC0_5.out A3.out).mono ?_); (case side1 => repeat (first | exact (Kd.C_below HR0_5.out HB.out) | (with_reducible refine Kd.C_alloc ?_ _) | (with_reducible refine Kd.C_drewN ?_ _) | (with_reducible refine Kd.C_drew ?_))); rintro e w25 ⟨rfl, hb⟩; refine ⟨_, rfl, ?_⟩; replace BK762 := am__ (blb__ BK762.out hb); replace HB := am__ (below_step (bel__) hb); clear hb; obtain ⟨hcz26_0, hcz26_1, hcz26_2, hcz26_3, hcz26_4, hcz26_5, hfz26_0, hfz26_1, hfz26_2, hfz26_3, hfz26_4, hfz26_5⟩ := bk6__ BK762.out) | ((with_reducible refine gate_dst (N := 34) rfl ?_); refine Kd.R_lit (Kd.int .u8) _ 5 ?hg (N := 34) ?hd (xs := ([(a0_0) % 256, (wrap64 (Int.tdiv a0_3 16777216)) % 256, (Int.tmod (wrap64 (Int.tdiv a0_3 65536)) 256) % 256, (Int.tmod (wrap64 (Int.tdiv a0_3 256)) 256) % 256, (Int.tmod a0_3 256) % 256, ((a0_2.size : Int)) % 256] : List Int)) (inner := [.int .u8 ((a0_0) % 256), .int .u8 ((wrap64 (Int.tdiv a0_3 16777216)) % 256), .int .u8 ((Int.tmod (wrap64 (Int.tdiv a0_3 65536)) 256) % 256), .int .u8 ((Int.tmod (wrap64 (Int.tdiv a0_3 256)) 256) % 256), .int .u8 ((Int.tmod a0_3 256) % 256), .int .u8 (((a0_2.size : Int)) % 256)]) (ok := fun _ => True) (okp := fun _ => True) ?hr ?hp (fun _ hk => hk) trivial (Below.refl _ _) (Nat.le_refl _) (by simp) ?_; (case hd => rfl); (case hg => rfl); (case hr => first | (go_simp; done) | (go_simp; rfl)); (case hp => exact (Reps.one (show Kd.M (Kd.int .u8) _ _ _ ((a0_0) % 256) [.int .u8 ((a0_0) % 256)] from rfl) (Reps.one (show Kd.M (Kd.int .u8) _ _ _ ((wrap64 (Int.tdiv a0_3 16777216)) % 256) [.int .u8 ((wrap64 (Int.tdiv a0_3 16777216)) % 256)] from rfl) (Reps.one (show Kd.M (Kd.int .u8) _ _ _ ((Int.tmod (wrap64 (Int.tdiv a0_3 65536)) 256) % 256) [.int .u8 ((Int.tmod (wrap64 (Int.tdiv a0_3 65536)) 256) % 256)] from rfl) (Reps.one (show Kd.M (Kd.int .u8) _ _ _ ((Int.tmod (wrap64 (Int.tdiv a0_3 256)) 256) % 256) [.int .u8 ((Int.tmod (wrap64 (Int.tdiv a0_3 256)) 256) % 256)] from rfl) (Reps.one (show Kd.M (Kd.int .u8) _ _ _ ((Int.tmod a0_3 256) % 256) [.int .u8 ((Int.tmod a0_3 256) % 256)] from rfl) (Reps.one (show Kd.M (Kd.int .u8) _ _ _ (((a0_2.size : Int)) % 256) [.int .u8 (((a0_2.size : Int)) % 256)] from rfl) (Reps.none _ _)))))))); intro v765 w27 ho28 hb hg_ hnew_; clear hg_ hnew_; (first | rw [← Ny764.out] at ho28 | (simp only [Int.reduceToNat] at ho28; rw [← Ny764.out] at ho28)); have HO766 := am__ (Kd.R_lower ho28 (below_size (bel__))); replace BK762 := am__ (blb__ BK762.out hb); replace HB := am__ (below_step (bel__) hb); clear hb ho28))
     have n0_ := am__ (Kd.R_drew HO766.out)
     have n1_ := am__ (blk_drew BK762.out)
     have n2_ := am__ (below_drew1 HB.out)
     clear HO766
     clear BK762
     clear HB
     have HO766 := n0_
     have BK762 := n1_
     have HB := n2_
     clear n0_ n1_ n2_
     refine start_ (n := 8) (S := fun w' => w'.cell? ⟨gb762, 0, none⟩ = some (.int .i64 a0_0) ∧ w'.cell? ⟨gb762, 1, none⟩ = some (.string a0_1) ∧ w'.cell? ⟨gb762, 2, none⟩ = some (.string a0_2) ∧ w'.cell? ⟨gb762, 3, none⟩ = some (.int .i64 a0_3) ∧ w'.cell? ⟨gb762, 4, none⟩ = some (.string a0_4) ∧ w'.cell? ⟨gb762, 5, none⟩ = some (.slice A0_5 l0_5.length c0_5)) (ds := []) #[false, false, false, false, false, false, false, false] (by kernel_rfl) rfl rfl ⟨(blk_cell BK762.out 0).trans rfl, (blk_cell BK762.out 1).trans rfl, (blk_cell BK762.out 2).trans rfl, (blk_cell BK762.out 3).trans rfl, (blk_cell BK762.out 4).trans rfl, (blk_cell BK762.out 5).trans rfl⟩ (fun hHeld => ?_); refine with_tabW spec_FormEntry.tab5 spec_FormEntry.bits5 (fun HT_ HW_ => ?_)
     generalize w27.drew = w29 at HO766 BK762 HB hHeld ⊢
     refine pu__ (i := 0) (N := some 35) #[true, false, false, false, false, false, false, false] HT_.out ?_
     refine pu__ (i := 1) (N := some 36) #[true, true, false, false, false, false, false, false] HT_.out ?_
     refine pu__ (i := 4) (N := some 39) #[true, true, false, false, true, false, false, false] HT_.out ?_
     refine take_ (i := 2) (N := some 37) (v := ?_) (a' := ?_) #[true, true, true, false, true, false, false, false] rfl rfl (take_ofW HT_.out HW_.out (by kernel_rfl)) (fun _ _ _ h => h) (Or.inl ⟨by rfl, ?_⟩) hHeld ?_ ?_
     rotate_left
     ·rintro w' ⟨s0, s1, s2, s3, s4, s5⟩
      go_simp
      with_reducible rfl
     rotate_left
     ·simp only [Act.put, List.setIfInBounds_toArray, List.set_cons_zero, List.set_cons_succ, i64_w, i32_w]
      rfl
     refine take_ (i := 5) (N := some 40) (v := ?_) (a' := ?_) #[true, true, true, false, true, true, false, false] rfl rfl (take_ofW HT_.out HW_.out (by kernel_rfl)) (fun _ _ _ h => h) (Or.inl ⟨by rfl, ?_⟩) hHeld ?_ ?_
     rotate_left
     ·rintro w' ⟨s0, s1, s2, s3, s4, s5⟩
      go_simp
      with_reducible rfl
     rotate_left
     ·simp only [Act.put, List.setIfInBounds_toArray, List.set_cons_zero, List.set_cons_succ, i64_w, i32_w]
      rfl
     refine one_ (i := 3) (N := some 38) #[true, true, true, true, true, true, false, false] rfl rfl (one_of HT_.out (by kernel_rfl)) (by decide) (fun K hK => ?_)
     refine print_append_str_step (w0 := w) w.heap.size (by rfl) (.tmp 35) _ 52 9 5 rfl Try.underlying52 Try.underlying9 info5 v765 y764 a0_2 rfl rfl ?aO ?aB ?aS ?aL ?_
     (case aB => exact (bel__))
     (case aO => exact (Kd.own_of_R (rr__ HO766.out)))
     (case aS => exact (below_size (bel__)))
     (case aL => have := LMc5.out; omega)
     intro v768 w30 ho0 hb hg
     have ho := Kd.R_of_own (h1 := fun _ => rfl) (ok := fun _ => True) ho0 (fun _ _ => trivial)
     clear ho0
     have hat := True.intro
     rw [← Ny767.out] at ho
     change Kd.R (Kd.int .u8) 5 w30 w.heap.size (fun _ => True) v768 y767 at ho
     have n0_ := am__ (bgr__ BK762.out hg (Kd.R_ne HO766.out BK762.out (by decide)))
     have n1_ := am__ (hb)
     have n2_ := am__ (ho)
     clear BK762
     clear HB
     clear HO766
     have BK762 := n0_
     have HB := n1_
     have HO769 := n2_
     clear n0_ n1_ n2_
     clear ho hb hg hat
     refine hK.out _ _ ⟨(blk_cell BK762.out 0).trans rfl, (blk_cell BK762.out 1).trans rfl, (blk_cell BK762.out 2).trans rfl, (blk_cell BK762.out 3).trans rfl, (blk_cell BK762.out 4).trans rfl, (blk_cell BK762.out 5).trans rfl⟩ (fun hHeld => ?_)
     clear hK K
     refine na__ 38 ?_
     refine one_ (i := 6) (N := some 41) #[true, true, true, true, true, true, true, false] rfl rfl (one_of HT_.out (by kernel_rfl)) (by decide) (fun K hK => ?_)
     refine print_append_str_step (w0 := w) w.heap.size (by rfl) (.tmp 38) _ 52 9 5 rfl Try.underlying52 Try.underlying9 info5 v768 y767 a0_1 rfl rfl ?aO ?aB ?aS ?aL ?_
     (case aB => exact (bel__))
     (case aO => exact (Kd.own_of_R (rr__ HO769.out)))
     (case aS => exact (below_size (bel__)))
     (case aL => have := LMc6.out; omega)
     intro v771 w31 ho0 hb hg
     have ho := Kd.R_of_own (h1 := fun _ => rfl) (ok := fun _ => True) ho0 (fun _ _ => trivial)
     clear ho0
     have hat := True.intro
     rw [← Ny770.out] at ho
     change Kd.R (Kd.int .u8) 5 w31 w.heap.size (fun _ => True) v771 y770 at ho
     have n0_ := am__ (bgr__ BK762.out hg (Kd.R_ne HO769.out BK762.out (by decide)))
     have n1_ := am__ (hb)
     have n2_ := am__ (ho)
     clear BK762
     clear HB
     clear HO769
     have BK762 := n0_
     have HB := n1_
     have HO772 := n2_
     clear n0_ n1_ n2_
     clear ho hb hg hat
     refine hK.out _ _ ⟨(blk_cell BK762.out 0).trans rfl, (blk_cell BK762.out 1).trans rfl, (blk_cell BK762.out 2).trans rfl, (blk_cell BK762.out 3).trans rfl, (blk_cell BK762.out 4).trans rfl, (blk_cell BK762.out 5).trans rfl⟩ (fun hHeld => ?_)
     clear hK K
     refine na__ 41 ?_
     refine pu__ (i := 7) (N := some 6) #[true, true, true, true, true, true, true, true] HT_.out ?_
     refine done_ (done_of HT_.out (by kernel_rfl)) ?_
     have hcz32_0 : w31.cell? ⟨gb762, 0, none⟩ = some (.int .i64 a0_0) := (blk_cell BK762.out 0).trans rfl
     have hcz32_1 : w31.cell? ⟨gb762, 1, none⟩ = some (.string a0_1) := (blk_cell BK762.out 1).trans rfl
     have hcz32_2 : w31.cell? ⟨gb762, 2, none⟩ = some (.string a0_2) := (blk_cell BK762.out 2).trans rfl
     have hcz32_3 : w31.cell? ⟨gb762, 3, none⟩ = some (.int .i64 a0_3) := (blk_cell BK762.out 3).trans rfl
     have hcz32_4 : w31.cell? ⟨gb762, 4, none⟩ = some (.string a0_4) := (blk_cell BK762.out 4).trans rfl
     have hcz32_5 : w31.cell? ⟨gb762, 5, none⟩ = some (.slice A0_5 l0_5.length c0_5) := (blk_cell BK762.out 5).trans rfl
     have hfz32_0 := blk_frozen BK762.out 0
     have hfz32_1 := blk_frozen BK762.out 1
     have hfz32_2 := blk_frozen BK762.out 2
     have hfz32_3 := blk_frozen BK762.out 3
     have hfz32_4 := blk_frozen BK762.out 4
     have hfz32_5 := blk_frozen BK762.out 5
     have hcv33 := own_string (P := Try.prog) Try.underlying52 Try.underlying5 Try.underlying9 (Kd.own_of_R HO772.out)
     try go_wp2
     go_ret
     exact ⟨by first | rfl | (simp [errW_none, errW_some] <;> rfl) | (simp [*, errW_none, errW_some] <;> rfl), bel__⟩
   ·rw [if_neg c6] at H
    exact absurd H (by simp)
  ·rw [if_neg c5] at H
   exact absurd H (by simp)
 ·replace c4 := Bool.eq_false_iff.mpr c4
  subst c4
  have H1 : (some (⟨#[]⟩ : ByteArray)) = some r := by rw [if_neg (show ¬ (false = true) by decide)] at H; exact H
  clear H
  have H := H1
  clear H1
  obtain rfl := Option.some.inj H
  go_enter Try.func43, Try.ntmps43
  go_wp2_with (first | ((with_reducible refine gate_dst (N := 2) rfl ?_); refine be__ 2 #[.int .i64 a0_0, .string a0_1, .string a0_2, .int .i64 a0_3, .string a0_4, .slice A0_5 l0_5.length c0_5] 63 ?_; intro gb762 hg w34 hbox hb; have BK762 := am__ (hbox); have GW762 := am__ ((bsz__ hg bel__ : w.heap.size ≤ gb762)); have GE762 := am__ ((bsz__ hg bel__ : w.heap.size ≤ gb762)); replace HB := am__ (below_step (bel__) hb); clear hb hbox hg; obtain ⟨hcz35_0, hcz35_1, hcz35_2, hcz35_3, hcz35_4, hcz35_5, hfz35_0, hfz35_1, hfz35_2, hfz35_3, hfz35_4, hfz35_5⟩ := bk6__ BK762.out) | ((with_reducible refine gate_callee (f := 74) rfl ?_); refine gl__ (some 9) Try.func74 #[.agg #[.int .i64 a0_0, .string a0_1, .string a0_2, .int .i64 a0_3, .string a0_4, .slice A0_5 l0_5.length c0_5], .int .i64 a1] ?_; (with_reducible refine (spec_l3Ok.calls k a0_0 a0_1 a0_2 a0_3 a0_4 _ _ l0_5 a1 false _ ?side1 HC0_5.out A3.out).mono ?_); (case side1 => repeat (first | exact (Kd.C_below HR0_5.out HB.out) | (with_reducible refine Kd.C_alloc ?_ _) | (with_reducible refine Kd.C_drewN ?_ _) | (with_reducible refine Kd.C_drew ?_))); rintro e w36 ⟨rfl, hb⟩; refine ⟨_, rfl, ?_⟩; replace BK762 := am__ (blb__ BK762.out hb); replace HB := am__ (below_step (bel__) hb); clear hb))
  go_ret
  exact ⟨by first | rfl | (simp [errW_none, errW_some] <;> rfl) | (simp [*, errW_none, errW_some] <;> rfl), bel__⟩
end Go.Proofs.Ytpnblgbkjbpeoaa.P

namespace Go.Proofs.Ytpnblgbkjbpeoaa.P
open Go.RowKit Go.Proofs.YtpnblgbkjbpeoaaW.PrintWords Go.Proofs.YtpnblgbkjbpeoaaW.PrintLast Go.Proofs.YtpnblgbkjbpeoaaW.PrintMore
attribute [local go_sem] max2_int min2_int max_two min_two max_three min_three max_four min_four   -- for this text's walks alone
set_option linter.unusedVariables false
set_option linter.unusedSimpArgs false
/-! ### impl_usesSum: function 88 -/
def impl_usesSum.f (a0 : Int) : Option (Bool) := if a0 = 2 then (some true) else (if a0 = 4 then (some true) else (some (a0 == 7)))
set_option maxHeartbeats 8000000 in
set_option maxRecDepth 100000 in
theorem impl_usesSum.calls (a0 : Int) (r : Bool) (w : World) (h : impl_usesSum.f a0 = some r) :
  Calls Try.prog 88 #[.int .i64 a0] w fun e w' => e = .returned (.bool r) ∧ Drawn0 w w' := by
 have H : (if a0 = 2 then (some true) else (if a0 = 4 then (some true) else (some (a0 == 7)))) = some r := h
 clear h
 by_cases c2 : a0 = 2
 ·rw [if_pos c2] at H
  have c2b0 : (a0 == 2) = true := beq_iff_eq.mpr c2
  have c2b1 : (a0 != 2) = false := bne_eq_false_iff_eq.mpr c2
  clear c2
  obtain rfl := Option.some.inj H
  go_enter Try.func88, Try.ntmps88
  go_wp2
  go_ret
  exact ⟨by first | rfl | (simp; done) | (simp [*]; done), by repeat (first | exact Drawn0.refl _ | apply Drawn0.step)⟩
 ·rw [if_neg c2] at H
  have c2b0 : (a0 == 2) = false := beq_eq_false_iff_ne.mpr c2
  have c2b1 : (a0 != 2) = true := bne_iff_ne.mpr c2
  by_cases c3 : a0 = 4
  ·rw [if_pos c3] at H
   have c3b0 : (a0 == 4) = true := beq_iff_eq.mpr c3
   have c3b1 : (a0 != 4) = false := bne_eq_false_iff_eq.mpr c3
   clear c3
   obtain rfl := Option.some.inj H
   go_enter Try.func88, Try.ntmps88
   go_wp2
   go_ret
   exact ⟨by first | rfl | (simp; done) | (simp [*]; done), by repeat (first | exact Drawn0.refl _ | apply Drawn0.step)⟩
  ·rw [if_neg c3] at H
   have c3b0 : (a0 == 4) = false := beq_eq_false_iff_ne.mpr c3
   have c3b1 : (a0 != 4) = true := bne_iff_ne.mpr c3
   obtain rfl := Option.some.inj H
   go_enter Try.func88, Try.ntmps88
   go_wp2
   go_ret
   exact ⟨by first | rfl | (simp; done) | (simp [*]; done), by repeat (first | exact Drawn0.refl _ | apply Drawn0.step)⟩
end Go.Proofs.Ytpnblgbkjbpeoaa.P

namespace Go.Proofs.Ytpnblgbkjbpeoaa.P
open Go.RowKit Go.Proofs.YtpnblgbkjbpeoaaW.PrintWords Go.Proofs.YtpnblgbkjbpeoaaW.PrintLast Go.Proofs.YtpnblgbkjbpeoaaW.PrintMore
attribute [local go_sem] max2_int min2_int max_two min_two max_three min_three max_four min_four   -- for this text's walks alone
set_option linter.unusedVariables false
set_option linter.unusedSimpArgs false
/-! ### impl_usesName: function 89 -/
def impl_usesName.f (a0 : Int) : Option (Bool) := if a0 = 2 then (some true) else (some (a0 == 3))
set_option maxHeartbeats 8000000 in
set_option maxRecDepth 100000 in
theorem impl_usesName.calls (a0 : Int) (r : Bool) (w : World) (h : impl_usesName.f a0 = some r) :
  Calls Try.prog 89 #[.int .i64 a0] w fun e w' => e = .returned (.bool r) ∧ Drawn0 w w' := by
 have H : (if a0 = 2 then (some true) else (some (a0 == 3))) = some r := h
 clear h
 by_cases c2 : a0 = 2
 ·rw [if_pos c2] at H
  have c2b0 : (a0 == 2) = true := beq_iff_eq.mpr c2
  have c2b1 : (a0 != 2) = false := bne_eq_false_iff_eq.mpr c2
  clear c2
  obtain rfl := Option.some.inj H
  go_enter Try.func89, Try.ntmps89
  go_wp2
  go_ret
  exact ⟨by first | rfl | (simp; done) | (simp [*]; done), by repeat (first | exact Drawn0.refl _ | apply Drawn0.step)⟩
 ·rw [if_neg c2] at H
  have c2b0 : (a0 == 2) = false := beq_eq_false_iff_ne.mpr c2
  have c2b1 : (a0 != 2) = true := bne_iff_ne.mpr c2
  obtain rfl := Option.some.inj H
  go_enter Try.func89, Try.ntmps89
  go_wp2
  go_ret
  exact ⟨by first | rfl | (simp; done) | (simp [*]; done), by repeat (first | exact Drawn0.refl _ | apply Drawn0.step)⟩
end Go.Proofs.Ytpnblgbkjbpeoaa.P

namespace Go.Proofs.Ytpnblgbkjbpeoaa.P
open Go.RowKit Go.Proofs.YtpnblgbkjbpeoaaW.PrintWords Go.Proofs.YtpnblgbkjbpeoaaW.PrintLast Go.Proofs.YtpnblgbkjbpeoaaW.PrintMore
attribute [local go_sem] max2_int min2_int max_two min_two max_three min_three max_four min_four   -- for this text's walks alone
set_option linter.unusedVariables false
set_option linter.unusedSimpArgs false
/-! ### impl_nameOk: function 90 -/
def impl_nameOk.l0 : Nat → ByteArray → Int → Int → Option (Bool)
 | 0, _, _, _ => none
 | k + 1, x0, x5, x6 => if x6 < x5 then (if 0 ≤ x6 then (if x6 < (x0.size : Int) then (if (bt x0 x6) < 33 then (some false) else (if (bt x0 x6) > 126 then (some false) else (impl_nameOk.l0 k x0 x5 (wrap64 (x6 + 1))))) else (none)) else (none)) else (if (x0.size : Int) ≥ 1 then (some (decide ((x0.size : Int) ≤ 40))) else (some false))
def impl_nameOk.f (k : Nat) (a0 : ByteArray) : Option (Bool) := impl_nameOk.l0 k a0 (a0.size : Int) 0
set_option maxHeartbeats 8000000 in
set_option maxRecDepth 100000 in
theorem impl_nameOk.calls (k : Nat) (a0 : ByteArray) (r : Bool) (w : World) (h : impl_nameOk.f k a0 = some r) :
  Calls Try.prog 90 #[.string a0] w fun e w' => e = .returned (.bool r) ∧ Drawn0 w w' := by
 have H : (impl_nameOk.l0 k a0 (a0.size : Int) 0) = some r := h
 clear h
 have H' := Aside0.mk H
 clear H
 go_enter Try.func90, Try.ntmps90
 go_wp2
 go_loopg [6] k (fun kq v6 w' => ∃ (x6_1 : Int), v6 = .int .i64 x6_1 ∧ Aside0 (impl_nameOk.l0 kq a0 (a0.size : Int) x6_1 = some r) ∧ Aside0 (kq ≤ k) ∧ Drawn0 w w')
 case atStart => exact ⟨(0), (rf__), H', ⟨Nat.le_refl _⟩, by repeat (first | exact Drawn0.refl _ | apply Drawn0.step)⟩
 case round =>
  clear H'
  obtain ⟨x6_1, rfl, HA, HK1, ⟨m1, rfl⟩⟩ := hrel
  cases gk with
  | zero => exact absurd HA.out (by simp [impl_nameOk.l0])
  | succ k1 =>
   have H := HA.out
   clear HA
   simp only [impl_nameOk.l0] at H
   by_cases c2 : x6_1 < (a0.size : Int)
   ·rw [if_pos c2] at H
    have c2b0 : decide (x6_1 < (a0.size : Int)) = true := decide_eq_true c2
    clear c2
    by_cases c3 : 0 ≤ x6_1
    ·rw [if_pos c3] at H
     have c3b0 : decide (0 ≤ x6_1) = true := decide_eq_true c3
     clear c3
     by_cases c4 : x6_1 < (a0.size : Int)
     ·rw [if_pos c4] at H
      have c4b0 : decide (x6_1 < (a0.size : Int)) = true := decide_eq_true c4
      clear c4
      by_cases c6 : (bt a0 x6_1) < 33
      ·rw [if_pos c6] at H
       have c6b0 : decide ((bt a0 x6_1) < 33) = true := decide_eq_true c6
       clear c6
       obtain rfl := Option.some.inj H
       have p5 : 0 ≤ (x6_1 : Int) := of_decide_eq_true (by first | (with_reducible assumption) | assumption)
       have q5 : x6_1 < (a0.size : Int) := of_decide_eq_true (by first | (with_reducible assumption) | assumption)
       have hx5 := bt_at a0 x6_1
       replace p5 := eq_true p5
       replace q5 := eq_true q5
       go_wp2
       go_ret
       exact ⟨by first | rfl | (simp; done) | (simp [*]; done), by repeat (first | exact Drawn0.refl _ | apply Drawn0.step)⟩
      ·rw [if_neg c6] at H
       have c6b0 : decide ((bt a0 x6_1) < 33) = false := decide_eq_false c6
       clear c6
       by_cases c8 : (bt a0 x6_1) > 126
       ·rw [if_pos c8] at H
        have c8b0 : decide (126 < (bt a0 x6_1)) = true := decide_eq_true c8
        clear c8
        obtain rfl := Option.some.inj H
        have p5 : 0 ≤ (x6_1 : Int) := of_decide_eq_true (by first | (with_reducible assumption) | assumption)
        have q5 : x6_1 < (a0.size : Int) := of_decide_eq_true (by first | (with_reducible assumption) | assumption)
        have hx5 := bt_at a0 x6_1
        replace p5 := eq_true p5
        replace q5 := eq_true q5
        have p7 : 0 ≤ (x6_1 : Int) := of_decide_eq_true (by first | (with_reducible assumption) | assumption)
        have q7 : x6_1 < (a0.size : Int) := of_decide_eq_true (by first | (with_reducible assumption) | assumption)
        have hx7 := bt_at a0 x6_1
        replace p7 := eq_true p7
        replace q7 := eq_true q7
        go_wp2
        go_ret
        exact ⟨by first | rfl | (simp; done) | (simp [*]; done), by repeat (first | exact Drawn0.refl _ | apply Drawn0.step)⟩
       ·rw [if_neg c8] at H
        have c8b0 : decide (126 < (bt a0 x6_1)) = false := decide_eq_false c8
        clear c8
        have H' := Aside0.mk H
        clear H
        have p5 : 0 ≤ (x6_1 : Int) := of_decide_eq_true (by first | (with_reducible assumption) | assumption)
        have q5 : x6_1 < (a0.size : Int) := of_decide_eq_true (by first | (with_reducible assumption) | assumption)
        have hx5 := bt_at a0 x6_1
        replace p5 := eq_true p5
        replace q5 := eq_true q5
        have p7 : 0 ≤ (x6_1 : Int) := of_decide_eq_true (by first | (with_reducible assumption) | assumption)
        have q7 : x6_1 < (a0.size : Int) := of_decide_eq_true (by first | (with_reducible assumption) | assumption)
        have hx7 := bt_at a0 x6_1
        replace p7 := eq_true p7
        replace q7 := eq_true q7
        go_wp2
        go_roundg k1
        case measure => have := HK1.out; omega
        case rel => exact ⟨(wrap64 (x6_1 + 1)), (rf__), H', ⟨by have := HK1.out; omega⟩, by repeat (first | exact Drawn0.refl _ | apply Drawn0.step)⟩
     ·rw [if_neg c4] at H
      exact absurd H (by simp)
    ·rw [if_neg c3] at H
     exact absurd H (by simp)
   ·rw [if_neg c2] at H
    have c2b0 : decide (x6_1 < (a0.size : Int)) = false := decide_eq_false c2
    clear c2
    by_cases c9 : (a0.size : Int) ≥ 1
    ·rw [if_pos c9] at H
     have c9b0 : decide (1 ≤ (a0.size : Int)) = true := decide_eq_true c9
     have c9b1 : decide (1 ≤ a0.size) = true := decide_eq_true (by omega)
     clear c9
     obtain rfl := Option.some.inj H
     go_wp2
     go_ret
     exact ⟨by first | rfl | (simp; done) | (simp [*]; done), by repeat (first | exact Drawn0.refl _ | apply Drawn0.step)⟩
    ·rw [if_neg c9] at H
     have c9b0 : decide (1 ≤ (a0.size : Int)) = false := decide_eq_false c9
     have c9b1 : decide (1 ≤ a0.size) = false := decide_eq_false (by omega)
     clear c9
     obtain rfl := Option.some.inj H
     go_wp2
     go_ret
     exact ⟨by first | rfl | (simp; done) | (simp [*]; done), by repeat (first | exact Drawn0.refl _ | apply Drawn0.step)⟩
end Go.Proofs.Ytpnblgbkjbpeoaa.P
