/- Part 9 of the proof of FnExactValidRound: what it leans on. -/
import Derived.Test.YtcijlemojododaaM1
import Derived.Test.YtcijlemojododaaM2
import Derived.Test.YtcijlemojododaaM3
import Derived.Test.YtcijlemojododaaM4
import Derived.Test.YtcijlemojododaaM5
import Derived.Test.YtcijlemojododaaM6
import Derived.Test.YtcijlemojododaaM7
import Derived.Test.YtcijlemojododaaM8
import Derived.Maps.OwnOps
import Derived.WalkKit
import Derived.ProofKit
import Derived.OpenShut
import Derived.ShutString
import Derived.ChangeOld
import Derived.Below
import Derived.SizedLaws
import Derived.Deep.Slices

/- Maps from texts to bools, of which every entry is true: what such a map's block holds (mobjS), and what a look-up and a store come to. -/
namespace Go.Proofs.Ytcijlemojododaa.S
open Go.RowKit Go.Proofs.YtcijlemojododaaW.PrintWords Go.Proofs.YtcijlemojododaaW.PrintLast
set_option linter.unusedVariables false
set_option linter.unusedSimpArgs false
instance lawB : LawfulBEq ByteArray where
  eq_of_beq := fun h => (MapKept.bytes_beq _ _).1 h
  rfl := (MapKept.bytes_beq _ _).2 rfl
/-- The entries: the keys in the order in which they came (the list's last first). -/
def mesS : List ByteArray → List MapEntry
  | [] => []
  | k :: ks => mesS ks ++ [⟨.string k, .bool true, ks.length⟩]
def mobjS (ks : List ByteArray) : Obj := .map (mesS ks).toArray ks.length
theorem mes_memS {ks : List ByteArray} {e : MapEntry} (h : e ∈ mesS ks) : ∃ a ∈ ks, e.key = .string a ∧ e.val = .bool true := by
  induction ks with
  | nil => cases h
  | cons k ks ih =>
    rcases List.mem_append.1 h with h | h
    · obtain ⟨a, h1, h2⟩ := ih h
      exact ⟨a, List.mem_cons_of_mem _ h1, h2⟩
    · cases List.mem_singleton.1 h
      exact ⟨k, List.mem_cons_self, rfl, rfl⟩
theorem mem_mesS {ks : List ByteArray} {a : ByteArray} (h : a ∈ ks) : ∃ e ∈ mesS ks, e.key = .string a := by
  induction ks with
  | nil => cases h
  | cons k ks ih =>
    rcases List.mem_cons.1 h with rfl | h
    · exact ⟨_, List.mem_append_right _ (List.mem_singleton.2 rfl), rfl⟩
    · obtain ⟨e, h1, h2⟩ := ih h
      exact ⟨e, List.mem_append_left _ h1, h2⟩
theorem fn_noneS (x : ByteArray) : ∀ (es : List MapEntry) (i : Nat), (∀ e ∈ es, ∃ a, e.key = .string a ∧ a ≠ x) → Instr.findNow .string (.string x) es i = some none
  | [], _, _ => rfl
  | e :: es, i, h => by
    obtain ⟨a, h1, h2⟩ := h e List.mem_cons_self
    have h3 := fn_noneS x es (i + 1) (fun e he => h e (List.mem_cons_of_mem _ he))
    unfold Instr.findNow
    have e1 : (x == a) = false := beq_false_of_ne (Ne.symm h2)
    rw [h1]
    simp only [Instr.sameNow, e1, h3]
theorem fn_someS (x : ByteArray) : ∀ (es : List MapEntry) (i : Nat), (∀ e ∈ es, (∃ a, e.key = .string a) ∧ e.val = .bool true) → (∃ e ∈ es, e.key = .string x) → ∃ j, Instr.findNow .string (.string x) es i = some (some (j, .bool true))
  | [], _, _, h => by obtain ⟨_, h, _⟩ := h; cases h
  | e :: es, i, h, hx => by
    obtain ⟨⟨a, h1⟩, h2⟩ := h e List.mem_cons_self
    by_cases ha : a = x
    · exact ⟨i, by unfold Instr.findNow; rw [h1, h2]; simp [Instr.sameNow, ha]⟩
    · have e1 : (x == a) = false := beq_false_of_ne (Ne.symm ha)
      obtain ⟨e', he, hk⟩ := hx
      have : e' ∈ es := by
        rcases List.mem_cons.1 he with rfl | he
        · rw [h1] at hk; injection hk with hk; exact absurd hk ha
        · exact he
      obtain ⟨j, h3⟩ := fn_someS x es (i + 1) (fun e he => h e (List.mem_cons_of_mem _ he)) ⟨e', this, hk⟩
      exact ⟨j, by unfold Instr.findNow; rw [h1]; simp only [Instr.sameNow, e1, h3]⟩
theorem run_lookS {P : Program} {t k e : TypeId} (ht : P.underlying t = some (.map k e)) (hk : P.underlying k = some .string) (w : World) (hz : (zeroValue e).run P w = .ok (.bool false) w) {b : Nat} {ks : List ByteArray} (hb : w.heap[b]? = some (mobjS ks)) (x : ByteArray) :
    (Instr.lookup t (.map (some b)) (.string x) false).run P w = .ok (.bool (ks.contains x)) w := by
  have hc : ∀ em, (Instr.checkKey em 10000 k (.string x)).run P w = .ok () w := fun em => by unfold Instr.checkKey; simp [run_underlying hk]
  by_cases hm : x ∈ ks
  · obtain ⟨j, h1⟩ := fn_someS x (mesS ks) 0 (fun e he => by obtain ⟨a, _, h2, h3⟩ := mes_memS he; exact ⟨⟨a, h2⟩, h3⟩) (mem_mesS hm)
    have h2 : (Instr.findKey k (.string x) (mesS ks)).run P w = .ok (some (j, .bool true)) w := by simp [Instr.findKey, run_underlying hk, h1]
    simp [Instr.lookup, run_underlying ht, MapKept.run_getObj_map hb, hc, h2, hz, hm, Result.andThen]
  · have h1 := fn_noneS x (mesS ks) 0 (fun e he => by obtain ⟨a, h1, h2, _⟩ := mes_memS he; exact ⟨a, h2, fun h => hm (h ▸ h1)⟩)
    have h2 : (Instr.findKey k (.string x) (mesS ks)).run P w = .ok none w := by simp [Instr.findKey, run_underlying hk, h1]
    simp [Instr.lookup, run_underlying ht, MapKept.run_getObj_map hb, hc, h2, hz, hm, Result.andThen]
/-- A key laid into such a map (once). -/
def insS (x : ByteArray) (ks : List ByteArray) : List ByteArray := if ks.contains x then ks else x :: ks
theorem fn_whereS (x : ByteArray) : ∀ (es : List MapEntry) (i : Nat), (∀ e ∈ es, ∃ a, e.key = .string a) → (∃ e ∈ es, e.key = .string x) → ∃ d e, Instr.findNow .string (.string x) es i = some (some (i + d, e.val)) ∧ es[d]? = some e ∧ e.key = .string x
  | [], _, _, h => by obtain ⟨_, h, _⟩ := h; cases h
  | e :: es, i, h, hx => by
    obtain ⟨a, h1⟩ := h e List.mem_cons_self
    by_cases ha : a = x
    · subst ha
      exact ⟨0, e, by unfold Instr.findNow; rw [h1]; simp [Instr.sameNow], rfl, h1⟩
    · have e1 : (x == a) = false := beq_false_of_ne (Ne.symm ha)
      obtain ⟨e', he, hk⟩ := hx
      have : e' ∈ es := by
        rcases List.mem_cons.1 he with rfl | he
        · rw [h1] at hk; injection hk with hk; exact absurd hk ha
        · exact he
      obtain ⟨d, e2, h3, h4, h5⟩ := fn_whereS x es (i + 1) (fun e he => h e (List.mem_cons_of_mem _ he)) ⟨e', this, hk⟩
      refine ⟨d + 1, e2, ?_, by simpa using h4, h5⟩
      unfold Instr.findNow
      rw [h1]
      simp only [Instr.sameNow, e1, h3]
      rw [show i + 1 + d = i + (d + 1) by omega]
theorem run_putS {P : Program} {t k e : TypeId} (ht : P.underlying t = some (.map k e)) (hk : P.underlying k = some .string) (w : World) {b : Nat} {ks : List ByteArray} (hb : w.heap[b]? = some (mobjS ks)) (x : ByteArray) :
    (Instr.mapUpdate t (.map (some b)) (.string x) (.bool true)).run P w = .ok () (Go.ChangeMaps.setBlock w b (mobjS (insS x ks))) := by
  have hc : (Instr.checkKey false 10000 k (.string x)).run P w = .ok () w := by unfold Instr.checkKey; simp [run_underlying hk]
  by_cases hm : x ∈ ks
  · obtain ⟨d, e0, h1, h2, h3⟩ := fn_whereS x (mesS ks) 0 (fun e he => by obtain ⟨a, _, h2, _⟩ := mes_memS he; exact ⟨a, h2⟩) (mem_mesS hm)
    rw [Nat.zero_add] at h1
    have hv : e0.val = .bool true := by obtain ⟨a, _, _, h⟩ := mes_memS (List.mem_of_getElem? h2); exact h
    have hj : (mesS ks).toArray[d]? = some e0 := by simpa using h2
    have h4 : (Instr.findKey k (.string x) (mesS ks)).run P w = .ok (some (d, e0.val)) w := by simp [Instr.findKey, run_underlying hk, h1]
    have h5 := modify_same hj h3 hv
    have h7 := congrArg Array.toList h5
    simp only [List.modify_toArray] at h7
    have h6 : insS x ks = ks := by simp [insS, hm]
    rw [h6]
    simp [Instr.mapUpdate, run_underlying ht, MapKept.run_getObj_map hb, hc, h4, hj, h2, h3, h7, Instr.keyThatStays, Instr.sameBits, MapKept.run_setObj_map _ hb, Result.andThen, Go.ChangeMaps.setBlock, mobjS]
  · have h1 := fn_noneS x (mesS ks) 0 (fun e he => by obtain ⟨a, h1, h2, _⟩ := mes_memS he; exact ⟨a, h2, fun h => hm (h ▸ h1)⟩)
    have h2 : (Instr.findKey k (.string x) (mesS ks)).run P w = .ok none w := by simp [Instr.findKey, run_underlying hk, h1]
    have h6 : insS x ks = x :: ks := by simp [insS, hm]
    rw [h6]
    simp [Instr.mapUpdate, run_underlying ht, MapKept.run_getObj_map hb, hc, h2, MapKept.run_setObj_map _ hb, Result.andThen, Go.ChangeMaps.setBlock, mobjS, mesS]
section
variable {P : Program} {ops : Array Oper} {rest : List Oper} {o : Oper} {a : Act} {Q : Exit → Act → World → Prop} {W : World}
/-- A key laid into such a map, at the operation. -/
theorem put_eventS {b : Nat} {ks : List ByteArray} {x : ByteArray} {t k e : TypeId} {m κ : Operand} (hb : W.heap[b]? = some (mobjS ks)) (hop : o.op = .mapUpdate t m κ (.const (.bool true))) (hg : o.guard = none) (ht : P.underlying t = some (.map k e)) (hk : P.underlying k = some .string)
    (hm : a.eval m = .map (some b)) (hx : a.eval κ = .string x) (h : ∀ w1, w1.heap[b]? = some (mobjS (insS x ks)) → W.grownBy w1 (some b) → wpList P ops Q rest (a.put o.dst undef) w1) : wpList P ops Q (o :: rest) a W := by
  refine wpList_plain hg fun K' hK' => ?_
  have hrun := run_putS ht hk W hb x
  have hv : a.eval (.const (.bool true)) = .bool true := rfl
  unfold Oper.wp
  simp [execOp, hop, hm, hx, hv, hrun, Result.andThen]
  exact hK' _ _ (h _ (grown_set hb).2 (grown_set hb).1)
/-- Such a map made. -/
theorem make_eventS (N : Tmp) {t : TypeId} (hop : o.op = .makeMap t none) (hg : o.guard = none) (h : ∀ g, g = W.heap.size → ∀ w1, w1.heap[g]? = some (mobjS []) → Below W.heap.size W w1 → wpList P ops Q rest (a.put o.dst (.map (some g))) w1) : wpList P ops Q (o :: rest) a W := by
  refine wpList_plain hg fun K' hK' => ?_
  have hrun : (Instr.makeMap t none).run P W = .ok (.map (some W.heap.size)) (W.alloc (.map #[] 0)) := rfl
  unfold Oper.wp
  simp [execOp, hop, hrun, Result.andThen]
  exact hK' _ _ (h _ rfl _ (blk_new W _) (below_alloc (Below.refl _ _) _))
/-- A key looked up, at the operation. -/
theorem look_execS {ev : Operand → Value} {oi : Oper} {w : World} {b : Nat} {ks : List ByteArray} {x : ByteArray} {t k e : TypeId} {m κ : Operand} (hb : w.heap[b]? = some (mobjS ks)) (hop : oi.op = .lookup t m κ false) (ht : P.underlying t = some (.map k e)) (hk : P.underlying k = some .string)
    (hz : (P.info? e).map (fun i => i.zero) = some (some (.bool false))) (hm : ev m = .map (some b)) (hx : ev κ = .string x) : (execOp ev oi).run P w = .ok (.value (.bool (ks.contains x))) w := by
  have hrun := run_lookS ht hk w (zero_bool hz w) hb x
  unfold execOp
  simp [hop, hm, hx, hrun, Result.andThen]
theorem gate_look {t : TypeId} {m k : Operand} {c : Bool} (_ho : o.op = .lookup t m k c) (h : wpList P ops Q (o :: rest) a W) : wpList P ops Q (o :: rest) a W := h
theorem look_eventS {b : Nat} {ks : List ByteArray} {x : ByteArray} {t k e : TypeId} {m κ : Operand} (hb : W.heap[b]? = some (mobjS ks)) (hop : o.op = .lookup t m κ false) (hg : o.guard = none) (ht : P.underlying t = some (.map k e)) (hk : P.underlying k = some .string)
    (hz : (P.info? e).map (fun i => i.zero) = some (some (.bool false))) (hm : a.eval m = .map (some b)) (hx : a.eval κ = .string x) (h : wpList P ops Q rest (a.put o.dst (.bool (ks.contains x))) W) : wpList P ops Q (o :: rest) a W := by
  refine wpList_plain hg fun K' hK' => ?_
  unfold Oper.wp
  rw [look_execS hb hop ht hk hz hm hx]
  exact hK' _ _ h
end
end Go.Proofs.Ytcijlemojododaa.S

namespace Go.Proofs.Ytcijlemojododaa.P
open Go.RowKit Go.Proofs.YtcijlemojododaaW.PrintWords Go.Proofs.YtcijlemojododaaW.PrintLast Go.Proofs.YtcijlemojododaaW.PrintMore Go.Proofs.Ytcijlemojododaa.S
attribute [local go_sem] max2_int min2_int max_two min_two max_three min_three max_four min_four   -- for this text's walks alone
set_option linter.unusedVariables false
set_option linter.unusedSimpArgs false
/-! ### impl_State_roundOk: function 68 -/
mutual
def impl_State_roundOk.j0 : Nat → Bool → Int → Int → Int → Int → List (S91) → List (S82) → List (S85) → Int → List ByteArray → List ByteArray → Int → Int → Int → Option (Bool)
 | 0, _, _, _, _, _, _, _, _, _, _, _, _, _, _ => none
 | k + 1, x35, x458000, x458001, x458002, x458003, x458004, x458005, x458006, x459000, x459001, x459002, x459003, x459004, x459005 => if x35 = true then (some false) else (impl_State_roundOk.l0 k x459002 (x459002.length : Int) 0 x458000 x458001 x458002 x458003 x458004 x458005 x458006 x459000 x459001 x459002 x459003 x459004 x459005 [])
def impl_State_roundOk.l0 : Nat → List ByteArray → Int → Int → Int → Int → Int → Int → List (S91) → List (S82) → List (S85) → Int → List ByteArray → List ByteArray → Int → Int → Int → List ByteArray → Option (Bool)
 | 0, _, _, _, _, _, _, _, _, _, _, _, _, _, _, _, _, _ => none
 | k + 1, x38, x39, x40, x458000, x458001, x458002, x458003, x458004, x458005, x458006, x459000, x459001, x459002, x459003, x459004, x459005, x461000 => if x40 < x39 then (if 0 ≤ x40 then (if x40 < (x38.length : Int) then (if ((rdOf ByteArray.empty x38 x40).size : Int) = x458000 then (impl_State_roundOk.j2 k x38 x39 x40 (x461000.contains (rdOf ByteArray.empty x38 x40)) x458000 x458001 x458002 x458003 x458004 x458005 x458006 x459000 x459001 x459002 x459003 x459004 x459005 x461000) else (impl_State_roundOk.j2 k x38 x39 x40 true x458000 x458001 x458002 x458003 x458004 x458005 x458006 x459000 x459001 x459002 x459003 x459004 x459005 x461000)) else (none)) else (none)) else (impl_State_roundOk.l1 k x459001 (x459001.length : Int) 0 x458000 x458001 x458002 x458003 x458004 x458005 x458006 x459000 x459001 x459002 x459003 x459004 x459005)
def impl_State_roundOk.j2 : Nat → List ByteArray → Int → Int → Bool → Int → Int → Int → Int → List (S91) → List (S82) → List (S85) → Int → List ByteArray → List ByteArray → Int → Int → Int → List ByteArray → Option (Bool)
 | 0, _, _, _, _, _, _, _, _, _, _, _, _, _, _, _, _, _, _ => none
 | k + 1, x38, x39, x40, x55, x458000, x458001, x458002, x458003, x458004, x458005, x458006, x459000, x459001, x459002, x459003, x459004, x459005, x461000 => if x55 = true then (some false) else (impl_State_roundOk.l0 k x38 x39 (wrap64 (x40 + 1)) x458000 x458001 x458002 x458003 x458004 x458005 x458006 x459000 x459001 x459002 x459003 x459004 x459005 (insS (rdOf ByteArray.empty x38 x40) x461000))
def impl_State_roundOk.l1 : Nat → List ByteArray → Int → Int → Int → Int → Int → Int → List (S91) → List (S82) → List (S85) → Int → List ByteArray → List ByteArray → Int → Int → Int → Option (Bool)
 | 0, _, _, _, _, _, _, _, _, _, _, _, _, _, _, _, _ => none
 | k + 1, x60, x61, x62, x458000, x458001, x458002, x458003, x458004, x458005, x458006, x459000, x459001, x459002, x459003, x459004, x459005 => if x62 < x61 then (if 0 ≤ x62 then (if x62 < (x60.length : Int) then (if ((rdOf ByteArray.empty x60 x62).size : Int) = x458000 then (impl_State_roundOk.l1 k x60 x61 (wrap64 (x62 + 1)) x458000 x458001 x458002 x458003 x458004 x458005 x458006 x459000 x459001 x459002 x459003 x459004 x459005) else (some false)) else (none)) else (none)) else (if x459000 = 0 then (if (wrap64 ((x459001.length : Int) + (x459002.length : Int))) = 0 then (if x459003 = 0 then (some (x459004 == 0)) else (some false)) else (some false)) else (if x459003 ≥ 0 then (if x459003 ≤ x458003 then (if x459004 ≥ 1 then (if x459004 ≤ (wrap64 (x459003 + 1)) then (if x459000 = 1 then (some (x459004 == (wrap64 (x459003 + 1)))) else (some true)) else (some false)) else (some false)) else (some false)) else (some false)))
end
def impl_State_roundOk.f (k : Nat) (a0_0 : Int) (a0_1 : Int) (a0_2 : Int) (a0_3 : Int) (l0_4 : List (S91)) (l0_5 : List (S82)) (l0_6 : List (S85)) (a1_0 : Int) (l1_1 : List ByteArray) (l1_2 : List ByteArray) (a1_3 : Int) (a1_4 : Int) (a1_5 : Int) : Option (Bool) := if a1_0 < 0 then (impl_State_roundOk.j0 k true a0_0 a0_1 a0_2 a0_3 l0_4 l0_5 l0_6 a1_0 l1_1 l1_2 a1_3 a1_4 a1_5) else (if a1_0 > 2 then (impl_State_roundOk.j0 k true a0_0 a0_1 a0_2 a0_3 l0_4 l0_5 l0_6 a1_0 l1_1 l1_2 a1_3 a1_4 a1_5) else ((impl_timeOk.f a1_5).bind fun t459 => (if t459 = true then (if (l1_1.length : Int) > 23200 then (impl_State_roundOk.j0 k true a0_0 a0_1 a0_2 a0_3 l0_4 l0_5 l0_6 a1_0 l1_1 l1_2 a1_3 a1_4 a1_5) else (impl_State_roundOk.j0 k (decide ((l1_2.length : Int) > 600)) a0_0 a0_1 a0_2 a0_3 l0_4 l0_5 l0_6 a1_0 l1_1 l1_2 a1_3 a1_4 a1_5)) else (impl_State_roundOk.j0 k true a0_0 a0_1 a0_2 a0_3 l0_4 l0_5 l0_6 a1_0 l1_1 l1_2 a1_3 a1_4 a1_5))))
set_option maxHeartbeats 8000000 in
set_option maxRecDepth 100000 in
theorem impl_State_roundOk.calls (k : Nat) (gst : Nat) (a0_0 : Int) (a0_1 : Int) (a0_2 : Int) (a0_3 : Int) (A0_4 : Option Addr) (c0_4 : Nat) (l0_4 : List (S91)) (A0_5 : Option Addr) (c0_5 : Nat) (l0_5 : List (S82)) (A0_6 : Option Addr) (c0_6 : Nat) (l0_6 : List (S85)) (a1_0 : Int) (A1_1 : Option Addr) (c1_1 : Nat) (l1_1 : List ByteArray) (A1_2 : Option Addr) (c1_2 : Nat) (l1_2 : List ByteArray) (a1_3 : Int) (a1_4 : Int) (a1_5 : Int) (r : Bool) (w : World) (hr0_4 : Kd.C k91 w A0_4 l0_4.length l0_4) (hc0_4 : l0_4.length ≤ c0_4) (hr0_5 : Kd.C k82 w A0_5 l0_5.length l0_5) (hc0_5 : l0_5.length ≤ c0_5) (hr0_6 : Kd.C k85 w A0_6 l0_6.length l0_6) (hc0_6 : l0_6.length ≤ c0_6) (hr1_1 : Kd.C Kd.string w A1_1 l1_1.length l1_1) (hc1_1 : l1_1.length ≤ c1_1) (hr1_2 : Kd.C Kd.string w A1_2 l1_2.length l1_2) (hc1_2 : l1_2.length ≤ c1_2) (hst : w.heap[gst]? = some (.cells #[.int .i64 a0_0, .int .i64 a0_1, .int .i64 a0_2, .int .i64 a0_3, (.slice A0_4 l0_4.length c0_4), (.slice A0_5 l0_5.length c0_5), (.slice A0_6 l0_6.length c0_6)] 33 (0, 0))) (h : impl_State_roundOk.f k a0_0 a0_1 a0_2 a0_3 l0_4 l0_5 l0_6 a1_0 l1_1 l1_2 a1_3 a1_4 a1_5 = some r) :
  Calls Try.prog 68 #[.pointer (some ⟨gst, 0, none⟩), .agg #[.int .i64 a1_0, .slice A1_1 l1_1.length c1_1, .slice A1_2 l1_2.length c1_2, .int .i64 a1_3, .int .i64 a1_4, .int .i64 a1_5]] w fun e w' => e = .returned (.bool r) ∧ Below w.heap.size w w' := by
 have hu33 := Try.underlying33
 have hu43 := Try.underlying43
 have hu18 := Try.underlying18
 have HR0_4 := Aside0.mk hr0_4
 have HC0_4 := Aside0.mk hc0_4
 clear hr0_4 hc0_4
 have HR0_5 := Aside0.mk hr0_5
 have HC0_5 := Aside0.mk hc0_5
 clear hr0_5 hc0_5
 have HR0_6 := Aside0.mk hr0_6
 have HC0_6 := Aside0.mk hc0_6
 clear hr0_6 hc0_6
 have HR1_1 := Aside0.mk hr1_1
 have HC1_1 := Aside0.mk hc1_1
 clear hr1_1 hc1_1
 have HR1_2 := Aside0.mk hr1_2
 have HC1_2 := Aside0.mk hc1_2
 clear hr1_2 hc1_2
 have HB := am__ (Below.refl w.heap.size w)
 have H : (if a1_0 < 0 then (impl_State_roundOk.j0 k true a0_0 a0_1 a0_2 a0_3 l0_4 l0_5 l0_6 a1_0 l1_1 l1_2 a1_3 a1_4 a1_5) else (if a1_0 > 2 then (impl_State_roundOk.j0 k true a0_0 a0_1 a0_2 a0_3 l0_4 l0_5 l0_6 a1_0 l1_1 l1_2 a1_3 a1_4 a1_5) else ((impl_timeOk.f a1_5).bind fun t459 => (if t459 = true then (if (l1_1.length : Int) > 23200 then (impl_State_roundOk.j0 k true a0_0 a0_1 a0_2 a0_3 l0_4 l0_5 l0_6 a1_0 l1_1 l1_2 a1_3 a1_4 a1_5) else (impl_State_roundOk.j0 k (decide ((l1_2.length : Int) > 600)) a0_0 a0_1 a0_2 a0_3 l0_4 l0_5 l0_6 a1_0 l1_1 l1_2 a1_3 a1_4 a1_5)) else (impl_State_roundOk.j0 k true a0_0 a0_1 a0_2 a0_3 l0_4 l0_5 l0_6 a1_0 l1_1 l1_2 a1_3 a1_4 a1_5))))) = some r := h
 clear h
 have HC3 := Aside0.mk H
 clear H
 have BK457 := Aside0.mk hst
 clear hst
 go_enter Try.func68, Try.ntmps68
 go_upto_region 1 with (first | ((with_reducible refine gate_dst (N := 3) rfl ?_); (try (refine gate_guard (by rfl) ?_; dsimp only)); refine be__ 3 #[.int .i64 a1_0, .slice A1_1 l1_1.length c1_1, .slice A1_2 l1_2.length c1_2, .int .i64 a1_3, .int .i64 a1_4, .int .i64 a1_5] 43 ?_; intro gb458 hg w5 hbox hb; have BK458 := am__ (hbox); have GW458 := am__ ((bsz__ hg bel__ : w.heap.size ≤ gb458)); have GE458 := am__ ((bsz__ hg bel__ : w.heap.size ≤ gb458)); replace HB := am__ (below_step (bel__) hb); have NB457_458 := am__ ((nlt__ hg (blk_lt (g := gst) (o := .cells #[.int .i64 a0_0, .int .i64 a0_1, .int .i64 a0_2, .int .i64 a0_3, .slice A0_4 l0_4.length c0_4, .slice A0_5 l0_5.length c0_5, .slice A0_6 l0_6.length c0_6] 33 (0, 0)) (blk__ BK457.out)) : gst ≠ gb458)); have NB458_457 := am__ ((ngt__ hg (blk_lt (g := gst) (o := .cells #[.int .i64 a0_0, .int .i64 a0_1, .int .i64 a0_2, .int .i64 a0_3, .slice A0_4 l0_4.length c0_4, .slice A0_5 l0_5.length c0_5, .slice A0_6 l0_6.length c0_6] 33 (0, 0)) (blk__ BK457.out)) : gb458 ≠ gst)); replace BK457 := am__ (blk_below (g := gst) (o := .cells #[.int .i64 a0_0, .int .i64 a0_1, .int .i64 a0_2, .int .i64 a0_3, .slice A0_4 l0_4.length c0_4, .slice A0_5 l0_5.length c0_5, .slice A0_6 l0_6.length c0_6] 33 (0, 0)) (blk__ BK457.out) hb); clear hb hbox hg))
 repeat (go_quiet (first | ((with_reducible refine gate_dst (N := 3) rfl ?_); (try (refine gate_guard (by rfl) ?_; dsimp only)); refine be__ 3 #[.int .i64 a1_0, .slice A1_1 l1_1.length c1_1, .slice A1_2 l1_2.length c1_2, .int .i64 a1_3, .int .i64 a1_4, .int .i64 a1_5] 43 ?_; intro gb458 hg w5 hbox hb; have BK458 := am__ (hbox); have GW458 := am__ ((bsz__ hg bel__ : w.heap.size ≤ gb458)); have GE458 := am__ ((bsz__ hg bel__ : w.heap.size ≤ gb458)); replace HB := am__ (below_step (bel__) hb); have NB457_458 := am__ ((nlt__ hg (blk_lt (g := gst) (o := .cells #[.int .i64 a0_0, .int .i64 a0_1, .int .i64 a0_2, .int .i64 a0_3, .slice A0_4 l0_4.length c0_4, .slice A0_5 l0_5.length c0_5, .slice A0_6 l0_6.length c0_6] 33 (0, 0)) (blk__ BK457.out)) : gst ≠ gb458)); have NB458_457 := am__ ((ngt__ hg (blk_lt (g := gst) (o := .cells #[.int .i64 a0_0, .int .i64 a0_1, .int .i64 a0_2, .int .i64 a0_3, .slice A0_4 l0_4.length c0_4, .slice A0_5 l0_5.length c0_5, .slice A0_6 l0_6.length c0_6] 33 (0, 0)) (blk__ BK457.out)) : gb458 ≠ gst)); replace BK457 := am__ (blk_below (g := gst) (o := .cells #[.int .i64 a0_0, .int .i64 a0_1, .int .i64 a0_2, .int .i64 a0_3, .slice A0_4 l0_4.length c0_4, .slice A0_5 l0_5.length c0_5, .slice A0_6 l0_6.length c0_6] 33 (0, 0)) (blk__ BK457.out) hb); clear hb hbox hg)); go_upto_region 1 with (first | ((with_reducible refine gate_dst (N := 3) rfl ?_); (try (refine gate_guard (by rfl) ?_; dsimp only)); refine be__ 3 #[.int .i64 a1_0, .slice A1_1 l1_1.length c1_1, .slice A1_2 l1_2.length c1_2, .int .i64 a1_3, .int .i64 a1_4, .int .i64 a1_5] 43 ?_; intro gb458 hg w5 hbox hb; have BK458 := am__ (hbox); have GW458 := am__ ((bsz__ hg bel__ : w.heap.size ≤ gb458)); have GE458 := am__ ((bsz__ hg bel__ : w.heap.size ≤ gb458)); replace HB := am__ (below_step (bel__) hb); have NB457_458 := am__ ((nlt__ hg (blk_lt (g := gst) (o := .cells #[.int .i64 a0_0, .int .i64 a0_1, .int .i64 a0_2, .int .i64 a0_3, .slice A0_4 l0_4.length c0_4, .slice A0_5 l0_5.length c0_5, .slice A0_6 l0_6.length c0_6] 33 (0, 0)) (blk__ BK457.out)) : gst ≠ gb458)); have NB458_457 := am__ ((ngt__ hg (blk_lt (g := gst) (o := .cells #[.int .i64 a0_0, .int .i64 a0_1, .int .i64 a0_2, .int .i64 a0_3, .slice A0_4 l0_4.length c0_4, .slice A0_5 l0_5.length c0_5, .slice A0_6 l0_6.length c0_6] 33 (0, 0)) (blk__ BK457.out)) : gb458 ≠ gst)); replace BK457 := am__ (blk_below (g := gst) (o := .cells #[.int .i64 a0_0, .int .i64 a0_1, .int .i64 a0_2, .int .i64 a0_3, .slice A0_4 l0_4.length c0_4, .slice A0_5 l0_5.length c0_5, .slice A0_6 l0_6.length c0_6] 33 (0, 0)) (blk__ BK457.out) hb); clear hb hbox hg)))
 (try simp only [Act.put, List.setIfInBounds_toArray, List.set_cons_zero, List.set_cons_succ])
 go_cut [35] (fun v35 wc => ∃ (kq : Nat) (x35_2 : Bool), v35 = .bool x35_2 ∧ Aside0 (impl_State_roundOk.j0 kq x35_2 a0_0 a0_1 a0_2 a0_3 l0_4 l0_5 l0_6 a1_0 l1_1 l1_2 a1_3 a1_4 a1_5 = some r) ∧ Aside0 (kq ≤ k) ∧ Aside0 (wc.heap[gst]? = some (.cells #[.int .i64 a0_0, .int .i64 a0_1, .int .i64 a0_2, .int .i64 a0_3, (.slice A0_4 l0_4.length c0_4), (.slice A0_5 l0_5.length c0_5), (.slice A0_6 l0_6.length c0_6)] 33 (0, 0))) ∧ Aside0 (wc.heap[gb458]? = some (.cells #[.int .i64 a1_0, (.slice A1_1 l1_1.length c1_1), (.slice A1_2 l1_2.length c1_2), .int .i64 a1_3, .int .i64 a1_4, .int .i64 a1_5] 43 (0, 0))) ∧ Aside0 (Below w.heap.size w wc))
 case first =>
  have H := HC3.out
  clear HC3
  by_cases c6 : a1_0 < 0
  ·rw [if_pos c6] at H
   have c6b0 := decide_eq_true c6
   clear c6
   (first | rw [c6b0] | (simp only [i64_w, i32_w]; rw [c6b0]) | skip)
   have H' := Aside0.mk H
   clear H
   have hnb7 := NB458_457.out
   have hnc7 := NB457_458.out
   obtain ⟨hcz8_0, hcz8_1, hcz8_2, hcz8_3, hcz8_4, hcz8_5, hfz8_0, hfz8_1, hfz8_2, hfz8_3, hfz8_4, hfz8_5⟩ := bk6__ BK458.out
   go_wp2
   repeat (go_quiet (fail); try go_wp2)
   go_meet
   case rel => exact ⟨_, (true), (rf__), H', ⟨by first | omega | exact Nat.le_refl _⟩, ⟨blk__ BK457.out⟩, ⟨blk__ BK458.out⟩, ⟨bel__⟩⟩
  ·rw [if_neg c6] at H
   have c6b0 := decide_eq_false c6
   clear c6
   (first | rw [c6b0] | (simp only [i64_w, i32_w]; rw [c6b0]) | skip)
   by_cases c9 : a1_0 > 2
   ·rw [if_pos c9] at H
    have c9b0 : decide (2 < a1_0) = true := decide_eq_true c9
    clear c9
    have H' := Aside0.mk H
    clear H
    have hnb10 := NB458_457.out
    have hnc10 := NB457_458.out
    obtain ⟨hcz11_0, hcz11_1, hcz11_2, hcz11_3, hcz11_4, hcz11_5, hfz11_0, hfz11_1, hfz11_2, hfz11_3, hfz11_4, hfz11_5⟩ := bk6__ BK458.out
    go_wp2
    repeat (go_quiet (fail); try go_wp2)
    go_meet
    case rel => exact ⟨_, (true), (rf__), H', ⟨by first | omega | exact Nat.le_refl _⟩, ⟨blk__ BK457.out⟩, ⟨blk__ BK458.out⟩, ⟨bel__⟩⟩
   ·rw [if_neg c9] at H
    have c9b0 : decide (2 < a1_0) = false := decide_eq_false c9
    clear c9
    replace H := Option.bind_eq_some_iff.mp H
    obtain ⟨t459, A120, H⟩ := H
    have A12 := Aside0.mk A120
    clear A120
    by_cases c13 : t459 = true
    ·subst c13
     rw [if_pos rfl] at H
     by_cases c14 : (l1_1.length : Int) > 23200
     ·rw [if_pos c14] at H
      have c14b0 : decide (23200 < (l1_1.length : Int)) = true := decide_eq_true c14
      have c14b1 : decide (23200 < l1_1.length) = true := decide_eq_true (by omega)
      clear c14
      have H' := Aside0.mk H
      clear H
      have hnb15 := NB458_457.out
      have hnc15 := NB457_458.out
      obtain ⟨hcz16_0, hcz16_1, hcz16_2, hcz16_3, hcz16_4, hcz16_5, hfz16_0, hfz16_1, hfz16_2, hfz16_3, hfz16_4, hfz16_5⟩ := bk6__ BK458.out
      go_wp2_with (first | (go_at_call 54; (with_reducible refine (impl_timeOk.calls a1_5 true _ A12.out).mono ?_); rintro e w' ⟨rfl, ⟨nd, rfl⟩⟩; (try exact dd__)))
      repeat (go_quiet (first | (go_at_call 54; (with_reducible refine (impl_timeOk.calls a1_5 true _ A12.out).mono ?_); rintro e w' ⟨rfl, ⟨nd, rfl⟩⟩; (try exact dd__))); try go_wp2_with (first | (go_at_call 54; (with_reducible refine (impl_timeOk.calls a1_5 true _ A12.out).mono ?_); rintro e w' ⟨rfl, ⟨nd, rfl⟩⟩; (try exact dd__))))
      go_meet
      case rel => exact ⟨_, (true), (rf__), H', ⟨by first | omega | exact Nat.le_refl _⟩, ⟨blk__ BK457.out⟩, ⟨blk__ BK458.out⟩, ⟨bel__⟩⟩
     ·rw [if_neg c14] at H
      have c14b0 : decide (23200 < (l1_1.length : Int)) = false := decide_eq_false c14
      have c14b1 : decide (23200 < l1_1.length) = false := decide_eq_false (by omega)
      clear c14
      have H' := Aside0.mk H
      clear H
      have hnb17 := NB458_457.out
      have hnc17 := NB457_458.out
      obtain ⟨hcz18_0, hcz18_1, hcz18_2, hcz18_3, hcz18_4, hcz18_5, hfz18_0, hfz18_1, hfz18_2, hfz18_3, hfz18_4, hfz18_5⟩ := bk6__ BK458.out
      go_wp2_with (first | (go_at_call 54; (with_reducible refine (impl_timeOk.calls a1_5 true _ A12.out).mono ?_); rintro e w' ⟨rfl, ⟨nd, rfl⟩⟩; (try exact dd__)))
      repeat (go_quiet (first | (go_at_call 54; (with_reducible refine (impl_timeOk.calls a1_5 true _ A12.out).mono ?_); rintro e w' ⟨rfl, ⟨nd, rfl⟩⟩; (try exact dd__))); try go_wp2_with (first | (go_at_call 54; (with_reducible refine (impl_timeOk.calls a1_5 true _ A12.out).mono ?_); rintro e w' ⟨rfl, ⟨nd, rfl⟩⟩; (try exact dd__))))
      go_meet
      case rel => exact ⟨_, (decide ((l1_2.length : Int) > 600)), (rf__), H', ⟨by first | omega | exact Nat.le_refl _⟩, ⟨blk__ BK457.out⟩, ⟨blk__ BK458.out⟩, ⟨bel__⟩⟩
    ·replace c13 := Bool.eq_false_iff.mpr c13
     subst c13
     have H1 : (impl_State_roundOk.j0 k true a0_0 a0_1 a0_2 a0_3 l0_4 l0_5 l0_6 a1_0 l1_1 l1_2 a1_3 a1_4 a1_5) = some r := by rw [if_neg (show ¬ (false = true) by decide)] at H; exact H
     clear H
     have H := H1
     clear H1
     have H' := Aside0.mk H
     clear H
     have hnb19 := NB458_457.out
     have hnc19 := NB457_458.out
     obtain ⟨hcz20_0, hcz20_1, hcz20_2, hcz20_3, hcz20_4, hcz20_5, hfz20_0, hfz20_1, hfz20_2, hfz20_3, hfz20_4, hfz20_5⟩ := bk6__ BK458.out
     go_wp2_with (first | (go_at_call 54; (with_reducible refine (impl_timeOk.calls a1_5 false _ A12.out).mono ?_); rintro e w' ⟨rfl, ⟨nd, rfl⟩⟩; (try exact dd__)))
     repeat (go_quiet (first | (go_at_call 54; (with_reducible refine (impl_timeOk.calls a1_5 false _ A12.out).mono ?_); rintro e w' ⟨rfl, ⟨nd, rfl⟩⟩; (try exact dd__))); try go_wp2_with (first | (go_at_call 54; (with_reducible refine (impl_timeOk.calls a1_5 false _ A12.out).mono ?_); rintro e w' ⟨rfl, ⟨nd, rfl⟩⟩; (try exact dd__))))
     go_meet
     case rel => exact ⟨_, (true), (rf__), H', ⟨by first | omega | exact Nat.le_refl _⟩, ⟨blk__ BK457.out⟩, ⟨blk__ BK458.out⟩, ⟨bel__⟩⟩
 case rest =>
  clear HC3
  try clear c1
  try clear p2
  try clear c6
  try clear c6b0
  try clear c7
  try clear c9
  try clear c9b0
  try clear c10
  try clear c13
  try clear c14
  try clear c14b0
  try clear c14b1
  try clear c15
  try clear c17
  try clear c19
  try clear hcz11_0 hcz11_1 hcz11_2 hcz11_3 hcz11_4 hcz11_5 hfz11_0 hfz11_1 hfz11_2 hfz11_3 hfz11_4 hfz11_5
  try clear hcz16_0 hcz16_1 hcz16_2 hcz16_3 hcz16_4 hcz16_5 hfz16_0 hfz16_1 hfz16_2 hfz16_3 hfz16_4 hfz16_5
  try clear hcz18_0 hcz18_1 hcz18_2 hcz18_3 hcz18_4 hcz18_5 hfz18_0 hfz18_1 hfz18_2 hfz18_3 hfz18_4 hfz18_5
  try clear hcz20_0 hcz20_1 hcz20_2 hcz20_3 hcz20_4 hcz20_5 hfz20_0 hfz20_1 hfz20_2 hfz20_3 hfz20_4 hfz20_5
  try clear hcz8_0 hcz8_1 hcz8_2 hcz8_3 hcz8_4 hcz8_5 hfz8_0 hfz8_1 hfz8_2 hfz8_3 hfz8_4 hfz8_5
  obtain ⟨kq, x35_2, rfl, HA, HJ2, BK457, BK458, HB⟩ := hcut
  cases kq with
  | zero => exact absurd HA.out (by simp [impl_State_roundOk.j0])
  | succ kj2 =>
   have H := HA.out
   clear HA
   simp only [impl_State_roundOk.j0] at H
   by_cases c21 : x35_2 = true
   ·subst c21
    rw [if_pos rfl] at H
    obtain rfl := Option.some.inj H
    go_wp2
    repeat (go_quiet (fail); try go_wp2)
    go_ret
    exact ⟨ee__, bel__⟩
   ·replace c21 := Bool.eq_false_iff.mpr c21
    subst c21
    have H1 : (impl_State_roundOk.l0 kj2 l1_2 (l1_2.length : Int) 0 a0_0 a0_1 a0_2 a0_3 l0_4 l0_5 l0_6 a1_0 l1_1 l1_2 a1_3 a1_4 a1_5 []) = some r := by rw [if_neg (show ¬ (false = true) by decide)] at H; exact H
    clear H
    have H := H1
    clear H1
    have H' := Aside0.mk H
    clear H
    go_wp2_with (first | ((with_reducible refine gate_dst (N := 36) rfl ?_); refine make_eventS 36 (by rfl) (by rfl) ?_; intro gb460 hg w22 hbox hb; have BK460 := am__ (hbox); have GW460 := am__ ((bsz__ hg bel__ : w.heap.size ≤ gb460)); have GE460 := am__ ((bsz__ hg bel__ : w.heap.size ≤ gb460)); replace HB := am__ (below_step (bel__) hb); have NB457_460 := am__ ((nlt__ hg (blk_lt (g := gst) (o := .cells #[.int .i64 a0_0, .int .i64 a0_1, .int .i64 a0_2, .int .i64 a0_3, .slice A0_4 l0_4.length c0_4, .slice A0_5 l0_5.length c0_5, .slice A0_6 l0_6.length c0_6] 33 (0, 0)) (blk__ BK457.out)) : gst ≠ gb460)); have NB460_457 := am__ ((ngt__ hg (blk_lt (g := gst) (o := .cells #[.int .i64 a0_0, .int .i64 a0_1, .int .i64 a0_2, .int .i64 a0_3, .slice A0_4 l0_4.length c0_4, .slice A0_5 l0_5.length c0_5, .slice A0_6 l0_6.length c0_6] 33 (0, 0)) (blk__ BK457.out)) : gb460 ≠ gst)); replace BK457 := am__ (blk_below (g := gst) (o := .cells #[.int .i64 a0_0, .int .i64 a0_1, .int .i64 a0_2, .int .i64 a0_3, .slice A0_4 l0_4.length c0_4, .slice A0_5 l0_5.length c0_5, .slice A0_6 l0_6.length c0_6] 33 (0, 0)) (blk__ BK457.out) hb); have NB458_460 := am__ ((nl__ hg BK458.out : gb458 ≠ gb460)); have NB460_458 := am__ ((ng__ hg BK458.out : gb460 ≠ gb458)); replace BK458 := am__ (blb__ BK458.out hb); clear hb hbox hg; have hnb23 := NB458_457.out; have hnc23 := NB457_458.out; have hnb24 := NB458_460.out; have hnc24 := NB460_458.out; obtain ⟨hcz25_0, hcz25_1, hcz25_2, hcz25_3, hcz25_4, hcz25_5, hfz25_0, hfz25_1, hfz25_2, hfz25_3, hfz25_4, hfz25_5⟩ := bk6__ BK458.out))
    repeat (go_quiet (first | ((with_reducible refine gate_dst (N := 36) rfl ?_); refine make_eventS 36 (by rfl) (by rfl) ?_; intro gb460 hg w22 hbox hb; have BK460 := am__ (hbox); have GW460 := am__ ((bsz__ hg bel__ : w.heap.size ≤ gb460)); have GE460 := am__ ((bsz__ hg bel__ : w.heap.size ≤ gb460)); replace HB := am__ (below_step (bel__) hb); have NB457_460 := am__ ((nlt__ hg (blk_lt (g := gst) (o := .cells #[.int .i64 a0_0, .int .i64 a0_1, .int .i64 a0_2, .int .i64 a0_3, .slice A0_4 l0_4.length c0_4, .slice A0_5 l0_5.length c0_5, .slice A0_6 l0_6.length c0_6] 33 (0, 0)) (blk__ BK457.out)) : gst ≠ gb460)); have NB460_457 := am__ ((ngt__ hg (blk_lt (g := gst) (o := .cells #[.int .i64 a0_0, .int .i64 a0_1, .int .i64 a0_2, .int .i64 a0_3, .slice A0_4 l0_4.length c0_4, .slice A0_5 l0_5.length c0_5, .slice A0_6 l0_6.length c0_6] 33 (0, 0)) (blk__ BK457.out)) : gb460 ≠ gst)); replace BK457 := am__ (blk_below (g := gst) (o := .cells #[.int .i64 a0_0, .int .i64 a0_1, .int .i64 a0_2, .int .i64 a0_3, .slice A0_4 l0_4.length c0_4, .slice A0_5 l0_5.length c0_5, .slice A0_6 l0_6.length c0_6] 33 (0, 0)) (blk__ BK457.out) hb); have NB458_460 := am__ ((nl__ hg BK458.out : gb458 ≠ gb460)); have NB460_458 := am__ ((ng__ hg BK458.out : gb460 ≠ gb458)); replace BK458 := am__ (blb__ BK458.out hb); clear hb hbox hg; have hnb23 := NB458_457.out; have hnc23 := NB457_458.out; have hnb24 := NB458_460.out; have hnc24 := NB460_458.out; obtain ⟨hcz25_0, hcz25_1, hcz25_2, hcz25_3, hcz25_4, hcz25_5, hfz25_0, hfz25_1, hfz25_2, hfz25_3, hfz25_4, hfz25_5⟩ := bk6__ BK458.out)); try go_wp2_with (first | ((with_reducible refine gate_dst (N := 36) rfl ?_); refine make_eventS 36 (by rfl) (by rfl) ?_; intro gb460 hg w22 hbox hb; have BK460 := am__ (hbox); have GW460 := am__ ((bsz__ hg bel__ : w.heap.size ≤ gb460)); have GE460 := am__ ((bsz__ hg bel__ : w.heap.size ≤ gb460)); replace HB := am__ (below_step (bel__) hb); have NB457_460 := am__ ((nlt__ hg (blk_lt (g := gst) (o := .cells #[.int .i64 a0_0, .int .i64 a0_1, .int .i64 a0_2, .int .i64 a0_3, .slice A0_4 l0_4.length c0_4, .slice A0_5 l0_5.length c0_5, .slice A0_6 l0_6.length c0_6] 33 (0, 0)) (blk__ BK457.out)) : gst ≠ gb460)); have NB460_457 := am__ ((ngt__ hg (blk_lt (g := gst) (o := .cells #[.int .i64 a0_0, .int .i64 a0_1, .int .i64 a0_2, .int .i64 a0_3, .slice A0_4 l0_4.length c0_4, .slice A0_5 l0_5.length c0_5, .slice A0_6 l0_6.length c0_6] 33 (0, 0)) (blk__ BK457.out)) : gb460 ≠ gst)); replace BK457 := am__ (blk_below (g := gst) (o := .cells #[.int .i64 a0_0, .int .i64 a0_1, .int .i64 a0_2, .int .i64 a0_3, .slice A0_4 l0_4.length c0_4, .slice A0_5 l0_5.length c0_5, .slice A0_6 l0_6.length c0_6] 33 (0, 0)) (blk__ BK457.out) hb); have NB458_460 := am__ ((nl__ hg BK458.out : gb458 ≠ gb460)); have NB460_458 := am__ ((ng__ hg BK458.out : gb460 ≠ gb458)); replace BK458 := am__ (blb__ BK458.out hb); clear hb hbox hg; have hnb23 := NB458_457.out; have hnc23 := NB457_458.out; have hnb24 := NB458_460.out; have hnc24 := NB460_458.out; obtain ⟨hcz25_0, hcz25_1, hcz25_2, hcz25_3, hcz25_4, hcz25_5, hfz25_0, hfz25_1, hfz25_2, hfz25_3, hfz25_4, hfz25_5⟩ := bk6__ BK458.out)))
    go_loopg [40] kj2 (fun kq v40 w' => ∃ (x40_2 : Int) (x461000_2 : List ByteArray), v40 = .int .i64 x40_2 ∧ Aside0 (impl_State_roundOk.l0 kq l1_2 (l1_2.length : Int) x40_2 a0_0 a0_1 a0_2 a0_3 l0_4 l0_5 l0_6 a1_0 l1_1 l1_2 a1_3 a1_4 a1_5 x461000_2 = some r) ∧ Aside0 (kq ≤ kj2) ∧ Aside0 (w'.heap[gst]? = some (.cells #[.int .i64 a0_0, .int .i64 a0_1, .int .i64 a0_2, .int .i64 a0_3, (.slice A0_4 l0_4.length c0_4), (.slice A0_5 l0_5.length c0_5), (.slice A0_6 l0_6.length c0_6)] 33 (0, 0))) ∧ Aside0 (w'.heap[gb458]? = some (.cells #[.int .i64 a1_0, (.slice A1_1 l1_1.length c1_1), (.slice A1_2 l1_2.length c1_2), .int .i64 a1_3, .int .i64 a1_4, .int .i64 a1_5] 43 (0, 0))) ∧ Aside0 (w'.heap[gb460]? = some (mobjS x461000_2)) ∧ Aside0 (Below w.heap.size w w'))
    case atStart => exact ⟨(0), ([]), (rf__), H', ⟨Nat.le_refl _⟩, ⟨blk__ BK457.out⟩, ⟨blk__ BK458.out⟩, ⟨blk__ BK460.out⟩, ⟨bel__⟩⟩
    case round =>
     clear H'
     try clear c1
     try clear c2
     try clear p2
     try clear c6
     try clear c6b0
     try clear c7
     try clear c9
     try clear c9b0
     try clear c10
     try clear c13
     try clear c14
     try clear c14b0
     try clear c14b1
     try clear c15
     try clear c17
     try clear c19
     try clear c21
     try clear c23
     try clear c24
     try clear hcz11_0 hcz11_1 hcz11_2 hcz11_3 hcz11_4 hcz11_5 hfz11_0 hfz11_1 hfz11_2 hfz11_3 hfz11_4 hfz11_5
     try clear hcz16_0 hcz16_1 hcz16_2 hcz16_3 hcz16_4 hcz16_5 hfz16_0 hfz16_1 hfz16_2 hfz16_3 hfz16_4 hfz16_5
     try clear hcz18_0 hcz18_1 hcz18_2 hcz18_3 hcz18_4 hcz18_5 hfz18_0 hfz18_1 hfz18_2 hfz18_3 hfz18_4 hfz18_5
     try clear hcz20_0 hcz20_1 hcz20_2 hcz20_3 hcz20_4 hcz20_5 hfz20_0 hfz20_1 hfz20_2 hfz20_3 hfz20_4 hfz20_5
     try clear hcz25_0 hcz25_1 hcz25_2 hcz25_3 hcz25_4 hcz25_5 hfz25_0 hfz25_1 hfz25_2 hfz25_3 hfz25_4 hfz25_5
     try clear hcz8_0 hcz8_1 hcz8_2 hcz8_3 hcz8_4 hcz8_5 hfz8_0 hfz8_1 hfz8_2 hfz8_3 hfz8_4 hfz8_5
     try clear p2
     obtain ⟨x40_2, x461000_2, rfl, HA, HK2, BK457, BK458, BK460, HB⟩ := hrel
     cases gk with
     | zero => exact absurd HA.out (by simp [impl_State_roundOk.l0])
     | succ k2 =>
      have H := HA.out
      clear HA
      simp only [impl_State_roundOk.l0] at H
      by_cases c26 : x40_2 < (l1_2.length : Int)
      ·rw [if_pos c26] at H
       have c26b0 := decide_eq_true c26
       clear c26
       by_cases c27 : 0 ≤ x40_2
       ·rw [if_pos c27] at H
        have c27b0 := decide_eq_true c27
        clear c27
        by_cases c28 : x40_2 < (l1_2.length : Int)
        ·rw [if_pos c28] at H
         have c28b0 := decide_eq_true c28
         clear c28
         have HC29 := Aside0.mk H
         clear H
         have p461 : 0 ≤ (x40_2 : Int) := of_decide_eq_true (by first | (with_reducible assumption) | assumption)
         have q461 : x40_2 < (l1_2.length : Int) := of_decide_eq_true (by first | (with_reducible assumption) | assumption)
         obtain ⟨ad461, e461, hx461_0⟩ := Kd.at_string HR1_2.out x40_2 p461 q461
         cases e461
         try replace hx461_0 := hb__ HB.out hx461_0
         replace p461 := eq_true p461
         replace q461 := eq_true q461
         go_upto_region 7 with (fail)
         repeat (go_quiet (fail); go_upto_region 7 with (fail))
         go_cut [55] (fun v55 wc => ∃ (kq : Nat) (x55_28 : Bool), v55 = .bool x55_28 ∧ Aside0 (impl_State_roundOk.j2 kq l1_2 (l1_2.length : Int) x40_2 x55_28 a0_0 a0_1 a0_2 a0_3 l0_4 l0_5 l0_6 a1_0 l1_1 l1_2 a1_3 a1_4 a1_5 x461000_2 = some r) ∧ Aside0 (kq ≤ k2) ∧ Aside0 (wc.heap[gst]? = some (.cells #[.int .i64 a0_0, .int .i64 a0_1, .int .i64 a0_2, .int .i64 a0_3, (.slice A0_4 l0_4.length c0_4), (.slice A0_5 l0_5.length c0_5), (.slice A0_6 l0_6.length c0_6)] 33 (0, 0))) ∧ Aside0 (wc.heap[gb458]? = some (.cells #[.int .i64 a1_0, (.slice A1_1 l1_1.length c1_1), (.slice (some ad461) l1_2.length c1_2), .int .i64 a1_3, .int .i64 a1_4, .int .i64 a1_5] 43 (0, 0))) ∧ Aside0 (wc.heap[gb460]? = some (mobjS x461000_2)) ∧ Aside0 (Below w.heap.size w wc))
         case first =>
          have H := HC29.out
          clear HC29
          by_cases c30 : ((rdOf ByteArray.empty l1_2 x40_2).size : Int) = a0_0
          ·rw [if_pos c30] at H
           have c30b0 : (((rdOf ByteArray.empty l1_2 x40_2).size : Int) == a0_0) = true := beq_iff_eq.mpr c30
           have c30b1 : (((rdOf ByteArray.empty l1_2 x40_2).size : Int) != a0_0) = false := bne_eq_false_iff_eq.mpr c30
           clear c30
           (first | rw [c30b0] | (simp only [i64_w, i32_w]; rw [c30b0]) | skip)
           have H' := Aside0.mk H
           clear H
           have hnb31 := NB457_458.out
           have hnc31 := NB458_457.out
           have hnb32 := NB457_460.out
           have hnc32 := NB460_457.out
           obtain ⟨hcz33_0, hcz33_1, hcz33_2, hcz33_3, hcz33_4, hcz33_5, hcz33_6, hfz33_0, hfz33_1, hfz33_2, hfz33_3, hfz33_4, hfz33_5, hfz33_6⟩ := bk7__ BK457.out
           have hnb34 := NB460_458.out
           have hnc34 := NB458_460.out
           go_wp2_with (first | ((with_reducible refine gate_look rfl ?_); (try (refine gate_guard (by rfl) ?_; dsimp only)); refine look_eventS BK460.out (by rfl) (by rfl) Try.underlying104 Try.underlying9 (by kernel_rfl) (by rfl) (by rfl) ?_))
           repeat (go_quiet (fail); try go_wp2)
           go_meet
           case rel => exact ⟨_, (x461000_2.contains (rdOf ByteArray.empty l1_2 x40_2)), (rf__), H', ⟨by have := HJ2.out; have := HK2.out; first | omega | exact Nat.le_refl _⟩, ⟨blk__ BK457.out⟩, ⟨blk__ BK458.out⟩, ⟨blk__ BK460.out⟩, ⟨bel__⟩⟩
          ·rw [if_neg c30] at H
           have c30b0 : (((rdOf ByteArray.empty l1_2 x40_2).size : Int) == a0_0) = false := beq_eq_false_iff_ne.mpr c30
           have c30b1 : (((rdOf ByteArray.empty l1_2 x40_2).size : Int) != a0_0) = true := bne_iff_ne.mpr c30
           (first | rw [c30b0] | (simp only [i64_w, i32_w]; rw [c30b0]) | skip)
           have H' := Aside0.mk H
           clear H
           have hnb36 := NB457_458.out
           have hnc36 := NB458_457.out
           have hnb37 := NB457_460.out
           have hnc37 := NB460_457.out
           obtain ⟨hcz38_0, hcz38_1, hcz38_2, hcz38_3, hcz38_4, hcz38_5, hcz38_6, hfz38_0, hfz38_1, hfz38_2, hfz38_3, hfz38_4, hfz38_5, hfz38_6⟩ := bk7__ BK457.out
           go_wp2
           repeat (go_quiet (fail); try go_wp2)
           go_meet
           case rel => exact ⟨_, (true), (rf__), H', ⟨by have := HJ2.out; have := HK2.out; first | omega | exact Nat.le_refl _⟩, ⟨blk__ BK457.out⟩, ⟨blk__ BK458.out⟩, ⟨blk__ BK460.out⟩, ⟨bel__⟩⟩
         case rest =>
          clear HC29
          try clear c1
          try clear c2
          try clear p2
          try clear c3
          try clear p4
          try clear q4
          try clear hx4
          try clear c6
          try clear c6b0
          try clear c7
          try clear c9
          try clear c9b0
          try clear c10
          try clear c13
          try clear c14
          try clear c14b0
          try clear c14b1
          try clear c15
          try clear c17
          try clear c19
          try clear c21
          try clear c23
          try clear c24
          try clear c26
          try clear c26b0
          try clear c27
          try clear c27b0
          try clear c28
          try clear c28b0
          try clear c30
          try clear c30b0
          try clear c30b1
          try clear c31
          try clear c32
          try clear c34
          try clear c36
          try clear c37
          try clear hcz11_0 hcz11_1 hcz11_2 hcz11_3 hcz11_4 hcz11_5 hfz11_0 hfz11_1 hfz11_2 hfz11_3 hfz11_4 hfz11_5
          try clear hcz16_0 hcz16_1 hcz16_2 hcz16_3 hcz16_4 hcz16_5 hfz16_0 hfz16_1 hfz16_2 hfz16_3 hfz16_4 hfz16_5
          try clear hcz18_0 hcz18_1 hcz18_2 hcz18_3 hcz18_4 hcz18_5 hfz18_0 hfz18_1 hfz18_2 hfz18_3 hfz18_4 hfz18_5
          try clear hcz20_0 hcz20_1 hcz20_2 hcz20_3 hcz20_4 hcz20_5 hfz20_0 hfz20_1 hfz20_2 hfz20_3 hfz20_4 hfz20_5
          try clear hcz25_0 hcz25_1 hcz25_2 hcz25_3 hcz25_4 hcz25_5 hfz25_0 hfz25_1 hfz25_2 hfz25_3 hfz25_4 hfz25_5
          try clear hcz33_0 hcz33_1 hcz33_2 hcz33_3 hcz33_4 hcz33_5 hcz33_6 hfz33_0 hfz33_1 hfz33_2 hfz33_3 hfz33_4 hfz33_5 hfz33_6
          try clear hcz35_0 hfz35_0
          try clear hcz38_0 hcz38_1 hcz38_2 hcz38_3 hcz38_4 hcz38_5 hcz38_6 hfz38_0 hfz38_1 hfz38_2 hfz38_3 hfz38_4 hfz38_5 hfz38_6
          try clear hcz8_0 hcz8_1 hcz8_2 hcz8_3 hcz8_4 hcz8_5 hfz8_0 hfz8_1 hfz8_2 hfz8_3 hfz8_4 hfz8_5
          try clear hx461_0
          try clear p2
          try clear p461
          try clear q461
          obtain ⟨kq, x55_28, rfl, HA, HJ28, BK457, BK458, BK460, HB⟩ := hcut
          cases kq with
          | zero => exact absurd HA.out (by simp [impl_State_roundOk.j2])
          | succ kj28 =>
           have H := HA.out
           clear HA
           simp only [impl_State_roundOk.j2] at H
           by_cases c39 : x55_28 = true
           ·subst c39
            rw [if_pos rfl] at H
            obtain rfl := Option.some.inj H
            go_wp2
            repeat (go_quiet (fail); try go_wp2)
            go_ret
            exact ⟨ee__, bel__⟩
           ·replace c39 := Bool.eq_false_iff.mpr c39
            subst c39
            have H1 : (impl_State_roundOk.l0 kj28 l1_2 (l1_2.length : Int) (wrap64 (x40_2 + 1)) a0_0 a0_1 a0_2 a0_3 l0_4 l0_5 l0_6 a1_0 l1_1 l1_2 a1_3 a1_4 a1_5 (insS (rdOf ByteArray.empty l1_2 x40_2) x461000_2)) = some r := by rw [if_neg (show ¬ (false = true) by decide)] at H; exact H
            clear H
            have H := H1
            clear H1
            have H' := Aside0.mk H
            clear H
            have hnb40 := NB460_457.out
            have hnc40 := NB457_460.out
            have hnb41 := NB460_458.out
            have hnc41 := NB458_460.out
            go_wp2_with (first | ((with_reducible refine gate_put rfl ?_); refine put_eventS BK460.out (by rfl) (by rfl) Try.underlying104 Try.underlying9 (by rfl) (by rfl) ?_; intro wm hbm hgm; replace BK457 := am__ (blk_grown BK457.out hgm (fun h_ => NB457_460.out (by injection h_))); replace BK458 := am__ (blk_grown BK458.out hgm (fun h_ => NB458_460.out (by injection h_))); replace BK460 := Aside0.mk hbm; replace HB := am__ (Below.grown HB.out hgm HB.out.size (fun k_ e_ => by injection e_ with e_; exact e_ ▸ GE460.out)); clear hbm hgm))
            repeat (go_quiet (fail); try go_wp2)
            go_roundg kj28
            case measure => have := HJ2.out; have := HK2.out; have := HJ28.out; omega
            case rel => exact ⟨(wrap64 (x40_2 + 1)), (insS (rdOf ByteArray.empty l1_2 x40_2) x461000_2), (rf__), H', ⟨by have := HJ2.out; have := HK2.out; have := HJ28.out; omega⟩, ⟨BK457.out⟩, ⟨BK458.out⟩, ⟨BK460.out⟩, ⟨bel__⟩⟩
        ·rw [if_neg c28] at H
         exact absurd H (by simp)
       ·rw [if_neg c27] at H
        exact absurd H (by simp)
      ·rw [if_neg c26] at H
       have c26b0 := decide_eq_false c26
       clear c26
       have H' := Aside0.mk H
       clear H
       have hnb43 := NB458_457.out
       have hnc43 := NB457_458.out
       have hnb44 := NB458_460.out
       have hnc44 := NB460_458.out
       obtain ⟨hcz45_0, hcz45_1, hcz45_2, hcz45_3, hcz45_4, hcz45_5, hfz45_0, hfz45_1, hfz45_2, hfz45_3, hfz45_4, hfz45_5⟩ := bk6__ BK458.out
       go_wp2
       repeat (go_quiet (fail); try go_wp2)
       go_loopg [62] k2 (fun kq v62 w' => ∃ (x62_3 : Int), v62 = .int .i64 x62_3 ∧ Aside0 (impl_State_roundOk.l1 kq l1_1 (l1_1.length : Int) x62_3 a0_0 a0_1 a0_2 a0_3 l0_4 l0_5 l0_6 a1_0 l1_1 l1_2 a1_3 a1_4 a1_5 = some r) ∧ Aside0 (kq ≤ k2) ∧ Aside0 (w'.heap[gst]? = some (.cells #[.int .i64 a0_0, .int .i64 a0_1, .int .i64 a0_2, .int .i64 a0_3, (.slice A0_4 l0_4.length c0_4), (.slice A0_5 l0_5.length c0_5), (.slice A0_6 l0_6.length c0_6)] 33 (0, 0))) ∧ Aside0 (w'.heap[gb458]? = some (.cells #[.int .i64 a1_0, (.slice A1_1 l1_1.length c1_1), (.slice A1_2 l1_2.length c1_2), .int .i64 a1_3, .int .i64 a1_4, .int .i64 a1_5] 43 (0, 0))) ∧ Aside0 (w'.heap[gb460]? = some (mobjS x461000_2)) ∧ Aside0 (Below w.heap.size w w'))
       case atStart => exact ⟨(0), (rf__), H', ⟨Nat.le_refl _⟩, ⟨blk__ BK457.out⟩, ⟨blk__ BK458.out⟩, ⟨blk__ BK460.out⟩, ⟨bel__⟩⟩
       case round =>
        clear H'
        try clear c1
        try clear c2
        try clear p2
        try clear c3
        try clear c4
        try clear p4
        try clear q4
        try clear hx4
        try clear c6
        try clear c6b0
        try clear p6
        try clear c7
        try clear c9
        try clear c9b0
        try clear c10
        try clear c13
        try clear c14
        try clear c14b0
        try clear c14b1
        try clear c15
        try clear c17
        try clear c19
        try clear c21
        try clear c23
        try clear c24
        try clear c26
        try clear c26b0
        try clear c27
        try clear c27b0
        try clear c28
        try clear c28b0
        try clear c30
        try clear c30b0
        try clear c30b1
        try clear c31
        try clear c32
        try clear c34
        try clear c36
        try clear c37
        try clear c39
        try clear c40
        try clear c41
        try clear c43
        try clear c44
        try clear hcz11_0 hcz11_1 hcz11_2 hcz11_3 hcz11_4 hcz11_5 hfz11_0 hfz11_1 hfz11_2 hfz11_3 hfz11_4 hfz11_5
        try clear hcz16_0 hcz16_1 hcz16_2 hcz16_3 hcz16_4 hcz16_5 hfz16_0 hfz16_1 hfz16_2 hfz16_3 hfz16_4 hfz16_5
        try clear hcz18_0 hcz18_1 hcz18_2 hcz18_3 hcz18_4 hcz18_5 hfz18_0 hfz18_1 hfz18_2 hfz18_3 hfz18_4 hfz18_5
        try clear hcz20_0 hcz20_1 hcz20_2 hcz20_3 hcz20_4 hcz20_5 hfz20_0 hfz20_1 hfz20_2 hfz20_3 hfz20_4 hfz20_5
        try clear hcz25_0 hcz25_1 hcz25_2 hcz25_3 hcz25_4 hcz25_5 hfz25_0 hfz25_1 hfz25_2 hfz25_3 hfz25_4 hfz25_5
        try clear hcz33_0 hcz33_1 hcz33_2 hcz33_3 hcz33_4 hcz33_5 hcz33_6 hfz33_0 hfz33_1 hfz33_2 hfz33_3 hfz33_4 hfz33_5 hfz33_6
        try clear hcz35_0 hfz35_0
        try clear hcz38_0 hcz38_1 hcz38_2 hcz38_3 hcz38_4 hcz38_5 hcz38_6 hfz38_0 hfz38_1 hfz38_2 hfz38_3 hfz38_4 hfz38_5 hfz38_6
        try clear hcz42_0 hfz42_0
        try clear hcz45_0 hcz45_1 hcz45_2 hcz45_3 hcz45_4 hcz45_5 hfz45_0 hfz45_1 hfz45_2 hfz45_3 hfz45_4 hfz45_5
        try clear hcz8_0 hcz8_1 hcz8_2 hcz8_3 hcz8_4 hcz8_5 hfz8_0 hfz8_1 hfz8_2 hfz8_3 hfz8_4 hfz8_5
        try clear hx461_0
        try clear p2
        try clear p4
        try clear p461
        try clear q4
        try clear q461
        obtain ⟨x62_3, rfl, HA, HK3, BK457, BK458, BK460, HB⟩ := hrel
        cases gk with
        | zero => exact absurd HA.out (by simp [impl_State_roundOk.l1])
        | succ k3 =>
         have H := HA.out
         clear HA
         simp only [impl_State_roundOk.l1] at H
         by_cases c46 : x62_3 < (l1_1.length : Int)
         ·rw [if_pos c46] at H
          have c46b0 := decide_eq_true c46
          clear c46
          by_cases c47 : 0 ≤ x62_3
          ·rw [if_pos c47] at H
           have c47b0 := decide_eq_true c47
           clear c47
           by_cases c48 : x62_3 < (l1_1.length : Int)
           ·rw [if_pos c48] at H
            have c48b0 := decide_eq_true c48
            clear c48
            by_cases c49 : ((rdOf ByteArray.empty l1_1 x62_3).size : Int) = a0_0
            ·rw [if_pos c49] at H
             have c49b0 : (((rdOf ByteArray.empty l1_1 x62_3).size : Int) == a0_0) = true := beq_iff_eq.mpr c49
             have c49b1 : (((rdOf ByteArray.empty l1_1 x62_3).size : Int) != a0_0) = false := bne_eq_false_iff_eq.mpr c49
             clear c49
             have H' := Aside0.mk H
             clear H
             have p462 : 0 ≤ (x62_3 : Int) := of_decide_eq_true (by first | (with_reducible assumption) | assumption)
             have q462 : x62_3 < (l1_1.length : Int) := of_decide_eq_true (by first | (with_reducible assumption) | assumption)
             obtain ⟨ad462, e462, hx462_0⟩ := Kd.at_string HR1_1.out x62_3 p462 q462
             cases e462
             try replace hx462_0 := hb__ HB.out hx462_0
             replace p462 := eq_true p462
             replace q462 := eq_true q462
             have hnb50 := NB457_458.out
             have hnc50 := NB458_457.out
             have hnb51 := NB457_460.out
             have hnc51 := NB460_457.out
             obtain ⟨hcz52_0, hcz52_1, hcz52_2, hcz52_3, hcz52_4, hcz52_5, hcz52_6, hfz52_0, hfz52_1, hfz52_2, hfz52_3, hfz52_4, hfz52_5, hfz52_6⟩ := bk7__ BK457.out
             go_wp2
             repeat (go_quiet (fail); try go_wp2)
             go_roundg k3
             case measure => have := HJ2.out; have := HK2.out; have := HK3.out; omega
             case rel => exact ⟨(wrap64 (x62_3 + 1)), (rf__), H', ⟨by have := HJ2.out; have := HK2.out; have := HK3.out; omega⟩, ⟨blk__ BK457.out⟩, ⟨blk__ BK458.out⟩, ⟨blk__ BK460.out⟩, ⟨bel__⟩⟩
            ·rw [if_neg c49] at H
             have c49b0 : (((rdOf ByteArray.empty l1_1 x62_3).size : Int) == a0_0) = false := beq_eq_false_iff_ne.mpr c49
             have c49b1 : (((rdOf ByteArray.empty l1_1 x62_3).size : Int) != a0_0) = true := bne_iff_ne.mpr c49
             obtain rfl := Option.some.inj H
             have p462 : 0 ≤ (x62_3 : Int) := of_decide_eq_true (by first | (with_reducible assumption) | assumption)
             have q462 : x62_3 < (l1_1.length : Int) := of_decide_eq_true (by first | (with_reducible assumption) | assumption)
             obtain ⟨ad462, e462, hx462_0⟩ := Kd.at_string HR1_1.out x62_3 p462 q462
             cases e462
             try replace hx462_0 := hb__ HB.out hx462_0
             replace p462 := eq_true p462
             replace q462 := eq_true q462
             have hnb53 := NB457_458.out
             have hnc53 := NB458_457.out
             have hnb54 := NB457_460.out
             have hnc54 := NB460_457.out
             obtain ⟨hcz55_0, hcz55_1, hcz55_2, hcz55_3, hcz55_4, hcz55_5, hcz55_6, hfz55_0, hfz55_1, hfz55_2, hfz55_3, hfz55_4, hfz55_5, hfz55_6⟩ := bk7__ BK457.out
             go_wp2
             repeat (go_quiet (fail); try go_wp2)
             go_ret
             exact ⟨ee__, bel__⟩
           ·rw [if_neg c48] at H
            exact absurd H (by simp)
          ·rw [if_neg c47] at H
           exact absurd H (by simp)
         ·rw [if_neg c46] at H
          have c46b0 := decide_eq_false c46
          clear c46
          by_cases c56 : a1_0 = 0
          ·rw [if_pos c56] at H
           have c56b0 : (a1_0 == 0) = true := beq_iff_eq.mpr c56
           have c56b1 : (a1_0 != 0) = false := bne_eq_false_iff_eq.mpr c56
           clear c56
           by_cases c57 : (wrap64 ((l1_1.length : Int) + (l1_2.length : Int))) = 0
           ·rw [if_pos c57] at H
            have c57b0 : ((wrap64 ((l1_1.length : Int) + (l1_2.length : Int))) == 0) = true := beq_iff_eq.mpr c57
            have c57b1 : ((wrap64 ((l1_1.length : Int) + (l1_2.length : Int))) != 0) = false := bne_eq_false_iff_eq.mpr c57
            clear c57
            by_cases c58 : a1_3 = 0
            ·rw [if_pos c58] at H
             have c58b0 : (a1_3 == 0) = true := beq_iff_eq.mpr c58
             have c58b1 : (a1_3 != 0) = false := bne_eq_false_iff_eq.mpr c58
             clear c58
             obtain rfl := Option.some.inj H
             have hnb59 := NB458_457.out
             have hnc59 := NB457_458.out
             have hnb60 := NB458_460.out
             have hnc60 := NB460_458.out
             obtain ⟨hcz61_0, hcz61_1, hcz61_2, hcz61_3, hcz61_4, hcz61_5, hfz61_0, hfz61_1, hfz61_2, hfz61_3, hfz61_4, hfz61_5⟩ := bk6__ BK458.out
             go_wp2
             repeat (go_quiet (fail); try go_wp2)
             go_ret
             exact ⟨ee__, bel__⟩
            ·rw [if_neg c58] at H
             have c58b0 : (a1_3 == 0) = false := beq_eq_false_iff_ne.mpr c58
             have c58b1 : (a1_3 != 0) = true := bne_iff_ne.mpr c58
             obtain rfl := Option.some.inj H
             have hnb62 := NB458_457.out
             have hnc62 := NB457_458.out
             have hnb63 := NB458_460.out
             have hnc63 := NB460_458.out
             obtain ⟨hcz64_0, hcz64_1, hcz64_2, hcz64_3, hcz64_4, hcz64_5, hfz64_0, hfz64_1, hfz64_2, hfz64_3, hfz64_4, hfz64_5⟩ := bk6__ BK458.out
             go_wp2
             repeat (go_quiet (fail); try go_wp2)
             go_ret
             exact ⟨ee__, bel__⟩
           ·rw [if_neg c57] at H
            have c57b0 : ((wrap64 ((l1_1.length : Int) + (l1_2.length : Int))) == 0) = false := beq_eq_false_iff_ne.mpr c57
            have c57b1 : ((wrap64 ((l1_1.length : Int) + (l1_2.length : Int))) != 0) = true := bne_iff_ne.mpr c57
            obtain rfl := Option.some.inj H
            have hnb65 := NB458_457.out
            have hnc65 := NB457_458.out
            have hnb66 := NB458_460.out
            have hnc66 := NB460_458.out
            obtain ⟨hcz67_0, hcz67_1, hcz67_2, hcz67_3, hcz67_4, hcz67_5, hfz67_0, hfz67_1, hfz67_2, hfz67_3, hfz67_4, hfz67_5⟩ := bk6__ BK458.out
            go_wp2
            repeat (go_quiet (fail); try go_wp2)
            go_ret
            exact ⟨ee__, bel__⟩
          ·rw [if_neg c56] at H
           have c56b0 : (a1_0 == 0) = false := beq_eq_false_iff_ne.mpr c56
           have c56b1 : (a1_0 != 0) = true := bne_iff_ne.mpr c56
           by_cases c68 : a1_3 ≥ 0
           ·rw [if_pos c68] at H
            have c68b0 : decide (0 ≤ a1_3) = true := decide_eq_true c68
            clear c68
            by_cases c69 : a1_3 ≤ a0_3
            ·rw [if_pos c69] at H
             have c69b0 := decide_eq_true c69
             clear c69
             by_cases c70 : a1_4 ≥ 1
             ·rw [if_pos c70] at H
              have c70b0 : decide (1 ≤ a1_4) = true := decide_eq_true c70
              clear c70
              by_cases c71 : a1_4 ≤ (wrap64 (a1_3 + 1))
              ·rw [if_pos c71] at H
               have c71b0 := decide_eq_true c71
               clear c71
               by_cases c72 : a1_0 = 1
               ·rw [if_pos c72] at H
                have c72b0 : (a1_0 == 1) = true := beq_iff_eq.mpr c72
                have c72b1 : (a1_0 != 1) = false := bne_eq_false_iff_eq.mpr c72
                clear c72
                obtain rfl := Option.some.inj H
                have hnb73 := NB458_457.out
                have hnc73 := NB457_458.out
                have hnb74 := NB458_460.out
                have hnc74 := NB460_458.out
                obtain ⟨hcz75_0, hcz75_1, hcz75_2, hcz75_3, hcz75_4, hcz75_5, hfz75_0, hfz75_1, hfz75_2, hfz75_3, hfz75_4, hfz75_5⟩ := bk6__ BK458.out
                have hnb76 := NB457_460.out
                have hnc76 := NB460_457.out
                obtain ⟨hcz77_0, hcz77_1, hcz77_2, hcz77_3, hcz77_4, hcz77_5, hcz77_6, hfz77_0, hfz77_1, hfz77_2, hfz77_3, hfz77_4, hfz77_5, hfz77_6⟩ := bk7__ BK457.out
                go_wp2
                repeat (go_quiet (fail); try go_wp2)
                go_ret
                exact ⟨ee__, bel__⟩
               ·rw [if_neg c72] at H
                have c72b0 : (a1_0 == 1) = false := beq_eq_false_iff_ne.mpr c72
                have c72b1 : (a1_0 != 1) = true := bne_iff_ne.mpr c72
                obtain rfl := Option.some.inj H
                have hnb78 := NB458_457.out
                have hnc78 := NB457_458.out
                have hnb79 := NB458_460.out
                have hnc79 := NB460_458.out
                obtain ⟨hcz80_0, hcz80_1, hcz80_2, hcz80_3, hcz80_4, hcz80_5, hfz80_0, hfz80_1, hfz80_2, hfz80_3, hfz80_4, hfz80_5⟩ := bk6__ BK458.out
                have hnb81 := NB457_460.out
                have hnc81 := NB460_457.out
                obtain ⟨hcz82_0, hcz82_1, hcz82_2, hcz82_3, hcz82_4, hcz82_5, hcz82_6, hfz82_0, hfz82_1, hfz82_2, hfz82_3, hfz82_4, hfz82_5, hfz82_6⟩ := bk7__ BK457.out
                go_wp2
                repeat (go_quiet (fail); try go_wp2)
                go_ret
                exact ⟨ee__, bel__⟩
              ·rw [if_neg c71] at H
               have c71b0 := decide_eq_false c71
               clear c71
               obtain rfl := Option.some.inj H
               have hnb83 := NB458_457.out
               have hnc83 := NB457_458.out
               have hnb84 := NB458_460.out
               have hnc84 := NB460_458.out
               obtain ⟨hcz85_0, hcz85_1, hcz85_2, hcz85_3, hcz85_4, hcz85_5, hfz85_0, hfz85_1, hfz85_2, hfz85_3, hfz85_4, hfz85_5⟩ := bk6__ BK458.out
               have hnb86 := NB457_460.out
               have hnc86 := NB460_457.out
               obtain ⟨hcz87_0, hcz87_1, hcz87_2, hcz87_3, hcz87_4, hcz87_5, hcz87_6, hfz87_0, hfz87_1, hfz87_2, hfz87_3, hfz87_4, hfz87_5, hfz87_6⟩ := bk7__ BK457.out
               go_wp2
               repeat (go_quiet (fail); try go_wp2)
               go_ret
               exact ⟨ee__, bel__⟩
             ·rw [if_neg c70] at H
              have c70b0 : decide (1 ≤ a1_4) = false := decide_eq_false c70
              clear c70
              obtain rfl := Option.some.inj H
              have hnb88 := NB458_457.out
              have hnc88 := NB457_458.out
              have hnb89 := NB458_460.out
              have hnc89 := NB460_458.out
              obtain ⟨hcz90_0, hcz90_1, hcz90_2, hcz90_3, hcz90_4, hcz90_5, hfz90_0, hfz90_1, hfz90_2, hfz90_3, hfz90_4, hfz90_5⟩ := bk6__ BK458.out
              have hnb91 := NB457_460.out
              have hnc91 := NB460_457.out
              obtain ⟨hcz92_0, hcz92_1, hcz92_2, hcz92_3, hcz92_4, hcz92_5, hcz92_6, hfz92_0, hfz92_1, hfz92_2, hfz92_3, hfz92_4, hfz92_5, hfz92_6⟩ := bk7__ BK457.out
              go_wp2
              repeat (go_quiet (fail); try go_wp2)
              go_ret
              exact ⟨ee__, bel__⟩
            ·rw [if_neg c69] at H
             have c69b0 := decide_eq_false c69
             clear c69
             obtain rfl := Option.some.inj H
             have hnb93 := NB458_457.out
             have hnc93 := NB457_458.out
             have hnb94 := NB458_460.out
             have hnc94 := NB460_458.out
             obtain ⟨hcz95_0, hcz95_1, hcz95_2, hcz95_3, hcz95_4, hcz95_5, hfz95_0, hfz95_1, hfz95_2, hfz95_3, hfz95_4, hfz95_5⟩ := bk6__ BK458.out
             have hnb96 := NB457_460.out
             have hnc96 := NB460_457.out
             obtain ⟨hcz97_0, hcz97_1, hcz97_2, hcz97_3, hcz97_4, hcz97_5, hcz97_6, hfz97_0, hfz97_1, hfz97_2, hfz97_3, hfz97_4, hfz97_5, hfz97_6⟩ := bk7__ BK457.out
             go_wp2
             repeat (go_quiet (fail); try go_wp2)
             go_ret
             exact ⟨ee__, bel__⟩
           ·rw [if_neg c68] at H
            have c68b0 : decide (0 ≤ a1_3) = false := decide_eq_false c68
            clear c68
            obtain rfl := Option.some.inj H
            have hnb98 := NB458_457.out
            have hnc98 := NB457_458.out
            have hnb99 := NB458_460.out
            have hnc99 := NB460_458.out
            obtain ⟨hcz100_0, hcz100_1, hcz100_2, hcz100_3, hcz100_4, hcz100_5, hfz100_0, hfz100_1, hfz100_2, hfz100_3, hfz100_4, hfz100_5⟩ := bk6__ BK458.out
            go_wp2
            repeat (go_quiet (fail); try go_wp2)
            go_ret
            exact ⟨ee__, bel__⟩
end Go.Proofs.Ytcijlemojododaa.P

namespace Go.Proofs.Ytcijlemojododaa.P
open Go.RowKit Go.Proofs.YtcijlemojododaaW.PrintWords Go.Proofs.YtcijlemojododaaW.PrintLast Go.Proofs.YtcijlemojododaaW.PrintMore
attribute [local go_sem] max2_int min2_int max_two min_two max_three min_three max_four min_four   -- for this text's walks alone
set_option linter.unusedVariables false
set_option linter.unusedSimpArgs false
/-! ### impl_ValidRound: function 20 -/
def impl_ValidRound.f (k : Nat) (a0_0 : Int) (a0_1 : Int) (a0_2 : Int) (a0_3 : Int) (l0_4 : List (S91)) (l0_5 : List (S82)) (l0_6 : List (S85)) (a1_0 : Int) (l1_1 : List ByteArray) (l1_2 : List ByteArray) (a1_3 : Int) (a1_4 : Int) (a1_5 : Int) : Option (Bool) := (impl_ValidState.f k a0_0 a0_1 a0_2 a0_3 l0_4 l0_5 l0_6).bind fun t465 => (if t465 = true then ((impl_State_roundOk.f k a0_0 a0_1 a0_2 a0_3 l0_4 l0_5 l0_6 a1_0 l1_1 l1_2 a1_3 a1_4 a1_5).bind fun t466 => (some t466)) else (some false))
set_option maxHeartbeats 8000000 in
set_option maxRecDepth 100000 in
theorem impl_ValidRound.calls (k : Nat) (a0_0 : Int) (a0_1 : Int) (a0_2 : Int) (a0_3 : Int) (A0_4 : Option Addr) (c0_4 : Nat) (l0_4 : List (S91)) (A0_5 : Option Addr) (c0_5 : Nat) (l0_5 : List (S82)) (A0_6 : Option Addr) (c0_6 : Nat) (l0_6 : List (S85)) (a1_0 : Int) (A1_1 : Option Addr) (c1_1 : Nat) (l1_1 : List ByteArray) (A1_2 : Option Addr) (c1_2 : Nat) (l1_2 : List ByteArray) (a1_3 : Int) (a1_4 : Int) (a1_5 : Int) (r : Bool) (w : World) (hr0_4 : Kd.C k91 w A0_4 l0_4.length l0_4) (hc0_4 : l0_4.length ≤ c0_4) (hr0_5 : Kd.C k82 w A0_5 l0_5.length l0_5) (hc0_5 : l0_5.length ≤ c0_5) (hr0_6 : Kd.C k85 w A0_6 l0_6.length l0_6) (hc0_6 : l0_6.length ≤ c0_6) (hr1_1 : Kd.C Kd.string w A1_1 l1_1.length l1_1) (hc1_1 : l1_1.length ≤ c1_1) (hr1_2 : Kd.C Kd.string w A1_2 l1_2.length l1_2) (hc1_2 : l1_2.length ≤ c1_2) (h : impl_ValidRound.f k a0_0 a0_1 a0_2 a0_3 l0_4 l0_5 l0_6 a1_0 l1_1 l1_2 a1_3 a1_4 a1_5 = some r) :
  Calls Try.prog 20 #[.agg #[.int .i64 a0_0, .int .i64 a0_1, .int .i64 a0_2, .int .i64 a0_3, .slice A0_4 l0_4.length c0_4, .slice A0_5 l0_5.length c0_5, .slice A0_6 l0_6.length c0_6], .agg #[.int .i64 a1_0, .slice A1_1 l1_1.length c1_1, .slice A1_2 l1_2.length c1_2, .int .i64 a1_3, .int .i64 a1_4, .int .i64 a1_5]] w fun e w' => e = .returned (.bool r) ∧ Below w.heap.size w w' := by
 have hu33 := Try.underlying33
 have hu43 := Try.underlying43
 have HR0_4 := Aside0.mk hr0_4
 have HC0_4 := Aside0.mk hc0_4
 clear hr0_4 hc0_4
 have HR0_5 := Aside0.mk hr0_5
 have HC0_5 := Aside0.mk hc0_5
 clear hr0_5 hc0_5
 have HR0_6 := Aside0.mk hr0_6
 have HC0_6 := Aside0.mk hc0_6
 clear hr0_6 hc0_6
 have HR1_1 := Aside0.mk hr1_1
 have HC1_1 := Aside0.mk hc1_1
 clear hr1_1 hc1_1
 have HR1_2 := Aside0.mk hr1_2
 have HC1_2 := Aside0.mk hc1_2
 clear hr1_2 hc1_2
 have HB := am__ (Below.refl w.heap.size w)
 have H : ((impl_ValidState.f k a0_0 a0_1 a0_2 a0_3 l0_4 l0_5 l0_6).bind fun t465 => (if t465 = true then ((impl_State_roundOk.f k a0_0 a0_1 a0_2 a0_3 l0_4 l0_5 l0_6 a1_0 l1_1 l1_2 a1_3 a1_4 a1_5).bind fun t466 => (some t466)) else (some false))) = some r := h
 clear h
 replace H := Option.bind_eq_some_iff.mp H
 obtain ⟨t465, A30, H⟩ := H
 have A3 := Aside0.mk A30
 clear A30
 by_cases c4 : t465 = true
 ·subst c4
  rw [if_pos rfl] at H
  replace H := Option.bind_eq_some_iff.mp H
  obtain ⟨t466, A50, H⟩ := H
  have A5 := Aside0.mk A50
  clear A50
  obtain rfl := Option.some.inj H
  go_enter Try.func20, Try.ntmps20
  go_wp2_with (first | ((with_reducible refine gate_dst (N := 2) rfl ?_); refine be__ 2 #[.int .i64 a0_0, .int .i64 a0_1, .int .i64 a0_2, .int .i64 a0_3, .slice A0_4 l0_4.length c0_4, .slice A0_5 l0_5.length c0_5, .slice A0_6 l0_6.length c0_6] 33 ?_; intro gb463 hg w6 hbox hb; have BK463 := am__ (hbox); have GW463 := am__ ((bsz__ hg bel__ : w.heap.size ≤ gb463)); have GE463 := am__ ((bsz__ hg bel__ : w.heap.size ≤ gb463)); replace HB := am__ (below_step (bel__) hb); clear hb hbox hg) | ((with_reducible refine gate_dst (N := 3) rfl ?_); refine be__ 3 #[.int .i64 a1_0, .slice A1_1 l1_1.length c1_1, .slice A1_2 l1_2.length c1_2, .int .i64 a1_3, .int .i64 a1_4, .int .i64 a1_5] 43 ?_; intro gb464 hg w7 hbox hb; have BK464 := am__ (hbox); have GW464 := am__ ((bsz__ hg bel__ : w.heap.size ≤ gb464)); have GE464 := am__ ((bsz__ hg bel__ : w.heap.size ≤ gb464)); replace HB := am__ (below_step (bel__) hb); have NB463_464 := am__ ((nl__ hg BK463.out : gb463 ≠ gb464)); have NB464_463 := am__ ((ng__ hg BK463.out : gb464 ≠ gb463)); replace BK463 := am__ (blb__ BK463.out hb); clear hb hbox hg; have hnb8 := NB463_464.out; have hnc8 := NB464_463.out; obtain ⟨hcz9_0, hcz9_1, hcz9_2, hcz9_3, hcz9_4, hcz9_5, hcz9_6, hfz9_0, hfz9_1, hfz9_2, hfz9_3, hfz9_4, hfz9_5, hfz9_6⟩ := bk7__ BK463.out) | ((with_reducible refine gate_callee (f := 13) rfl ?_); refine gl__ (some 6) Try.func13 #[.agg #[.int .i64 a0_0, .int .i64 a0_1, .int .i64 a0_2, .int .i64 a0_3, .slice A0_4 l0_4.length c0_4, .slice A0_5 l0_5.length c0_5, .slice A0_6 l0_6.length c0_6]] ?_; (with_reducible refine (impl_ValidState.calls k a0_0 a0_1 a0_2 a0_3 _ _ l0_4 _ _ l0_5 _ _ l0_6 true _ ?side1 HC0_4.out ?side3 HC0_5.out ?side5 HC0_6.out A3.out).mono ?_); (case side1 => repeat (first | exact (Kd.C_below HR0_4.out HB.out) | (with_reducible refine Kd.C_alloc ?_ _) | (with_reducible refine Kd.C_drewN ?_ _) | (with_reducible refine Kd.C_drew ?_))); (case side3 => repeat (first | exact (Kd.C_below HR0_5.out HB.out) | (with_reducible refine Kd.C_alloc ?_ _) | (with_reducible refine Kd.C_drewN ?_ _) | (with_reducible refine Kd.C_drew ?_))); (case side5 => repeat (first | exact (Kd.C_below HR0_6.out HB.out) | (with_reducible refine Kd.C_alloc ?_ _) | (with_reducible refine Kd.C_drewN ?_ _) | (with_reducible refine Kd.C_drew ?_))); rintro e w10 ⟨rfl, hb⟩; refine ⟨_, rfl, ?_⟩; replace BK463 := am__ (blb__ BK463.out hb); replace BK464 := am__ (blb__ BK464.out hb); replace HB := am__ (below_step (bel__) hb); clear hb; obtain ⟨hcz11_0, hcz11_1, hcz11_2, hcz11_3, hcz11_4, hcz11_5, hfz11_0, hfz11_1, hfz11_2, hfz11_3, hfz11_4, hfz11_5⟩ := bk6__ BK464.out) | (go_at_call 68; (with_reducible refine (impl_State_roundOk.calls k gb463 a0_0 a0_1 a0_2 a0_3 _ _ l0_4 _ _ l0_5 _ _ l0_6 a1_0 _ _ l1_1 _ _ l1_2 a1_3 a1_4 a1_5 t466 _ ?side1 HC0_4.out ?side3 HC0_5.out ?side5 HC0_6.out ?side7 HC1_1.out ?side9 HC1_2.out (blk__ BK463.out) A5.out).mono ?_); (case side1 => repeat (first | exact (Kd.C_below HR0_4.out HB.out) | (with_reducible refine Kd.C_alloc ?_ _) | (with_reducible refine Kd.C_drewN ?_ _) | (with_reducible refine Kd.C_drew ?_))); (case side3 => repeat (first | exact (Kd.C_below HR0_5.out HB.out) | (with_reducible refine Kd.C_alloc ?_ _) | (with_reducible refine Kd.C_drewN ?_ _) | (with_reducible refine Kd.C_drew ?_))); (case side5 => repeat (first | exact (Kd.C_below HR0_6.out HB.out) | (with_reducible refine Kd.C_alloc ?_ _) | (with_reducible refine Kd.C_drewN ?_ _) | (with_reducible refine Kd.C_drew ?_))); (case side7 => repeat (first | exact (Kd.C_below HR1_1.out HB.out) | (with_reducible refine Kd.C_alloc ?_ _) | (with_reducible refine Kd.C_drewN ?_ _) | (with_reducible refine Kd.C_drew ?_))); (case side9 => repeat (first | exact (Kd.C_below HR1_2.out HB.out) | (with_reducible refine Kd.C_alloc ?_ _) | (with_reducible refine Kd.C_drewN ?_ _) | (with_reducible refine Kd.C_drew ?_))); rintro e w12 ⟨rfl, hb⟩; replace BK463 := am__ (blb__ BK463.out hb); replace BK464 := am__ (blb__ BK464.out hb); replace HB := am__ (below_step (bel__) hb); clear hb))
  go_ret
  exact ⟨ee__, bel__⟩
 ·replace c4 := Bool.eq_false_iff.mpr c4
  subst c4
  have H1 : (some false) = some r := by rw [if_neg (show ¬ (false = true) by decide)] at H; exact H
  clear H
  have H := H1
  clear H1
  obtain rfl := Option.some.inj H
  go_enter Try.func20, Try.ntmps20
  go_wp2_with (first | ((with_reducible refine gate_dst (N := 2) rfl ?_); refine be__ 2 #[.int .i64 a0_0, .int .i64 a0_1, .int .i64 a0_2, .int .i64 a0_3, .slice A0_4 l0_4.length c0_4, .slice A0_5 l0_5.length c0_5, .slice A0_6 l0_6.length c0_6] 33 ?_; intro gb463 hg w13 hbox hb; have BK463 := am__ (hbox); have GW463 := am__ ((bsz__ hg bel__ : w.heap.size ≤ gb463)); have GE463 := am__ ((bsz__ hg bel__ : w.heap.size ≤ gb463)); replace HB := am__ (below_step (bel__) hb); clear hb hbox hg) | ((with_reducible refine gate_dst (N := 3) rfl ?_); refine be__ 3 #[.int .i64 a1_0, .slice A1_1 l1_1.length c1_1, .slice A1_2 l1_2.length c1_2, .int .i64 a1_3, .int .i64 a1_4, .int .i64 a1_5] 43 ?_; intro gb464 hg w14 hbox hb; have BK464 := am__ (hbox); have GW464 := am__ ((bsz__ hg bel__ : w.heap.size ≤ gb464)); have GE464 := am__ ((bsz__ hg bel__ : w.heap.size ≤ gb464)); replace HB := am__ (below_step (bel__) hb); have NB463_464 := am__ ((nl__ hg BK463.out : gb463 ≠ gb464)); have NB464_463 := am__ ((ng__ hg BK463.out : gb464 ≠ gb463)); replace BK463 := am__ (blb__ BK463.out hb); clear hb hbox hg; have hnb15 := NB463_464.out; have hnc15 := NB464_463.out; obtain ⟨hcz16_0, hcz16_1, hcz16_2, hcz16_3, hcz16_4, hcz16_5, hcz16_6, hfz16_0, hfz16_1, hfz16_2, hfz16_3, hfz16_4, hfz16_5, hfz16_6⟩ := bk7__ BK463.out) | ((with_reducible refine gate_callee (f := 13) rfl ?_); refine gl__ (some 6) Try.func13 #[.agg #[.int .i64 a0_0, .int .i64 a0_1, .int .i64 a0_2, .int .i64 a0_3, .slice A0_4 l0_4.length c0_4, .slice A0_5 l0_5.length c0_5, .slice A0_6 l0_6.length c0_6]] ?_; (with_reducible refine (impl_ValidState.calls k a0_0 a0_1 a0_2 a0_3 _ _ l0_4 _ _ l0_5 _ _ l0_6 false _ ?side1 HC0_4.out ?side3 HC0_5.out ?side5 HC0_6.out A3.out).mono ?_); (case side1 => repeat (first | exact (Kd.C_below HR0_4.out HB.out) | (with_reducible refine Kd.C_alloc ?_ _) | (with_reducible refine Kd.C_drewN ?_ _) | (with_reducible refine Kd.C_drew ?_))); (case side3 => repeat (first | exact (Kd.C_below HR0_5.out HB.out) | (with_reducible refine Kd.C_alloc ?_ _) | (with_reducible refine Kd.C_drewN ?_ _) | (with_reducible refine Kd.C_drew ?_))); (case side5 => repeat (first | exact (Kd.C_below HR0_6.out HB.out) | (with_reducible refine Kd.C_alloc ?_ _) | (with_reducible refine Kd.C_drewN ?_ _) | (with_reducible refine Kd.C_drew ?_))); rintro e w17 ⟨rfl, hb⟩; refine ⟨_, rfl, ?_⟩; replace BK463 := am__ (blb__ BK463.out hb); replace BK464 := am__ (blb__ BK464.out hb); replace HB := am__ (below_step (bel__) hb); clear hb))
  go_ret
  exact ⟨ee__, bel__⟩
end Go.Proofs.Ytcijlemojododaa.P

namespace Go.Proofs.Ytcijlemojododaa.P
open Go.RowKit Go.Proofs.YtcijlemojododaaW.PrintWords Go.Proofs.YtcijlemojododaaW.PrintLast Go.Proofs.YtcijlemojododaaW.PrintMore
attribute [local go_sem] max2_int min2_int max_two min_two max_three min_three max_four min_four   -- for this text's walks alone
set_option linter.unusedVariables false
set_option linter.unusedSimpArgs false
/-! ### laws_eqRound: function 21 -/
def laws_eqRound.f (k : Nat) (a0_0 : Int) (l0_1 : List ByteArray) (l0_2 : List ByteArray) (a0_3 : Int) (a0_4 : Int) (a0_5 : Int) (a1_0 : Int) (l1_1 : List ByteArray) (l1_2 : List ByteArray) (a1_3 : Int) (a1_4 : Int) (a1_5 : Int) : Option (Bool) := if a0_0 = a1_0 then ((laws_eqStringS.f k l0_1 l1_1).bind fun t469 => (if t469 = true then ((laws_eqStringS.f k l0_2 l1_2).bind fun t470 => (if t470 = true then (if a0_3 = a1_3 then (if a0_4 = a1_4 then (if a0_5 = a1_5 then (some true) else (some false)) else (some false)) else (some false)) else (some false))) else (some false))) else (some false)
set_option maxHeartbeats 8000000 in
set_option maxRecDepth 100000 in
theorem laws_eqRound.calls (k : Nat) (a0_0 : Int) (A0_1 : Option Addr) (c0_1 : Nat) (l0_1 : List ByteArray) (A0_2 : Option Addr) (c0_2 : Nat) (l0_2 : List ByteArray) (a0_3 : Int) (a0_4 : Int) (a0_5 : Int) (a1_0 : Int) (A1_1 : Option Addr) (c1_1 : Nat) (l1_1 : List ByteArray) (A1_2 : Option Addr) (c1_2 : Nat) (l1_2 : List ByteArray) (a1_3 : Int) (a1_4 : Int) (a1_5 : Int) (r : Bool) (w : World) (hr0_1 : Kd.C Kd.string w A0_1 l0_1.length l0_1) (hc0_1 : l0_1.length ≤ c0_1) (hr0_2 : Kd.C Kd.string w A0_2 l0_2.length l0_2) (hc0_2 : l0_2.length ≤ c0_2) (hr1_1 : Kd.C Kd.string w A1_1 l1_1.length l1_1) (hc1_1 : l1_1.length ≤ c1_1) (hr1_2 : Kd.C Kd.string w A1_2 l1_2.length l1_2) (hc1_2 : l1_2.length ≤ c1_2) (h : laws_eqRound.f k a0_0 l0_1 l0_2 a0_3 a0_4 a0_5 a1_0 l1_1 l1_2 a1_3 a1_4 a1_5 = some r) :
  Calls Try.prog 21 #[.agg #[.int .i64 a0_0, .slice A0_1 l0_1.length c0_1, .slice A0_2 l0_2.length c0_2, .int .i64 a0_3, .int .i64 a0_4, .int .i64 a0_5], .agg #[.int .i64 a1_0, .slice A1_1 l1_1.length c1_1, .slice A1_2 l1_2.length c1_2, .int .i64 a1_3, .int .i64 a1_4, .int .i64 a1_5]] w fun e w' => e = .returned (.bool r) ∧ Below w.heap.size w w' := by
 have hu43 := Try.underlying43
 have HR0_1 := Aside0.mk hr0_1
 have HC0_1 := Aside0.mk hc0_1
 clear hr0_1 hc0_1
 have HR0_2 := Aside0.mk hr0_2
 have HC0_2 := Aside0.mk hc0_2
 clear hr0_2 hc0_2
 have HR1_1 := Aside0.mk hr1_1
 have HC1_1 := Aside0.mk hc1_1
 clear hr1_1 hc1_1
 have HR1_2 := Aside0.mk hr1_2
 have HC1_2 := Aside0.mk hc1_2
 clear hr1_2 hc1_2
 have HB := am__ (Below.refl w.heap.size w)
 have H : (if a0_0 = a1_0 then ((laws_eqStringS.f k l0_1 l1_1).bind fun t469 => (if t469 = true then ((laws_eqStringS.f k l0_2 l1_2).bind fun t470 => (if t470 = true then (if a0_3 = a1_3 then (if a0_4 = a1_4 then (if a0_5 = a1_5 then (some true) else (some false)) else (some false)) else (some false)) else (some false))) else (some false))) else (some false)) = some r := h
 clear h
 by_cases c3 : a0_0 = a1_0
 ·rw [if_pos c3] at H
  have c3b0 : (a0_0 == a1_0) = true := beq_iff_eq.mpr c3
  have c3b1 : (a0_0 != a1_0) = false := bne_eq_false_iff_eq.mpr c3
  clear c3
  replace H := Option.bind_eq_some_iff.mp H
  obtain ⟨t469, A40, H⟩ := H
  have A4 := Aside0.mk A40
  clear A40
  by_cases c5 : t469 = true
  ·subst c5
   rw [if_pos rfl] at H
   replace H := Option.bind_eq_some_iff.mp H
   obtain ⟨t470, A60, H⟩ := H
   have A6 := Aside0.mk A60
   clear A60
   by_cases c7 : t470 = true
   ·subst c7
    rw [if_pos rfl] at H
    by_cases c8 : a0_3 = a1_3
    ·rw [if_pos c8] at H
     have c8b0 : (a0_3 == a1_3) = true := beq_iff_eq.mpr c8
     have c8b1 : (a0_3 != a1_3) = false := bne_eq_false_iff_eq.mpr c8
     clear c8
     by_cases c9 : a0_4 = a1_4
     ·rw [if_pos c9] at H
      have c9b0 : (a0_4 == a1_4) = true := beq_iff_eq.mpr c9
      have c9b1 : (a0_4 != a1_4) = false := bne_eq_false_iff_eq.mpr c9
      clear c9
      by_cases c10 : a0_5 = a1_5
      ·rw [if_pos c10] at H
       have c10b0 : (a0_5 == a1_5) = true := beq_iff_eq.mpr c10
       have c10b1 : (a0_5 != a1_5) = false := bne_eq_false_iff_eq.mpr c10
       clear c10
       obtain rfl := Option.some.inj H
       go_enter Try.func21, Try.ntmps21
       go_wp2_with (first | ((with_reducible refine gate_dst (N := 2) rfl ?_); refine be__ 2 #[.int .i64 a0_0, .slice A0_1 l0_1.length c0_1, .slice A0_2 l0_2.length c0_2, .int .i64 a0_3, .int .i64 a0_4, .int .i64 a0_5] 43 ?_; intro gb467 hg w11 hbox hb; have BK467 := am__ (hbox); have GW467 := am__ ((bsz__ hg bel__ : w.heap.size ≤ gb467)); have GE467 := am__ ((bsz__ hg bel__ : w.heap.size ≤ gb467)); replace HB := am__ (below_step (bel__) hb); clear hb hbox hg) | ((with_reducible refine gate_dst (N := 3) rfl ?_); refine be__ 3 #[.int .i64 a1_0, .slice A1_1 l1_1.length c1_1, .slice A1_2 l1_2.length c1_2, .int .i64 a1_3, .int .i64 a1_4, .int .i64 a1_5] 43 ?_; intro gb468 hg w12 hbox hb; have BK468 := am__ (hbox); have GW468 := am__ ((bsz__ hg bel__ : w.heap.size ≤ gb468)); have GE468 := am__ ((bsz__ hg bel__ : w.heap.size ≤ gb468)); replace HB := am__ (below_step (bel__) hb); have NB467_468 := am__ ((nl__ hg BK467.out : gb467 ≠ gb468)); have NB468_467 := am__ ((ng__ hg BK467.out : gb468 ≠ gb467)); replace BK467 := am__ (blb__ BK467.out hb); clear hb hbox hg; have hnb13 := NB467_468.out; have hnc13 := NB468_467.out; obtain ⟨hcz14_0, hcz14_1, hcz14_2, hcz14_3, hcz14_4, hcz14_5, hfz14_0, hfz14_1, hfz14_2, hfz14_3, hfz14_4, hfz14_5⟩ := bk6__ BK467.out; obtain ⟨hcz15_0, hcz15_1, hcz15_2, hcz15_3, hcz15_4, hcz15_5, hfz15_0, hfz15_1, hfz15_2, hfz15_3, hfz15_4, hfz15_5⟩ := bk6__ BK468.out) | ((with_reducible refine gate_callee (f := 24) rfl ?_); refine gl__ (some 14) Try.func24 #[.slice A0_1 l0_1.length c0_1, .slice A1_1 l1_1.length c1_1] ?_; (with_reducible refine (laws_eqStringS.calls k _ _ l0_1 _ _ l1_1 true _ ?side1 HC0_1.out ?side3 HC1_1.out A4.out).mono ?_); (case side1 => repeat (first | exact (Kd.C_below HR0_1.out HB.out) | (with_reducible refine Kd.C_alloc ?_ _) | (with_reducible refine Kd.C_drewN ?_ _) | (with_reducible refine Kd.C_drew ?_))); (case side3 => repeat (first | exact (Kd.C_below HR1_1.out HB.out) | (with_reducible refine Kd.C_alloc ?_ _) | (with_reducible refine Kd.C_drewN ?_ _) | (with_reducible refine Kd.C_drew ?_))); rintro e w' ⟨rfl, ⟨nd, rfl⟩⟩; refine ⟨_, rfl, ?_⟩) | ((with_reducible refine gate_callee (f := 24) rfl ?_); refine gl__ (some 20) Try.func24 #[.slice A0_2 l0_2.length c0_2, .slice A1_2 l1_2.length c1_2] ?_; (with_reducible refine (laws_eqStringS.calls k _ _ l0_2 _ _ l1_2 true _ ?side1 HC0_2.out ?side3 HC1_2.out A6.out).mono ?_); (case side1 => repeat (first | exact (Kd.C_below HR0_2.out (bel__)) | (with_reducible refine Kd.C_alloc ?_ _) | (with_reducible refine Kd.C_drewN ?_ _) | (with_reducible refine Kd.C_drew ?_))); (case side3 => repeat (first | exact (Kd.C_below HR1_2.out (bel__)) | (with_reducible refine Kd.C_alloc ?_ _) | (with_reducible refine Kd.C_drewN ?_ _) | (with_reducible refine Kd.C_drew ?_))); rintro e w' ⟨rfl, ⟨nd, rfl⟩⟩; refine ⟨_, rfl, ?_⟩))
       go_ret
       exact ⟨ee__, bel__⟩
      ·rw [if_neg c10] at H
       have c10b0 : (a0_5 == a1_5) = false := beq_eq_false_iff_ne.mpr c10
       have c10b1 : (a0_5 != a1_5) = true := bne_iff_ne.mpr c10
       obtain rfl := Option.some.inj H
       go_enter Try.func21, Try.ntmps21
       go_wp2_with (first | ((with_reducible refine gate_dst (N := 2) rfl ?_); refine be__ 2 #[.int .i64 a0_0, .slice A0_1 l0_1.length c0_1, .slice A0_2 l0_2.length c0_2, .int .i64 a0_3, .int .i64 a0_4, .int .i64 a0_5] 43 ?_; intro gb467 hg w16 hbox hb; have BK467 := am__ (hbox); have GW467 := am__ ((bsz__ hg bel__ : w.heap.size ≤ gb467)); have GE467 := am__ ((bsz__ hg bel__ : w.heap.size ≤ gb467)); replace HB := am__ (below_step (bel__) hb); clear hb hbox hg) | ((with_reducible refine gate_dst (N := 3) rfl ?_); refine be__ 3 #[.int .i64 a1_0, .slice A1_1 l1_1.length c1_1, .slice A1_2 l1_2.length c1_2, .int .i64 a1_3, .int .i64 a1_4, .int .i64 a1_5] 43 ?_; intro gb468 hg w17 hbox hb; have BK468 := am__ (hbox); have GW468 := am__ ((bsz__ hg bel__ : w.heap.size ≤ gb468)); have GE468 := am__ ((bsz__ hg bel__ : w.heap.size ≤ gb468)); replace HB := am__ (below_step (bel__) hb); have NB467_468 := am__ ((nl__ hg BK467.out : gb467 ≠ gb468)); have NB468_467 := am__ ((ng__ hg BK467.out : gb468 ≠ gb467)); replace BK467 := am__ (blb__ BK467.out hb); clear hb hbox hg; have hnb18 := NB467_468.out; have hnc18 := NB468_467.out; obtain ⟨hcz19_0, hcz19_1, hcz19_2, hcz19_3, hcz19_4, hcz19_5, hfz19_0, hfz19_1, hfz19_2, hfz19_3, hfz19_4, hfz19_5⟩ := bk6__ BK467.out; obtain ⟨hcz20_0, hcz20_1, hcz20_2, hcz20_3, hcz20_4, hcz20_5, hfz20_0, hfz20_1, hfz20_2, hfz20_3, hfz20_4, hfz20_5⟩ := bk6__ BK468.out) | ((with_reducible refine gate_callee (f := 24) rfl ?_); refine gl__ (some 14) Try.func24 #[.slice A0_1 l0_1.length c0_1, .slice A1_1 l1_1.length c1_1] ?_; (with_reducible refine (laws_eqStringS.calls k _ _ l0_1 _ _ l1_1 true _ ?side1 HC0_1.out ?side3 HC1_1.out A4.out).mono ?_); (case side1 => repeat (first | exact (Kd.C_below HR0_1.out HB.out) | (with_reducible refine Kd.C_alloc ?_ _) | (with_reducible refine Kd.C_drewN ?_ _) | (with_reducible refine Kd.C_drew ?_))); (case side3 => repeat (first | exact (Kd.C_below HR1_1.out HB.out) | (with_reducible refine Kd.C_alloc ?_ _) | (with_reducible refine Kd.C_drewN ?_ _) | (with_reducible refine Kd.C_drew ?_))); rintro e w' ⟨rfl, ⟨nd, rfl⟩⟩; refine ⟨_, rfl, ?_⟩) | ((with_reducible refine gate_callee (f := 24) rfl ?_); refine gl__ (some 20) Try.func24 #[.slice A0_2 l0_2.length c0_2, .slice A1_2 l1_2.length c1_2] ?_; (with_reducible refine (laws_eqStringS.calls k _ _ l0_2 _ _ l1_2 true _ ?side1 HC0_2.out ?side3 HC1_2.out A6.out).mono ?_); (case side1 => repeat (first | exact (Kd.C_below HR0_2.out (bel__)) | (with_reducible refine Kd.C_alloc ?_ _) | (with_reducible refine Kd.C_drewN ?_ _) | (with_reducible refine Kd.C_drew ?_))); (case side3 => repeat (first | exact (Kd.C_below HR1_2.out (bel__)) | (with_reducible refine Kd.C_alloc ?_ _) | (with_reducible refine Kd.C_drewN ?_ _) | (with_reducible refine Kd.C_drew ?_))); rintro e w' ⟨rfl, ⟨nd, rfl⟩⟩; refine ⟨_, rfl, ?_⟩))
       go_ret
       exact ⟨ee__, bel__⟩
     ·rw [if_neg c9] at H
      have c9b0 : (a0_4 == a1_4) = false := beq_eq_false_iff_ne.mpr c9
      have c9b1 : (a0_4 != a1_4) = true := bne_iff_ne.mpr c9
      obtain rfl := Option.some.inj H
      go_enter Try.func21, Try.ntmps21
      go_wp2_with (first | ((with_reducible refine gate_dst (N := 2) rfl ?_); refine be__ 2 #[.int .i64 a0_0, .slice A0_1 l0_1.length c0_1, .slice A0_2 l0_2.length c0_2, .int .i64 a0_3, .int .i64 a0_4, .int .i64 a0_5] 43 ?_; intro gb467 hg w21 hbox hb; have BK467 := am__ (hbox); have GW467 := am__ ((bsz__ hg bel__ : w.heap.size ≤ gb467)); have GE467 := am__ ((bsz__ hg bel__ : w.heap.size ≤ gb467)); replace HB := am__ (below_step (bel__) hb); clear hb hbox hg) | ((with_reducible refine gate_dst (N := 3) rfl ?_); refine be__ 3 #[.int .i64 a1_0, .slice A1_1 l1_1.length c1_1, .slice A1_2 l1_2.length c1_2, .int .i64 a1_3, .int .i64 a1_4, .int .i64 a1_5] 43 ?_; intro gb468 hg w22 hbox hb; have BK468 := am__ (hbox); have GW468 := am__ ((bsz__ hg bel__ : w.heap.size ≤ gb468)); have GE468 := am__ ((bsz__ hg bel__ : w.heap.size ≤ gb468)); replace HB := am__ (below_step (bel__) hb); have NB467_468 := am__ ((nl__ hg BK467.out : gb467 ≠ gb468)); have NB468_467 := am__ ((ng__ hg BK467.out : gb468 ≠ gb467)); replace BK467 := am__ (blb__ BK467.out hb); clear hb hbox hg; have hnb23 := NB467_468.out; have hnc23 := NB468_467.out; obtain ⟨hcz24_0, hcz24_1, hcz24_2, hcz24_3, hcz24_4, hcz24_5, hfz24_0, hfz24_1, hfz24_2, hfz24_3, hfz24_4, hfz24_5⟩ := bk6__ BK467.out; obtain ⟨hcz25_0, hcz25_1, hcz25_2, hcz25_3, hcz25_4, hcz25_5, hfz25_0, hfz25_1, hfz25_2, hfz25_3, hfz25_4, hfz25_5⟩ := bk6__ BK468.out) | ((with_reducible refine gate_callee (f := 24) rfl ?_); refine gl__ (some 14) Try.func24 #[.slice A0_1 l0_1.length c0_1, .slice A1_1 l1_1.length c1_1] ?_; (with_reducible refine (laws_eqStringS.calls k _ _ l0_1 _ _ l1_1 true _ ?side1 HC0_1.out ?side3 HC1_1.out A4.out).mono ?_); (case side1 => repeat (first | exact (Kd.C_below HR0_1.out HB.out) | (with_reducible refine Kd.C_alloc ?_ _) | (with_reducible refine Kd.C_drewN ?_ _) | (with_reducible refine Kd.C_drew ?_))); (case side3 => repeat (first | exact (Kd.C_below HR1_1.out HB.out) | (with_reducible refine Kd.C_alloc ?_ _) | (with_reducible refine Kd.C_drewN ?_ _) | (with_reducible refine Kd.C_drew ?_))); rintro e w' ⟨rfl, ⟨nd, rfl⟩⟩; refine ⟨_, rfl, ?_⟩) | ((with_reducible refine gate_callee (f := 24) rfl ?_); refine gl__ (some 20) Try.func24 #[.slice A0_2 l0_2.length c0_2, .slice A1_2 l1_2.length c1_2] ?_; (with_reducible refine (laws_eqStringS.calls k _ _ l0_2 _ _ l1_2 true _ ?side1 HC0_2.out ?side3 HC1_2.out A6.out).mono ?_); (case side1 => repeat (first | exact (Kd.C_below HR0_2.out (bel__)) | (with_reducible refine Kd.C_alloc ?_ _) | (with_reducible refine Kd.C_drewN ?_ _) | (with_reducible refine Kd.C_drew ?_))); (case side3 => repeat (first | exact (Kd.C_below HR1_2.out (bel__)) | (with_reducible refine Kd.C_alloc ?_ _) | (with_reducible refine Kd.C_drewN ?_ _) | (with_reducible refine Kd.C_drew ?_))); rintro e w' ⟨rfl, ⟨nd, rfl⟩⟩; refine ⟨_, rfl, ?_⟩))
      go_ret
      exact ⟨ee__, bel__⟩
    ·rw [if_neg c8] at H
     have c8b0 : (a0_3 == a1_3) = false := beq_eq_false_iff_ne.mpr c8
     have c8b1 : (a0_3 != a1_3) = true := bne_iff_ne.mpr c8
     obtain rfl := Option.some.inj H
     go_enter Try.func21, Try.ntmps21
     go_wp2_with (first | ((with_reducible refine gate_dst (N := 2) rfl ?_); refine be__ 2 #[.int .i64 a0_0, .slice A0_1 l0_1.length c0_1, .slice A0_2 l0_2.length c0_2, .int .i64 a0_3, .int .i64 a0_4, .int .i64 a0_5] 43 ?_; intro gb467 hg w26 hbox hb; have BK467 := am__ (hbox); have GW467 := am__ ((bsz__ hg bel__ : w.heap.size ≤ gb467)); have GE467 := am__ ((bsz__ hg bel__ : w.heap.size ≤ gb467)); replace HB := am__ (below_step (bel__) hb); clear hb hbox hg) | ((with_reducible refine gate_dst (N := 3) rfl ?_); refine be__ 3 #[.int .i64 a1_0, .slice A1_1 l1_1.length c1_1, .slice A1_2 l1_2.length c1_2, .int .i64 a1_3, .int .i64 a1_4, .int .i64 a1_5] 43 ?_; intro gb468 hg w27 hbox hb; have BK468 := am__ (hbox); have GW468 := am__ ((bsz__ hg bel__ : w.heap.size ≤ gb468)); have GE468 := am__ ((bsz__ hg bel__ : w.heap.size ≤ gb468)); replace HB := am__ (below_step (bel__) hb); have NB467_468 := am__ ((nl__ hg BK467.out : gb467 ≠ gb468)); have NB468_467 := am__ ((ng__ hg BK467.out : gb468 ≠ gb467)); replace BK467 := am__ (blb__ BK467.out hb); clear hb hbox hg; have hnb28 := NB467_468.out; have hnc28 := NB468_467.out; obtain ⟨hcz29_0, hcz29_1, hcz29_2, hcz29_3, hcz29_4, hcz29_5, hfz29_0, hfz29_1, hfz29_2, hfz29_3, hfz29_4, hfz29_5⟩ := bk6__ BK467.out; obtain ⟨hcz30_0, hcz30_1, hcz30_2, hcz30_3, hcz30_4, hcz30_5, hfz30_0, hfz30_1, hfz30_2, hfz30_3, hfz30_4, hfz30_5⟩ := bk6__ BK468.out) | ((with_reducible refine gate_callee (f := 24) rfl ?_); refine gl__ (some 14) Try.func24 #[.slice A0_1 l0_1.length c0_1, .slice A1_1 l1_1.length c1_1] ?_; (with_reducible refine (laws_eqStringS.calls k _ _ l0_1 _ _ l1_1 true _ ?side1 HC0_1.out ?side3 HC1_1.out A4.out).mono ?_); (case side1 => repeat (first | exact (Kd.C_below HR0_1.out HB.out) | (with_reducible refine Kd.C_alloc ?_ _) | (with_reducible refine Kd.C_drewN ?_ _) | (with_reducible refine Kd.C_drew ?_))); (case side3 => repeat (first | exact (Kd.C_below HR1_1.out HB.out) | (with_reducible refine Kd.C_alloc ?_ _) | (with_reducible refine Kd.C_drewN ?_ _) | (with_reducible refine Kd.C_drew ?_))); rintro e w' ⟨rfl, ⟨nd, rfl⟩⟩; refine ⟨_, rfl, ?_⟩) | ((with_reducible refine gate_callee (f := 24) rfl ?_); refine gl__ (some 20) Try.func24 #[.slice A0_2 l0_2.length c0_2, .slice A1_2 l1_2.length c1_2] ?_; (with_reducible refine (laws_eqStringS.calls k _ _ l0_2 _ _ l1_2 true _ ?side1 HC0_2.out ?side3 HC1_2.out A6.out).mono ?_); (case side1 => repeat (first | exact (Kd.C_below HR0_2.out (bel__)) | (with_reducible refine Kd.C_alloc ?_ _) | (with_reducible refine Kd.C_drewN ?_ _) | (with_reducible refine Kd.C_drew ?_))); (case side3 => repeat (first | exact (Kd.C_below HR1_2.out (bel__)) | (with_reducible refine Kd.C_alloc ?_ _) | (with_reducible refine Kd.C_drewN ?_ _) | (with_reducible refine Kd.C_drew ?_))); rintro e w' ⟨rfl, ⟨nd, rfl⟩⟩; refine ⟨_, rfl, ?_⟩))
     go_ret
     exact ⟨ee__, bel__⟩
   ·replace c7 := Bool.eq_false_iff.mpr c7
    subst c7
    have H1 : (some false) = some r := by rw [if_neg (show ¬ (false = true) by decide)] at H; exact H
    clear H
    have H := H1
    clear H1
    obtain rfl := Option.some.inj H
    go_enter Try.func21, Try.ntmps21
    go_wp2_with (first | ((with_reducible refine gate_dst (N := 2) rfl ?_); refine be__ 2 #[.int .i64 a0_0, .slice A0_1 l0_1.length c0_1, .slice A0_2 l0_2.length c0_2, .int .i64 a0_3, .int .i64 a0_4, .int .i64 a0_5] 43 ?_; intro gb467 hg w31 hbox hb; have BK467 := am__ (hbox); have GW467 := am__ ((bsz__ hg bel__ : w.heap.size ≤ gb467)); have GE467 := am__ ((bsz__ hg bel__ : w.heap.size ≤ gb467)); replace HB := am__ (below_step (bel__) hb); clear hb hbox hg) | ((with_reducible refine gate_dst (N := 3) rfl ?_); refine be__ 3 #[.int .i64 a1_0, .slice A1_1 l1_1.length c1_1, .slice A1_2 l1_2.length c1_2, .int .i64 a1_3, .int .i64 a1_4, .int .i64 a1_5] 43 ?_; intro gb468 hg w32 hbox hb; have BK468 := am__ (hbox); have GW468 := am__ ((bsz__ hg bel__ : w.heap.size ≤ gb468)); have GE468 := am__ ((bsz__ hg bel__ : w.heap.size ≤ gb468)); replace HB := am__ (below_step (bel__) hb); have NB467_468 := am__ ((nl__ hg BK467.out : gb467 ≠ gb468)); have NB468_467 := am__ ((ng__ hg BK467.out : gb468 ≠ gb467)); replace BK467 := am__ (blb__ BK467.out hb); clear hb hbox hg; have hnb33 := NB467_468.out; have hnc33 := NB468_467.out; obtain ⟨hcz34_0, hcz34_1, hcz34_2, hcz34_3, hcz34_4, hcz34_5, hfz34_0, hfz34_1, hfz34_2, hfz34_3, hfz34_4, hfz34_5⟩ := bk6__ BK467.out; obtain ⟨hcz35_0, hcz35_1, hcz35_2, hcz35_3, hcz35_4, hcz35_5, hfz35_0, hfz35_1, hfz35_2, hfz35_3, hfz35_4, hfz35_5⟩ := bk6__ BK468.out) | ((with_reducible refine gate_callee (f := 24) rfl ?_); refine gl__ (some 14) Try.func24 #[.slice A0_1 l0_1.length c0_1, .slice A1_1 l1_1.length c1_1] ?_; (with_reducible refine (laws_eqStringS.calls k _ _ l0_1 _ _ l1_1 true _ ?side1 HC0_1.out ?side3 HC1_1.out A4.out).mono ?_); (case side1 => repeat (first | exact (Kd.C_below HR0_1.out HB.out) | (with_reducible refine Kd.C_alloc ?_ _) | (with_reducible refine Kd.C_drewN ?_ _) | (with_reducible refine Kd.C_drew ?_))); (case side3 => repeat (first | exact (Kd.C_below HR1_1.out HB.out) | (with_reducible refine Kd.C_alloc ?_ _) | (with_reducible refine Kd.C_drewN ?_ _) | (with_reducible refine Kd.C_drew ?_))); rintro e w' ⟨rfl, ⟨nd, rfl⟩⟩; refine ⟨_, rfl, ?_⟩) | ((with_reducible refine gate_callee (f := 24) rfl ?_); refine gl__ (some 20) Try.func24 #[.slice A0_2 l0_2.length c0_2, .slice A1_2 l1_2.length c1_2] ?_; (with_reducible refine (laws_eqStringS.calls k _ _ l0_2 _ _ l1_2 false _ ?side1 HC0_2.out ?side3 HC1_2.out A6.out).mono ?_); (case side1 => repeat (first | exact (Kd.C_below HR0_2.out (bel__)) | (with_reducible refine Kd.C_alloc ?_ _) | (with_reducible refine Kd.C_drewN ?_ _) | (with_reducible refine Kd.C_drew ?_))); (case side3 => repeat (first | exact (Kd.C_below HR1_2.out (bel__)) | (with_reducible refine Kd.C_alloc ?_ _) | (with_reducible refine Kd.C_drewN ?_ _) | (with_reducible refine Kd.C_drew ?_))); rintro e w' ⟨rfl, ⟨nd, rfl⟩⟩; refine ⟨_, rfl, ?_⟩))
    go_ret
    exact ⟨ee__, bel__⟩
  ·replace c5 := Bool.eq_false_iff.mpr c5
   subst c5
   have H1 : (some false) = some r := by rw [if_neg (show ¬ (false = true) by decide)] at H; exact H
   clear H
   have H := H1
   clear H1
   obtain rfl := Option.some.inj H
   go_enter Try.func21, Try.ntmps21
   go_wp2_with (first | ((with_reducible refine gate_dst (N := 2) rfl ?_); refine be__ 2 #[.int .i64 a0_0, .slice A0_1 l0_1.length c0_1, .slice A0_2 l0_2.length c0_2, .int .i64 a0_3, .int .i64 a0_4, .int .i64 a0_5] 43 ?_; intro gb467 hg w36 hbox hb; have BK467 := am__ (hbox); have GW467 := am__ ((bsz__ hg bel__ : w.heap.size ≤ gb467)); have GE467 := am__ ((bsz__ hg bel__ : w.heap.size ≤ gb467)); replace HB := am__ (below_step (bel__) hb); clear hb hbox hg) | ((with_reducible refine gate_dst (N := 3) rfl ?_); refine be__ 3 #[.int .i64 a1_0, .slice A1_1 l1_1.length c1_1, .slice A1_2 l1_2.length c1_2, .int .i64 a1_3, .int .i64 a1_4, .int .i64 a1_5] 43 ?_; intro gb468 hg w37 hbox hb; have BK468 := am__ (hbox); have GW468 := am__ ((bsz__ hg bel__ : w.heap.size ≤ gb468)); have GE468 := am__ ((bsz__ hg bel__ : w.heap.size ≤ gb468)); replace HB := am__ (below_step (bel__) hb); have NB467_468 := am__ ((nl__ hg BK467.out : gb467 ≠ gb468)); have NB468_467 := am__ ((ng__ hg BK467.out : gb468 ≠ gb467)); replace BK467 := am__ (blb__ BK467.out hb); clear hb hbox hg; have hnb38 := NB467_468.out; have hnc38 := NB468_467.out; obtain ⟨hcz39_0, hcz39_1, hcz39_2, hcz39_3, hcz39_4, hcz39_5, hfz39_0, hfz39_1, hfz39_2, hfz39_3, hfz39_4, hfz39_5⟩ := bk6__ BK467.out; obtain ⟨hcz40_0, hcz40_1, hcz40_2, hcz40_3, hcz40_4, hcz40_5, hfz40_0, hfz40_1, hfz40_2, hfz40_3, hfz40_4, hfz40_5⟩ := bk6__ BK468.out) | ((with_reducible refine gate_callee (f := 24) rfl ?_); refine gl__ (some 14) Try.func24 #[.slice A0_1 l0_1.length c0_1, .slice A1_1 l1_1.length c1_1] ?_; (with_reducible refine (laws_eqStringS.calls k _ _ l0_1 _ _ l1_1 false _ ?side1 HC0_1.out ?side3 HC1_1.out A4.out).mono ?_); (case side1 => repeat (first | exact (Kd.C_below HR0_1.out HB.out) | (with_reducible refine Kd.C_alloc ?_ _) | (with_reducible refine Kd.C_drewN ?_ _) | (with_reducible refine Kd.C_drew ?_))); (case side3 => repeat (first | exact (Kd.C_below HR1_1.out HB.out) | (with_reducible refine Kd.C_alloc ?_ _) | (with_reducible refine Kd.C_drewN ?_ _) | (with_reducible refine Kd.C_drew ?_))); rintro e w' ⟨rfl, ⟨nd, rfl⟩⟩; refine ⟨_, rfl, ?_⟩))
   go_ret
   exact ⟨ee__, bel__⟩
 ·rw [if_neg c3] at H
  have c3b0 : (a0_0 == a1_0) = false := beq_eq_false_iff_ne.mpr c3
  have c3b1 : (a0_0 != a1_0) = true := bne_iff_ne.mpr c3
  obtain rfl := Option.some.inj H
  go_enter Try.func21, Try.ntmps21
  go_wp2_with (first | ((with_reducible refine gate_dst (N := 2) rfl ?_); refine be__ 2 #[.int .i64 a0_0, .slice A0_1 l0_1.length c0_1, .slice A0_2 l0_2.length c0_2, .int .i64 a0_3, .int .i64 a0_4, .int .i64 a0_5] 43 ?_; intro gb467 hg w41 hbox hb; have BK467 := am__ (hbox); have GW467 := am__ ((bsz__ hg bel__ : w.heap.size ≤ gb467)); have GE467 := am__ ((bsz__ hg bel__ : w.heap.size ≤ gb467)); replace HB := am__ (below_step (bel__) hb); clear hb hbox hg) | ((with_reducible refine gate_dst (N := 3) rfl ?_); refine be__ 3 #[.int .i64 a1_0, .slice A1_1 l1_1.length c1_1, .slice A1_2 l1_2.length c1_2, .int .i64 a1_3, .int .i64 a1_4, .int .i64 a1_5] 43 ?_; intro gb468 hg w42 hbox hb; have BK468 := am__ (hbox); have GW468 := am__ ((bsz__ hg bel__ : w.heap.size ≤ gb468)); have GE468 := am__ ((bsz__ hg bel__ : w.heap.size ≤ gb468)); replace HB := am__ (below_step (bel__) hb); have NB467_468 := am__ ((nl__ hg BK467.out : gb467 ≠ gb468)); have NB468_467 := am__ ((ng__ hg BK467.out : gb468 ≠ gb467)); replace BK467 := am__ (blb__ BK467.out hb); clear hb hbox hg; have hnb43 := NB467_468.out; have hnc43 := NB468_467.out; obtain ⟨hcz44_0, hcz44_1, hcz44_2, hcz44_3, hcz44_4, hcz44_5, hfz44_0, hfz44_1, hfz44_2, hfz44_3, hfz44_4, hfz44_5⟩ := bk6__ BK467.out; obtain ⟨hcz45_0, hcz45_1, hcz45_2, hcz45_3, hcz45_4, hcz45_5, hfz45_0, hfz45_1, hfz45_2, hfz45_3, hfz45_4, hfz45_5⟩ := bk6__ BK468.out))
  go_ret
  exact ⟨ee__, bel__⟩
end Go.Proofs.Ytcijlemojododaa.P

namespace Go.Proofs.Ytcijlemojododaa.P
open Go.RowKit Go.Proofs.YtcijlemojododaaW.PrintWords Go.Proofs.YtcijlemojododaaW.PrintLast Go.Proofs.YtcijlemojododaaW.PrintMore
attribute [local go_sem] max2_int min2_int max_two min_two max_three min_three max_four min_four   -- for this text's walks alone
set_option linter.unusedVariables false
set_option linter.unusedSimpArgs false
/-! ### laws_FnExactValidRound: function 5 -/
def laws_FnExactValidRound.f (k : Nat) (a0_0 : Int) (a0_1 : Int) (a0_2 : Int) (a0_3 : Int) (l0_4 : List (S130)) (l0_5 : List (S132)) (l0_6 : List (S134)) (a1_0 : Int) (l1_1 : List ByteArray) (l1_2 : List ByteArray) (a1_3 : Int) (a1_4 : Int) (a1_5 : Int) : Option (Bool) := (laws_szState.f k a0_0 a0_1 a0_2 a0_3 l0_4 l0_5 l0_6 1048576).bind fun t473 => (if t473 < 0 then (some true) else ((laws_szRound.f k a1_0 l1_1 l1_2 a1_3 a1_4 a1_5 t473).bind fun t474 => (if t474 < 0 then (some true) else ((laws_toState.f k a0_0 a0_1 a0_2 a0_3 l0_4 l0_5 l0_6).bind fun bt475 => ((laws_toRound.f k a1_0 l1_1 l1_2 a1_3 a1_4 a1_5).bind fun bt488 => ((spec_ValidRound.f k bt475.1 bt475.2.1 bt475.2.2.1 bt475.2.2.2.1 bt475.2.2.2.2.1 bt475.2.2.2.2.2.1 bt475.2.2.2.2.2.2 bt488.1 bt488.2.1 bt488.2.2.1 bt488.2.2.2.1 bt488.2.2.2.2.1 bt488.2.2.2.2.2).bind fun t498 => ((laws_toState.f k a0_0 a0_1 a0_2 a0_3 l0_4 l0_5 l0_6).bind fun bt499 => ((laws_toRound.f k a1_0 l1_1 l1_2 a1_3 a1_4 a1_5).bind fun bt513 => ((impl_ValidRound.f k bt499.1 bt499.2.1 bt499.2.2.1 bt499.2.2.2.1 bt499.2.2.2.2.1 bt499.2.2.2.2.2.1 bt499.2.2.2.2.2.2 bt513.1 bt513.2.1 bt513.2.2.1 bt513.2.2.2.1 bt513.2.2.2.2.1 bt513.2.2.2.2.2).bind fun t524 => (if (t524 != t498) = true then (none) else ((laws_toState.f k a0_0 a0_1 a0_2 a0_3 l0_4 l0_5 l0_6).bind fun bt525 => ((laws_eqState.f k bt499.1 bt499.2.1 bt499.2.2.1 bt499.2.2.2.1 bt499.2.2.2.2.1 bt499.2.2.2.2.2.1 bt499.2.2.2.2.2.2 bt525.1 bt525.2.1 bt525.2.2.1 bt525.2.2.2.1 bt525.2.2.2.2.1 bt525.2.2.2.2.2.1 bt525.2.2.2.2.2.2).bind fun t538 => (if t538 = true then ((laws_toRound.f k a1_0 l1_1 l1_2 a1_3 a1_4 a1_5).bind fun bt539 => ((laws_eqRound.f k bt513.1 bt513.2.1 bt513.2.2.1 bt513.2.2.2.1 bt513.2.2.2.2.1 bt513.2.2.2.2.2 bt539.1 bt539.2.1 bt539.2.2.1 bt539.2.2.2.1 bt539.2.2.2.2.1 bt539.2.2.2.2.2).bind fun t549 => (if t549 = true then (some true) else (none)))) else (none))))))))))))))
set_option maxHeartbeats 8000000 in
set_option maxRecDepth 100000 in
theorem laws_FnExactValidRound.calls (k : Nat) (a0_0 : Int) (a0_1 : Int) (a0_2 : Int) (a0_3 : Int) (A0_4 : Option Addr) (c0_4 : Nat) (l0_4 : List (S130)) (A0_5 : Option Addr) (c0_5 : Nat) (l0_5 : List (S132)) (A0_6 : Option Addr) (c0_6 : Nat) (l0_6 : List (S134)) (a1_0 : Int) (A1_1 : Option Addr) (c1_1 : Nat) (l1_1 : List ByteArray) (A1_2 : Option Addr) (c1_2 : Nat) (l1_2 : List ByteArray) (a1_3 : Int) (a1_4 : Int) (a1_5 : Int) (r : Bool) (w : World) (hr0_4 : Kd.C k130 w A0_4 l0_4.length l0_4) (hc0_4 : l0_4.length ≤ c0_4) (hr0_5 : Kd.C k132 w A0_5 l0_5.length l0_5) (hc0_5 : l0_5.length ≤ c0_5) (hr0_6 : Kd.C k134 w A0_6 l0_6.length l0_6) (hc0_6 : l0_6.length ≤ c0_6) (hr1_1 : Kd.C Kd.string w A1_1 l1_1.length l1_1) (hc1_1 : l1_1.length ≤ c1_1) (hr1_2 : Kd.C Kd.string w A1_2 l1_2.length l1_2) (hc1_2 : l1_2.length ≤ c1_2) (h : laws_FnExactValidRound.f k a0_0 a0_1 a0_2 a0_3 l0_4 l0_5 l0_6 a1_0 l1_1 l1_2 a1_3 a1_4 a1_5 = some r) :
  Calls Try.prog 5 #[.agg #[.int .i64 a0_0, .int .i64 a0_1, .int .i64 a0_2, .int .i64 a0_3, .slice A0_4 l0_4.length c0_4, .slice A0_5 l0_5.length c0_5, .slice A0_6 l0_6.length c0_6], .agg #[.int .i64 a1_0, .slice A1_1 l1_1.length c1_1, .slice A1_2 l1_2.length c1_2, .int .i64 a1_3, .int .i64 a1_4, .int .i64 a1_5]] w fun e w' => e = .returned (.bool r) ∧ Below w.heap.size w w' := by
 have hu26 := Try.underlying26
 have hu40 := Try.underlying40
 have hu33 := Try.underlying33
 have hu43 := Try.underlying43
 have HR0_4 := Aside0.mk hr0_4
 have HC0_4 := Aside0.mk hc0_4
 clear hr0_4 hc0_4
 have HR0_5 := Aside0.mk hr0_5
 have HC0_5 := Aside0.mk hc0_5
 clear hr0_5 hc0_5
 have HR0_6 := Aside0.mk hr0_6
 have HC0_6 := Aside0.mk hc0_6
 clear hr0_6 hc0_6
 have HR1_1 := Aside0.mk hr1_1
 have HC1_1 := Aside0.mk hc1_1
 clear hr1_1 hc1_1
 have HR1_2 := Aside0.mk hr1_2
 have HC1_2 := Aside0.mk hc1_2
 clear hr1_2 hc1_2
 have HB := am__ (Below.refl w.heap.size w)
 have H : ((laws_szState.f k a0_0 a0_1 a0_2 a0_3 l0_4 l0_5 l0_6 1048576).bind fun t473 => (if t473 < 0 then (some true) else ((laws_szRound.f k a1_0 l1_1 l1_2 a1_3 a1_4 a1_5 t473).bind fun t474 => (if t474 < 0 then (some true) else ((laws_toState.f k a0_0 a0_1 a0_2 a0_3 l0_4 l0_5 l0_6).bind fun bt475 => ((laws_toRound.f k a1_0 l1_1 l1_2 a1_3 a1_4 a1_5).bind fun bt488 => ((spec_ValidRound.f k bt475.1 bt475.2.1 bt475.2.2.1 bt475.2.2.2.1 bt475.2.2.2.2.1 bt475.2.2.2.2.2.1 bt475.2.2.2.2.2.2 bt488.1 bt488.2.1 bt488.2.2.1 bt488.2.2.2.1 bt488.2.2.2.2.1 bt488.2.2.2.2.2).bind fun t498 => ((laws_toState.f k a0_0 a0_1 a0_2 a0_3 l0_4 l0_5 l0_6).bind fun bt499 => ((laws_toRound.f k a1_0 l1_1 l1_2 a1_3 a1_4 a1_5).bind fun bt513 => ((impl_ValidRound.f k bt499.1 bt499.2.1 bt499.2.2.1 bt499.2.2.2.1 bt499.2.2.2.2.1 bt499.2.2.2.2.2.1 bt499.2.2.2.2.2.2 bt513.1 bt513.2.1 bt513.2.2.1 bt513.2.2.2.1 bt513.2.2.2.2.1 bt513.2.2.2.2.2).bind fun t524 => (if (t524 != t498) = true then (none) else ((laws_toState.f k a0_0 a0_1 a0_2 a0_3 l0_4 l0_5 l0_6).bind fun bt525 => ((laws_eqState.f k bt499.1 bt499.2.1 bt499.2.2.1 bt499.2.2.2.1 bt499.2.2.2.2.1 bt499.2.2.2.2.2.1 bt499.2.2.2.2.2.2 bt525.1 bt525.2.1 bt525.2.2.1 bt525.2.2.2.1 bt525.2.2.2.2.1 bt525.2.2.2.2.2.1 bt525.2.2.2.2.2.2).bind fun t538 => (if t538 = true then ((laws_toRound.f k a1_0 l1_1 l1_2 a1_3 a1_4 a1_5).bind fun bt539 => ((laws_eqRound.f k bt513.1 bt513.2.1 bt513.2.2.1 bt513.2.2.2.1 bt513.2.2.2.2.1 bt513.2.2.2.2.2 bt539.1 bt539.2.1 bt539.2.2.1 bt539.2.2.2.1 bt539.2.2.2.2.1 bt539.2.2.2.2.2).bind fun t549 => (if t549 = true then (some true) else (none)))) else (none))))))))))))))) = some r := h
 clear h
 replace H := Option.bind_eq_some_iff.mp H
 obtain ⟨t473, A30, H⟩ := H
 have A3 := Aside0.mk A30
 clear A30
 by_cases c4 : t473 < 0
 ·rw [if_pos c4] at H
  have c4b0 := decide_eq_true c4
  clear c4
  obtain rfl := Option.some.inj H
  go_enter Try.func5, Try.ntmps5
  go_wp2_with (first | ((with_reducible refine gate_dst (N := 2) rfl ?_); refine be__ 2 #[.int .i64 a0_0, .int .i64 a0_1, .int .i64 a0_2, .int .i64 a0_3, .slice A0_4 l0_4.length c0_4, .slice A0_5 l0_5.length c0_5, .slice A0_6 l0_6.length c0_6] 26 ?_; intro gb471 hg w5 hbox hb; have BK471 := am__ (hbox); have GW471 := am__ ((bsz__ hg bel__ : w.heap.size ≤ gb471)); have GE471 := am__ ((bsz__ hg bel__ : w.heap.size ≤ gb471)); replace HB := am__ (below_step (bel__) hb); clear hb hbox hg) | ((with_reducible refine gate_dst (N := 3) rfl ?_); refine be__ 3 #[.int .i64 a1_0, .slice A1_1 l1_1.length c1_1, .slice A1_2 l1_2.length c1_2, .int .i64 a1_3, .int .i64 a1_4, .int .i64 a1_5] 40 ?_; intro gb472 hg w6 hbox hb; have BK472 := am__ (hbox); have GW472 := am__ ((bsz__ hg bel__ : w.heap.size ≤ gb472)); have GE472 := am__ ((bsz__ hg bel__ : w.heap.size ≤ gb472)); replace HB := am__ (below_step (bel__) hb); have NB471_472 := am__ ((nl__ hg BK471.out : gb471 ≠ gb472)); have NB472_471 := am__ ((ng__ hg BK471.out : gb472 ≠ gb471)); replace BK471 := am__ (blb__ BK471.out hb); clear hb hbox hg; have hnb7 := NB471_472.out; have hnc7 := NB472_471.out; obtain ⟨hcz8_0, hcz8_1, hcz8_2, hcz8_3, hcz8_4, hcz8_5, hcz8_6, hfz8_0, hfz8_1, hfz8_2, hfz8_3, hfz8_4, hfz8_5, hfz8_6⟩ := bk7__ BK471.out) | ((with_reducible refine gate_callee (f := 10) rfl ?_); refine gl__ (some 12) Try.func10 #[.agg #[.int .i64 a0_0, .int .i64 a0_1, .int .i64 a0_2, .int .i64 a0_3, .slice A0_4 l0_4.length c0_4, .slice A0_5 l0_5.length c0_5, .slice A0_6 l0_6.length c0_6], .int .i64 1048576] ?_; (with_reducible refine (laws_szState.calls k a0_0 a0_1 a0_2 a0_3 _ _ l0_4 _ _ l0_5 _ _ l0_6 1048576 t473 _ ?side1 HC0_4.out ?side3 HC0_5.out ?side5 HC0_6.out A3.out).mono ?_); (case side1 => repeat (first | exact (Kd.C_below HR0_4.out HB.out) | (with_reducible refine Kd.C_alloc ?_ _) | (with_reducible refine Kd.C_drewN ?_ _) | (with_reducible refine Kd.C_drew ?_))); (case side3 => repeat (first | exact (Kd.C_below HR0_5.out HB.out) | (with_reducible refine Kd.C_alloc ?_ _) | (with_reducible refine Kd.C_drewN ?_ _) | (with_reducible refine Kd.C_drew ?_))); (case side5 => repeat (first | exact (Kd.C_below HR0_6.out HB.out) | (with_reducible refine Kd.C_alloc ?_ _) | (with_reducible refine Kd.C_drewN ?_ _) | (with_reducible refine Kd.C_drew ?_))); rintro e w9 ⟨rfl, hb⟩; refine ⟨_, rfl, ?_⟩; replace BK471 := am__ (blb__ BK471.out hb); replace BK472 := am__ (blb__ BK472.out hb); replace HB := am__ (below_step (bel__) hb); clear hb))
  go_ret
  exact ⟨ee__, bel__⟩
 ·rw [if_neg c4] at H
  have c4b0 := decide_eq_false c4
  clear c4
  replace H := Option.bind_eq_some_iff.mp H
  obtain ⟨t474, A100, H⟩ := H
  have A10 := Aside0.mk A100
  clear A100
  by_cases c11 : t474 < 0
  ·rw [if_pos c11] at H
   have c11b0 := decide_eq_true c11
   clear c11
   obtain rfl := Option.some.inj H
   go_enter Try.func5, Try.ntmps5
   go_wp2_with (first | ((with_reducible refine gate_dst (N := 2) rfl ?_); refine be__ 2 #[.int .i64 a0_0, .int .i64 a0_1, .int .i64 a0_2, .int .i64 a0_3, .slice A0_4 l0_4.length c0_4, .slice A0_5 l0_5.length c0_5, .slice A0_6 l0_6.length c0_6] 26 ?_; intro gb471 hg w12 hbox hb; have BK471 := am__ (hbox); have GW471 := am__ ((bsz__ hg bel__ : w.heap.size ≤ gb471)); have GE471 := am__ ((bsz__ hg bel__ : w.heap.size ≤ gb471)); replace HB := am__ (below_step (bel__) hb); clear hb hbox hg) | ((with_reducible refine gate_dst (N := 3) rfl ?_); refine be__ 3 #[.int .i64 a1_0, .slice A1_1 l1_1.length c1_1, .slice A1_2 l1_2.length c1_2, .int .i64 a1_3, .int .i64 a1_4, .int .i64 a1_5] 40 ?_; intro gb472 hg w13 hbox hb; have BK472 := am__ (hbox); have GW472 := am__ ((bsz__ hg bel__ : w.heap.size ≤ gb472)); have GE472 := am__ ((bsz__ hg bel__ : w.heap.size ≤ gb472)); replace HB := am__ (below_step (bel__) hb); have NB471_472 := am__ ((nl__ hg BK471.out : gb471 ≠ gb472)); have NB472_471 := am__ ((ng__ hg BK471.out : gb472 ≠ gb471)); replace BK471 := am__ (blb__ BK471.out hb); clear hb hbox hg; have hnb14 := NB471_472.out; have hnc14 := NB472_471.out; obtain ⟨hcz15_0, hcz15_1, hcz15_2, hcz15_3, hcz15_4, hcz15_5, hcz15_6, hfz15_0, hfz15_1, hfz15_2, hfz15_3, hfz15_4, hfz15_5, hfz15_6⟩ := bk7__ BK471.out) | ((with_reducible refine gate_callee (f := 10) rfl ?_); refine gl__ (some 12) Try.func10 #[.agg #[.int .i64 a0_0, .int .i64 a0_1, .int .i64 a0_2, .int .i64 a0_3, .slice A0_4 l0_4.length c0_4, .slice A0_5 l0_5.length c0_5, .slice A0_6 l0_6.length c0_6], .int .i64 1048576] ?_; (with_reducible refine (laws_szState.calls k a0_0 a0_1 a0_2 a0_3 _ _ l0_4 _ _ l0_5 _ _ l0_6 1048576 t473 _ ?side1 HC0_4.out ?side3 HC0_5.out ?side5 HC0_6.out A3.out).mono ?_); (case side1 => repeat (first | exact (Kd.C_below HR0_4.out HB.out) | (with_reducible refine Kd.C_alloc ?_ _) | (with_reducible refine Kd.C_drewN ?_ _) | (with_reducible refine Kd.C_drew ?_))); (case side3 => repeat (first | exact (Kd.C_below HR0_5.out HB.out) | (with_reducible refine Kd.C_alloc ?_ _) | (with_reducible refine Kd.C_drewN ?_ _) | (with_reducible refine Kd.C_drew ?_))); (case side5 => repeat (first | exact (Kd.C_below HR0_6.out HB.out) | (with_reducible refine Kd.C_alloc ?_ _) | (with_reducible refine Kd.C_drewN ?_ _) | (with_reducible refine Kd.C_drew ?_))); rintro e w16 ⟨rfl, hb⟩; refine ⟨_, rfl, ?_⟩; replace BK471 := am__ (blb__ BK471.out hb); replace BK472 := am__ (blb__ BK472.out hb); replace HB := am__ (below_step (bel__) hb); clear hb; obtain ⟨hcz17_0, hcz17_1, hcz17_2, hcz17_3, hcz17_4, hcz17_5, hfz17_0, hfz17_1, hfz17_2, hfz17_3, hfz17_4, hfz17_5⟩ := bk6__ BK472.out) | ((with_reducible refine gate_callee (f := 17) rfl ?_); refine gl__ (some 17) Try.func17 #[.agg #[.int .i64 a1_0, .slice A1_1 l1_1.length c1_1, .slice A1_2 l1_2.length c1_2, .int .i64 a1_3, .int .i64 a1_4, .int .i64 a1_5], .int .i64 t473] ?_; (with_reducible refine (laws_szRound.calls k a1_0 _ _ l1_1 _ _ l1_2 a1_3 a1_4 a1_5 t473 t474 _ ?side1 HC1_1.out ?side3 HC1_2.out A10.out).mono ?_); (case side1 => repeat (first | exact (Kd.C_below HR1_1.out HB.out) | (with_reducible refine Kd.C_alloc ?_ _) | (with_reducible refine Kd.C_drewN ?_ _) | (with_reducible refine Kd.C_drew ?_))); (case side3 => repeat (first | exact (Kd.C_below HR1_2.out HB.out) | (with_reducible refine Kd.C_alloc ?_ _) | (with_reducible refine Kd.C_drewN ?_ _) | (with_reducible refine Kd.C_drew ?_))); rintro e w18 ⟨rfl, hb⟩; refine ⟨_, rfl, ?_⟩; replace BK471 := am__ (blb__ BK471.out hb); replace BK472 := am__ (blb__ BK472.out hb); replace HB := am__ (below_step (bel__) hb); clear hb))
   go_ret
   exact ⟨ee__, bel__⟩
  ·rw [if_neg c11] at H
   have c11b0 := decide_eq_false c11
   clear c11
   replace H := Option.bind_eq_some_iff.mp H
   obtain ⟨⟨t475, t476, t477, t478, t479, t482, t485⟩, A190, H⟩ := H
   replace H : ((laws_toRound.f k a1_0 l1_1 l1_2 a1_3 a1_4 a1_5).bind fun bt488 => ((spec_ValidRound.f k t475 t476 t477 t478 t479 t482 t485 bt488.1 bt488.2.1 bt488.2.2.1 bt488.2.2.2.1 bt488.2.2.2.2.1 bt488.2.2.2.2.2).bind fun t498 => ((laws_toState.f k a0_0 a0_1 a0_2 a0_3 l0_4 l0_5 l0_6).bind fun bt499 => ((laws_toRound.f k a1_0 l1_1 l1_2 a1_3 a1_4 a1_5).bind fun bt513 => ((impl_ValidRound.f k bt499.1 bt499.2.1 bt499.2.2.1 bt499.2.2.2.1 bt499.2.2.2.2.1 bt499.2.2.2.2.2.1 bt499.2.2.2.2.2.2 bt513.1 bt513.2.1 bt513.2.2.1 bt513.2.2.2.1 bt513.2.2.2.2.1 bt513.2.2.2.2.2).bind fun t524 => (if (t524 != t498) = true then (none) else ((laws_toState.f k a0_0 a0_1 a0_2 a0_3 l0_4 l0_5 l0_6).bind fun bt525 => ((laws_eqState.f k bt499.1 bt499.2.1 bt499.2.2.1 bt499.2.2.2.1 bt499.2.2.2.2.1 bt499.2.2.2.2.2.1 bt499.2.2.2.2.2.2 bt525.1 bt525.2.1 bt525.2.2.1 bt525.2.2.2.1 bt525.2.2.2.2.1 bt525.2.2.2.2.2.1 bt525.2.2.2.2.2.2).bind fun t538 => (if t538 = true then ((laws_toRound.f k a1_0 l1_1 l1_2 a1_3 a1_4 a1_5).bind fun bt539 => ((laws_eqRound.f k bt513.1 bt513.2.1 bt513.2.2.1 bt513.2.2.2.1 bt513.2.2.2.2.1 bt513.2.2.2.2.2 bt539.1 bt539.2.1 bt539.2.2.1 bt539.2.2.2.1 bt539.2.2.2.2.1 bt539.2.2.2.2.2).bind fun t549 => (if t549 = true then (some true) else (none)))) else (none)))))))))) = some r := H
   have A19 := Aside0.mk A190
   clear A190
   replace H := Option.bind_eq_some_iff.mp H
   obtain ⟨⟨t488, t489, t492, t495, t496, t497⟩, A200, H⟩ := H
   replace H : ((spec_ValidRound.f k t475 t476 t477 t478 t479 t482 t485 t488 t489 t492 t495 t496 t497).bind fun t498 => ((laws_toState.f k a0_0 a0_1 a0_2 a0_3 l0_4 l0_5 l0_6).bind fun bt499 => ((laws_toRound.f k a1_0 l1_1 l1_2 a1_3 a1_4 a1_5).bind fun bt513 => ((impl_ValidRound.f k bt499.1 bt499.2.1 bt499.2.2.1 bt499.2.2.2.1 bt499.2.2.2.2.1 bt499.2.2.2.2.2.1 bt499.2.2.2.2.2.2 bt513.1 bt513.2.1 bt513.2.2.1 bt513.2.2.2.1 bt513.2.2.2.2.1 bt513.2.2.2.2.2).bind fun t524 => (if (t524 != t498) = true then (none) else ((laws_toState.f k a0_0 a0_1 a0_2 a0_3 l0_4 l0_5 l0_6).bind fun bt525 => ((laws_eqState.f k bt499.1 bt499.2.1 bt499.2.2.1 bt499.2.2.2.1 bt499.2.2.2.2.1 bt499.2.2.2.2.2.1 bt499.2.2.2.2.2.2 bt525.1 bt525.2.1 bt525.2.2.1 bt525.2.2.2.1 bt525.2.2.2.2.1 bt525.2.2.2.2.2.1 bt525.2.2.2.2.2.2).bind fun t538 => (if t538 = true then ((laws_toRound.f k a1_0 l1_1 l1_2 a1_3 a1_4 a1_5).bind fun bt539 => ((laws_eqRound.f k bt513.1 bt513.2.1 bt513.2.2.1 bt513.2.2.2.1 bt513.2.2.2.2.1 bt513.2.2.2.2.2 bt539.1 bt539.2.1 bt539.2.2.1 bt539.2.2.2.1 bt539.2.2.2.2.1 bt539.2.2.2.2.2).bind fun t549 => (if t549 = true then (some true) else (none)))) else (none))))))))) = some r := H
   have A20 := Aside0.mk A200
   clear A200
   replace H := Option.bind_eq_some_iff.mp H
   obtain ⟨t498, A210, H⟩ := H
   have A21 := Aside0.mk A210
   clear A210
   replace H := Option.bind_eq_some_iff.mp H
   obtain ⟨⟨t499, t500, t501, t502, t503, t506, t509⟩, A220, H⟩ := H
   replace H : ((laws_toRound.f k a1_0 l1_1 l1_2 a1_3 a1_4 a1_5).bind fun bt513 => ((impl_ValidRound.f k t499 t500 t501 t502 t503 t506 t509 bt513.1 bt513.2.1 bt513.2.2.1 bt513.2.2.2.1 bt513.2.2.2.2.1 bt513.2.2.2.2.2).bind fun t524 => (if (t524 != t498) = true then (none) else ((laws_toState.f k a0_0 a0_1 a0_2 a0_3 l0_4 l0_5 l0_6).bind fun bt525 => ((laws_eqState.f k t499 t500 t501 t502 t503 t506 t509 bt525.1 bt525.2.1 bt525.2.2.1 bt525.2.2.2.1 bt525.2.2.2.2.1 bt525.2.2.2.2.2.1 bt525.2.2.2.2.2.2).bind fun t538 => (if t538 = true then ((laws_toRound.f k a1_0 l1_1 l1_2 a1_3 a1_4 a1_5).bind fun bt539 => ((laws_eqRound.f k bt513.1 bt513.2.1 bt513.2.2.1 bt513.2.2.2.1 bt513.2.2.2.2.1 bt513.2.2.2.2.2 bt539.1 bt539.2.1 bt539.2.2.1 bt539.2.2.2.1 bt539.2.2.2.2.1 bt539.2.2.2.2.2).bind fun t549 => (if t549 = true then (some true) else (none)))) else (none))))))) = some r := H
   have A22 := Aside0.mk A220
   clear A220
   replace H := Option.bind_eq_some_iff.mp H
   obtain ⟨⟨t513, t514, t517, t520, t521, t522⟩, A230, H⟩ := H
   replace H : ((impl_ValidRound.f k t499 t500 t501 t502 t503 t506 t509 t513 t514 t517 t520 t521 t522).bind fun t524 => (if (t524 != t498) = true then (none) else ((laws_toState.f k a0_0 a0_1 a0_2 a0_3 l0_4 l0_5 l0_6).bind fun bt525 => ((laws_eqState.f k t499 t500 t501 t502 t503 t506 t509 bt525.1 bt525.2.1 bt525.2.2.1 bt525.2.2.2.1 bt525.2.2.2.2.1 bt525.2.2.2.2.2.1 bt525.2.2.2.2.2.2).bind fun t538 => (if t538 = true then ((laws_toRound.f k a1_0 l1_1 l1_2 a1_3 a1_4 a1_5).bind fun bt539 => ((laws_eqRound.f k t513 t514 t517 t520 t521 t522 bt539.1 bt539.2.1 bt539.2.2.1 bt539.2.2.2.1 bt539.2.2.2.2.1 bt539.2.2.2.2.2).bind fun t549 => (if t549 = true then (some true) else (none)))) else (none)))))) = some r := H
   have A23 := Aside0.mk A230
   clear A230
   replace H := Option.bind_eq_some_iff.mp H
   obtain ⟨t524, A240, H⟩ := H
   have A24 := Aside0.mk A240
   clear A240
   by_cases c25 : (t524 != t498) = true
   ·rw [if_pos c25] at H
    exact absurd H (by simp)
   ·rw [if_neg c25] at H
    have c25b0 : (t524 != t498) = false := by simpa using c25
    (try (have c25b1 : decide (t524 = t498) = true := by simpa using c25))
    (try (have c25b2 : (t524 == t498) = true := by simpa using c25))
    clear c25
    replace H := Option.bind_eq_some_iff.mp H
    obtain ⟨⟨t525, t526, t527, t528, t529, t532, t535⟩, A260, H⟩ := H
    replace H : ((laws_eqState.f k t499 t500 t501 t502 t503 t506 t509 t525 t526 t527 t528 t529 t532 t535).bind fun t538 => (if t538 = true then ((laws_toRound.f k a1_0 l1_1 l1_2 a1_3 a1_4 a1_5).bind fun bt539 => ((laws_eqRound.f k t513 t514 t517 t520 t521 t522 bt539.1 bt539.2.1 bt539.2.2.1 bt539.2.2.2.1 bt539.2.2.2.2.1 bt539.2.2.2.2.2).bind fun t549 => (if t549 = true then (some true) else (none)))) else (none))) = some r := H
    have A26 := Aside0.mk A260
    clear A260
    replace H := Option.bind_eq_some_iff.mp H
    obtain ⟨t538, A270, H⟩ := H
    have A27 := Aside0.mk A270
    clear A270
    by_cases c28 : t538 = true
    ·subst c28
     rw [if_pos rfl] at H
     replace H := Option.bind_eq_some_iff.mp H
     obtain ⟨⟨t539, t540, t543, t546, t547, t548⟩, A290, H⟩ := H
     replace H : ((laws_eqRound.f k t513 t514 t517 t520 t521 t522 t539 t540 t543 t546 t547 t548).bind fun t549 => (if t549 = true then (some true) else (none))) = some r := H
     have A29 := Aside0.mk A290
     clear A290
     replace H := Option.bind_eq_some_iff.mp H
     obtain ⟨t549, A300, H⟩ := H
     have A30 := Aside0.mk A300
     clear A300
     by_cases c31 : t549 = true
     ·subst c31
      rw [if_pos rfl] at H
      obtain rfl := Option.some.inj H
      go_enter Try.func5, Try.ntmps5
      try go_wp2_with (first | ((with_reducible refine gate_dst (N := 2) rfl ?_); refine be__ 2 #[.int .i64 a0_0, .int .i64 a0_1, .int .i64 a0_2, .int .i64 a0_3, .slice A0_4 l0_4.length c0_4, .slice A0_5 l0_5.length c0_5, .slice A0_6 l0_6.length c0_6] 26 ?_; intro gb471 hg w32 hbox hb; have BK471 := am__ (hbox); have GW471 := am__ ((bsz__ hg bel__ : w.heap.size ≤ gb471)); have GE471 := am__ ((bsz__ hg bel__ : w.heap.size ≤ gb471)); replace HB := am__ (below_step (bel__) hb); clear hb hbox hg) | ((with_reducible refine gate_dst (N := 3) rfl ?_); refine be__ 3 #[.int .i64 a1_0, .slice A1_1 l1_1.length c1_1, .slice A1_2 l1_2.length c1_2, .int .i64 a1_3, .int .i64 a1_4, .int .i64 a1_5] 40 ?_; intro gb472 hg w33 hbox hb; have BK472 := am__ (hbox); have GW472 := am__ ((bsz__ hg bel__ : w.heap.size ≤ gb472)); have GE472 := am__ ((bsz__ hg bel__ : w.heap.size ≤ gb472)); replace HB := am__ (below_step (bel__) hb); have NB471_472 := am__ ((nl__ hg BK471.out : gb471 ≠ gb472)); have NB472_471 := am__ ((ng__ hg BK471.out : gb472 ≠ gb471)); replace BK471 := am__ (blb__ BK471.out hb); clear hb hbox hg; have hnb34 := NB471_472.out; have hnc34 := NB472_471.out; obtain ⟨hcz35_0, hcz35_1, hcz35_2, hcz35_3, hcz35_4, hcz35_5, hcz35_6, hfz35_0, hfz35_1, hfz35_2, hfz35_3, hfz35_4, hfz35_5, hfz35_6⟩ := bk7__ BK471.out) | ((with_reducible refine gate_callee (f := 10) rfl ?_); refine gl__ (some 12) Try.func10 #[.agg #[.int .i64 a0_0, .int .i64 a0_1, .int .i64 a0_2, .int .i64 a0_3, .slice A0_4 l0_4.length c0_4, .slice A0_5 l0_5.length c0_5, .slice A0_6 l0_6.length c0_6], .int .i64 1048576] ?_; (with_reducible refine (laws_szState.calls k a0_0 a0_1 a0_2 a0_3 _ _ l0_4 _ _ l0_5 _ _ l0_6 1048576 t473 _ ?side1 HC0_4.out ?side3 HC0_5.out ?side5 HC0_6.out A3.out).mono ?_); (case side1 => repeat (first | exact (Kd.C_below HR0_4.out HB.out) | (with_reducible refine Kd.C_alloc ?_ _) | (with_reducible refine Kd.C_drewN ?_ _) | (with_reducible refine Kd.C_drew ?_))); (case side3 => repeat (first | exact (Kd.C_below HR0_5.out HB.out) | (with_reducible refine Kd.C_alloc ?_ _) | (with_reducible refine Kd.C_drewN ?_ _) | (with_reducible refine Kd.C_drew ?_))); (case side5 => repeat (first | exact (Kd.C_below HR0_6.out HB.out) | (with_reducible refine Kd.C_alloc ?_ _) | (with_reducible refine Kd.C_drewN ?_ _) | (with_reducible refine Kd.C_drew ?_))); rintro e w36 ⟨rfl, hb⟩; refine ⟨_, rfl, ?_⟩; replace BK471 := am__ (blb__ BK471.out hb); replace BK472 := am__ (blb__ BK472.out hb); replace HB := am__ (below_step (bel__) hb); clear hb; obtain ⟨hcz37_0, hcz37_1, hcz37_2, hcz37_3, hcz37_4, hcz37_5, hfz37_0, hfz37_1, hfz37_2, hfz37_3, hfz37_4, hfz37_5⟩ := bk6__ BK472.out) | ((with_reducible refine gate_callee (f := 17) rfl ?_); refine gl__ (some 17) Try.func17 #[.agg #[.int .i64 a1_0, .slice A1_1 l1_1.length c1_1, .slice A1_2 l1_2.length c1_2, .int .i64 a1_3, .int .i64 a1_4, .int .i64 a1_5], .int .i64 t473] ?_; (with_reducible refine (laws_szRound.calls k a1_0 _ _ l1_1 _ _ l1_2 a1_3 a1_4 a1_5 t473 t474 _ ?side1 HC1_1.out ?side3 HC1_2.out A10.out).mono ?_); (case side1 => repeat (first | exact (Kd.C_below HR1_1.out HB.out) | (with_reducible refine Kd.C_alloc ?_ _) | (with_reducible refine Kd.C_drewN ?_ _) | (with_reducible refine Kd.C_drew ?_))); (case side3 => repeat (first | exact (Kd.C_below HR1_2.out HB.out) | (with_reducible refine Kd.C_alloc ?_ _) | (with_reducible refine Kd.C_drewN ?_ _) | (with_reducible refine Kd.C_drew ?_))); rintro e w38 ⟨rfl, hb⟩; refine ⟨_, rfl, ?_⟩; replace BK471 := am__ (blb__ BK471.out hb); replace BK472 := am__ (blb__ BK472.out hb); replace HB := am__ (below_step (bel__) hb); clear hb))
      replace BK471 := am__ (blk_drew BK471.out)
      replace BK472 := am__ (blk_drew BK472.out)
      replace HB := am__ (below_drew1 HB.out)
      refine st__ 6 (c7a__ BK471.out (c6e__ BK472.out)) fun hHeld => ?_
      generalize w38.drew = w39 at BK471 BK472 HB hHeld ⊢
      refine take_ (i := 0) (N := some 20) (v := ?_) (a' := ?_) (mk__ 6 1) rfl rfl (by kernel_rfl) (fun _ _ _ h => h) (Or.inl ⟨by rfl, ?_⟩) hHeld ?_ ?_
      rotate_left
      ·rintro w' ⟨s0, s1, s2, s3, s4, s5, s6, s7, s8, s9, s10, s11, s12⟩
       go_simp
       with_reducible rfl
      rotate_left
      ·simp only [Act.put, List.setIfInBounds_toArray, List.set_cons_zero, List.set_cons_succ, i64_w, i32_w]
       rfl
      refine take_ (i := 2) (N := some 22) (v := ?_) (a' := ?_) (mk__ 6 5) rfl rfl (by kernel_rfl) (fun _ _ _ h => h) (Or.inl ⟨by rfl, ?_⟩) hHeld ?_ ?_
      rotate_left
      ·rintro w' ⟨s0, s1, s2, s3, s4, s5, s6, s7, s8, s9, s10, s11, s12⟩
       go_simp
       with_reducible rfl
      rotate_left
      ·simp only [Act.put, List.setIfInBounds_toArray, List.set_cons_zero, List.set_cons_succ, i64_w, i32_w]
       rfl
      refine one_ (i := 1) (N := some 21) (mk__ 6 7) rfl rfl (by kernel_rfl) (by decide) (fun K hK => ?_)
      refine gs__ Try.func12 #[.agg #[.int .i64 a0_0, .int .i64 a0_1, .int .i64 a0_2, .int .i64 a0_3, .slice A0_4 l0_4.length c0_4, .slice A0_5 l0_5.length c0_5, .slice A0_6 l0_6.length c0_6]] ?_
      with_reducible refine (laws_toState.calls k a0_0 a0_1 a0_2 a0_3 _ _ l0_4 _ _ l0_5 _ _ l0_6 t475 t476 t477 t478 t479 t482 t485 _ ?side1 ?side2 ?side3 ?side4 ?side5 ?side6 A19.out).mono ?_
      (case side1 => repeat (first | exact (Kd.C_below HR0_4.out HB.out) | (with_reducible refine Kd.C_alloc ?_ _) | (with_reducible refine Kd.C_drewN ?_ _) | (with_reducible refine Kd.C_drew ?_)))
      (case side2 => exact HC0_4.out)
      (case side3 => repeat (first | exact (Kd.C_below HR0_5.out HB.out) | (with_reducible refine Kd.C_alloc ?_ _) | (with_reducible refine Kd.C_drewN ?_ _) | (with_reducible refine Kd.C_drew ?_)))
      (case side4 => exact HC0_5.out)
      (case side5 => repeat (first | exact (Kd.C_below HR0_6.out HB.out) | (with_reducible refine Kd.C_alloc ?_ _) | (with_reducible refine Kd.C_drewN ?_ _) | (with_reducible refine Kd.C_drew ?_)))
      (case side6 => exact HC0_6.out)
      rintro e w40 ⟨v480, v483, v486, rfl, ho0, ho1, ho2, hb⟩
      refine ⟨_, rfl, ?_⟩
      have HO481 := am__ (Kd.S_lower ho0 (below_size (bel__)))
      have HO484 := am__ (Kd.R_lower ho1 (below_size (bel__)))
      have HO487 := am__ (Kd.R_lower ho2 (below_size (bel__)))
      replace BK471 := am__ (blb__ BK471.out hb)
      replace BK472 := am__ (blb__ BK472.out hb)
      replace HB := am__ (below_step (bel__) hb)
      (try clear hb)
      (try clear hb2)
      (try clear hk)
      (try clear hi)
      (try clear ho0)
      (try clear ho1)
      (try clear ho2)
      refine hK.out _ _ ⟨bc__ BK471.out 0, bc__ BK471.out 1, bc__ BK471.out 2, bc__ BK471.out 3, bc__ BK471.out 4, bc__ BK471.out 5, bc__ BK471.out 6, bc__ BK472.out 0, bc__ BK472.out 1, bc__ BK472.out 2, bc__ BK472.out 3, bc__ BK472.out 4, bc__ BK472.out 5⟩ (fun hHeld => ?_)
      clear hK K
      refine na__ 21 ?_
      refine one_ (i := 3) (N := some 23) (mk__ 6 15) rfl rfl (by kernel_rfl) (by decide) (fun K hK => ?_)
      refine gs__ Try.func19 #[.agg #[.int .i64 a1_0, .slice A1_1 l1_1.length c1_1, .slice A1_2 l1_2.length c1_2, .int .i64 a1_3, .int .i64 a1_4, .int .i64 a1_5]] ?_
      with_reducible refine (laws_toRound.calls k a1_0 _ _ l1_1 _ _ l1_2 a1_3 a1_4 a1_5 t488 t489 t492 t495 t496 t497 _ ?side1 ?side2 ?side3 ?side4 A20.out).mono ?_
      (case side1 => repeat (first | exact (Kd.C_below HR1_1.out HB.out) | (with_reducible refine Kd.C_alloc ?_ _) | (with_reducible refine Kd.C_drewN ?_ _) | (with_reducible refine Kd.C_drew ?_)))
      (case side2 => exact HC1_1.out)
      (case side3 => repeat (first | exact (Kd.C_below HR1_2.out HB.out) | (with_reducible refine Kd.C_alloc ?_ _) | (with_reducible refine Kd.C_drewN ?_ _) | (with_reducible refine Kd.C_drew ?_)))
      (case side4 => exact HC1_2.out)
      rintro e w41 ⟨v490, v493, rfl, ho0, ho1, hb⟩
      refine ⟨_, rfl, ?_⟩
      replace HO481 := am__ (Kd.S_mono (Kd.S_told (Kd.S_told (Kd.S_old (by (with_reducible repeat (first | apply Kd.S_alloc | apply Kd.S_drewN | apply Kd.S_drew)); exact HO481.out) hb) (Kd.R_base ho0)) (Kd.R_base ho1)) h1__)
      replace HO484 := am__ (Kd.R_below (rr__ HO484.out) hb)
      replace HO487 := am__ (Kd.R_below (rr__ HO487.out) hb)
      have HO491 := am__ (Kd.R_lower ho0 (below_size (bel__)))
      have HO494 := am__ (Kd.R_lower ho1 (below_size (bel__)))
      replace BK471 := am__ (blb__ BK471.out hb)
      replace BK472 := am__ (blb__ BK472.out hb)
      replace HB := am__ (below_step (bel__) hb)
      (try clear hb)
      (try clear hb2)
      (try clear hk)
      (try clear hi)
      (try clear ho0)
      (try clear ho1)
      obtain ⟨Ao42, co42, eo42⟩ := Kd.S_slice HO481.out
      (first | subst eo42 | (injection eo42 with f1_ f2_ f3_; have f4_ := f1_.symm; have f5_ := f3_.symm; clear f1_ f2_ f3_; subst f4_; subst f5_))
      obtain ⟨Ao43, co43, eo43⟩ := Kd.R_slice HO484.out
      (first | subst eo43 | (injection eo43 with f1_ f2_ f3_; have f4_ := f1_.symm; have f5_ := f3_.symm; clear f1_ f2_ f3_; subst f4_; subst f5_))
      obtain ⟨Ao44, co44, eo44⟩ := Kd.R_slice HO487.out
      (first | subst eo44 | (injection eo44 with f1_ f2_ f3_; have f4_ := f1_.symm; have f5_ := f3_.symm; clear f1_ f2_ f3_; subst f4_; subst f5_))
      obtain ⟨Ao45, co45, eo45⟩ := Kd.R_slice HO491.out
      (first | subst eo45 | (injection eo45 with f1_ f2_ f3_; have f4_ := f1_.symm; have f5_ := f3_.symm; clear f1_ f2_ f3_; subst f4_; subst f5_))
      obtain ⟨Ao46, co46, eo46⟩ := Kd.R_slice HO494.out
      (first | subst eo46 | (injection eo46 with f1_ f2_ f3_; have f4_ := f1_.symm; have f5_ := f3_.symm; clear f1_ f2_ f3_; subst f4_; subst f5_))
      refine hK.out _ _ ⟨bc__ BK471.out 0, bc__ BK471.out 1, bc__ BK471.out 2, bc__ BK471.out 3, bc__ BK471.out 4, bc__ BK471.out 5, bc__ BK471.out 6, bc__ BK472.out 0, bc__ BK472.out 1, bc__ BK472.out 2, bc__ BK472.out 3, bc__ BK472.out 4, bc__ BK472.out 5⟩ (fun hHeld => ?_)
      clear hK K
      refine na__ 23 ?_
      refine one_ (i := 4) (N := some 24) (mk__ 6 31) rfl rfl (by kernel_rfl) (by decide) (fun K hK => ?_)
      refine gs__ Try.func18 #[.agg #[.int .i64 t475, .int .i64 t476, .int .i64 t477, .int .i64 t478, .slice Ao42 t479.length co42, .slice Ao43 t482.length co43, .slice Ao44 t485.length co44], .agg #[.int .i64 t488, .slice Ao45 t489.length co45, .slice Ao46 t492.length co46, .int .i64 t495, .int .i64 t496, .int .i64 t497]] ?_
      with_reducible refine (spec_ValidRound.calls k t475 t476 t477 t478 _ _ t479 _ _ t482 _ _ t485 t488 _ _ t489 _ _ t492 t495 t496 t497 t498 _ ?side1 ?side2 ?side3 ?side4 ?side5 ?side6 ?side7 ?side8 ?side9 ?side10 A21.out).mono ?_
      (case side1 => repeat (first | exact (Kd.S_reads' HO481.out).2.2 | (with_reducible refine Kd.C_alloc ?_ _) | (with_reducible refine Kd.C_drewN ?_ _) | (with_reducible refine Kd.C_drew ?_)))
      (case side2 => exact (Kd.S_reads' HO481.out).2.1)
      (case side3 => repeat (first | exact (Kd.R_reads' HO484.out).2.2 | (with_reducible refine Kd.C_alloc ?_ _) | (with_reducible refine Kd.C_drewN ?_ _) | (with_reducible refine Kd.C_drew ?_)))
      (case side4 => exact (Kd.R_reads' HO484.out).2.1)
      (case side5 => repeat (first | exact (Kd.R_reads' HO487.out).2.2 | (with_reducible refine Kd.C_alloc ?_ _) | (with_reducible refine Kd.C_drewN ?_ _) | (with_reducible refine Kd.C_drew ?_)))
      (case side6 => exact (Kd.R_reads' HO487.out).2.1)
      (case side7 => repeat (first | exact (Kd.R_reads' HO491.out).2.2 | (with_reducible refine Kd.C_alloc ?_ _) | (with_reducible refine Kd.C_drewN ?_ _) | (with_reducible refine Kd.C_drew ?_)))
      (case side8 => exact (Kd.R_reads' HO491.out).2.1)
      (case side9 => repeat (first | exact (Kd.R_reads' HO494.out).2.2 | (with_reducible refine Kd.C_alloc ?_ _) | (with_reducible refine Kd.C_drewN ?_ _) | (with_reducible refine Kd.C_drew ?_)))
      (case side10 => exact (Kd.R_reads' HO494.out).2.1)
      rintro e w47 ⟨rfl, hb⟩
      refine ⟨_, rfl, ?_⟩
      replace HO481 := am__ (Kd.S_below (by (with_reducible repeat (first | apply Kd.S_alloc | apply Kd.S_drewN | apply Kd.S_drew)); exact HO481.out) hb)
      replace HO484 := am__ (Kd.R_below (rr__ HO484.out) hb)
      replace HO487 := am__ (Kd.R_below (rr__ HO487.out) hb)
      replace HO491 := am__ (Kd.R_below (rr__ HO491.out) hb)
      replace HO494 := am__ (Kd.R_below (rr__ HO494.out) hb)
      replace BK471 := am__ (blb__ BK471.out hb)
      replace BK472 := am__ (blb__ BK472.out hb)
      replace HB := am__ (below_step (bel__) hb)
      (try clear hb)
      (try clear hb2)
      (try clear hk)
      (try clear hi)
      refine hK.out _ _ ⟨bc__ BK471.out 0, bc__ BK471.out 1, bc__ BK471.out 2, bc__ BK471.out 3, bc__ BK471.out 4, bc__ BK471.out 5, bc__ BK471.out 6, bc__ BK472.out 0, bc__ BK472.out 1, bc__ BK472.out 2, bc__ BK472.out 3, bc__ BK472.out 4, bc__ BK472.out 5⟩ (fun hHeld => ?_)
      clear hK K
      refine na__ 24 ?_
      refine pure_ (i := 5) (N := some 6) (v := ?_) (a' := ?_) (mk__ 6 63) rfl rfl (by kernel_rfl) (fun _ _ _ h => h) (Or.inl ⟨by rfl, ?_⟩) ?_ ?_
      rotate_left
      ·intro w'
       go_simp
       with_reducible rfl
      rotate_left
      ·simp only [Act.put, List.setIfInBounds_toArray, List.set_cons_zero, List.set_cons_succ, i64_w, i32_w]
       rfl
      refine done_ (by kernel_rfl) ?_
      obtain ⟨hcz48_0, hcz48_1, hcz48_2, hcz48_3, hcz48_4, hcz48_5, hcz48_6, hfz48_0, hfz48_1, hfz48_2, hfz48_3, hfz48_4, hfz48_5, hfz48_6⟩ := bk7__ BK471.out
      try go_wp2_with (first | ((with_reducible refine gate_callee (f := 12) rfl ?_); refine gl__ (some 26) Try.func12 #[.agg #[.int .i64 a0_0, .int .i64 a0_1, .int .i64 a0_2, .int .i64 a0_3, .slice A0_4 l0_4.length c0_4, .slice A0_5 l0_5.length c0_5, .slice A0_6 l0_6.length c0_6]] ?_; (with_reducible refine (laws_toState.calls k a0_0 a0_1 a0_2 a0_3 _ _ l0_4 _ _ l0_5 _ _ l0_6 t499 t500 t501 t502 t503 t506 t509 _ ?side1 HC0_4.out ?side3 HC0_5.out ?side5 HC0_6.out A22.out).mono ?_); (case side1 => repeat (first | exact (Kd.C_below HR0_4.out HB.out) | (with_reducible refine Kd.C_alloc ?_ _) | (with_reducible refine Kd.C_drewN ?_ _) | (with_reducible refine Kd.C_drew ?_))); (case side3 => repeat (first | exact (Kd.C_below HR0_5.out HB.out) | (with_reducible refine Kd.C_alloc ?_ _) | (with_reducible refine Kd.C_drewN ?_ _) | (with_reducible refine Kd.C_drew ?_))); (case side5 => repeat (first | exact (Kd.C_below HR0_6.out HB.out) | (with_reducible refine Kd.C_alloc ?_ _) | (with_reducible refine Kd.C_drewN ?_ _) | (with_reducible refine Kd.C_drew ?_))); rintro e w49 ⟨v504, v507, v510, rfl, ho0, ho1, ho2, hb⟩; refine ⟨_, rfl, ?_⟩; have HO505 := am__ (Kd.S_lower (Kd.S_new' (Kd.S_new' (Kd.S_new' ho0 (Kd.S_lt (by (with_reducible repeat (first | apply Kd.S_alloc | apply Kd.S_drewN | apply Kd.S_drew)); exact HO481.out))) (Kd.R_lt (rr__ HO491.out))) (Kd.R_lt (rr__ HO494.out))) (below_size (bel__))); replace HO481 := am__ (Kd.S_elder' (by (with_reducible repeat (first | apply Kd.S_alloc | apply Kd.S_drewN | apply Kd.S_drew)); exact HO481.out) (Kd.S_base ho0) hb); replace HO491 := am__ (Kd.R_below (rr__ HO491.out) hb); replace HO494 := am__ (Kd.R_below (rr__ HO494.out) hb); have HO508 := am__ (Kd.R_lower (Kd.R_new' ho1 (Kd.R_lt (rr__ HO484.out))) (below_size (bel__))); replace HO484 := am__ (Kd.R_elder' (rr__ HO484.out) (Kd.R_base ho1) hb); have HO511 := am__ (Kd.R_lower (Kd.R_new' ho2 (Kd.R_lt (rr__ HO487.out))) (below_size (bel__))); replace HO487 := am__ (Kd.R_elder' (rr__ HO487.out) (Kd.R_base ho2) hb); replace BK471 := am__ (blb__ BK471.out hb); replace BK472 := am__ (blb__ BK472.out hb); replace HB := am__ (below_step (bel__) hb); clear hb; (try clear ho0); (try clear ho1); (try clear ho2)) | ((with_reducible refine gate_dst (N := 7) rfl ?_); refine be__ 7 #[.int .i64 0, .int .i64 0, .int .i64 0, .int .i64 0, .slice none 0 0, .slice none 0 0, .slice none 0 0] 33 ?_; intro gb512 hg w50 hbox hb; replace HO481 := am__ (Kd.S_below (by (with_reducible repeat (first | apply Kd.S_alloc | apply Kd.S_drewN | apply Kd.S_drew)); exact HO481.out) hb); replace HO484 := am__ (Kd.R_below (rr__ HO484.out) hb); replace HO487 := am__ (Kd.R_below (rr__ HO487.out) hb); replace HO491 := am__ (Kd.R_below (rr__ HO491.out) hb); replace HO494 := am__ (Kd.R_below (rr__ HO494.out) hb); replace HO505 := am__ (Kd.S_below (by (with_reducible repeat (first | apply Kd.S_alloc | apply Kd.S_drewN | apply Kd.S_drew)); exact HO505.out) hb); replace HO508 := am__ (Kd.R_below (rr__ HO508.out) hb); replace HO511 := am__ (Kd.R_below (rr__ HO511.out) hb); have BK512 := am__ (hbox); have GW512 := am__ ((bsz__ hg bel__ : w.heap.size ≤ gb512)); have GE512 := am__ ((bsz__ hg bel__ : w.heap.size ≤ gb512)); replace HB := am__ (below_step (bel__) hb); have NB471_512 := am__ ((nl__ hg BK471.out : gb471 ≠ gb512)); have NB512_471 := am__ ((ng__ hg BK471.out : gb512 ≠ gb471)); replace BK471 := am__ (blb__ BK471.out hb); have NB472_512 := am__ ((nl__ hg BK472.out : gb472 ≠ gb512)); have NB512_472 := am__ ((ng__ hg BK472.out : gb512 ≠ gb472)); replace BK472 := am__ (blb__ BK472.out hb); clear hb hbox hg; have hnb51 := NB512_471.out; have hnc51 := NB471_512.out; have hnb52 := NB512_472.out; have hnc52 := NB472_512.out; obtain ⟨hcz53_0, hcz53_1, hcz53_2, hcz53_3, hcz53_4, hcz53_5, hcz53_6, hfz53_0, hfz53_1, hfz53_2, hfz53_3, hfz53_4, hfz53_5, hfz53_6⟩ := bk7__ BK512.out; obtain ⟨Ao54, co54, eo54⟩ := Kd.S_slice HO505.out; subst eo54; obtain ⟨Ao55, co55, eo55⟩ := Kd.R_slice HO508.out; subst eo55; obtain ⟨Ao56, co56, eo56⟩ := Kd.R_slice HO511.out; subst eo56; obtain ⟨hcz57_0, hcz57_1, hcz57_2, hcz57_3, hcz57_4, hcz57_5, hfz57_0, hfz57_1, hfz57_2, hfz57_3, hfz57_4, hfz57_5⟩ := bk6__ BK472.out) | ((with_reducible refine gate_callee (f := 19) rfl ?_); refine gl__ (some 28) Try.func19 #[.agg #[.int .i64 a1_0, .slice A1_1 l1_1.length c1_1, .slice A1_2 l1_2.length c1_2, .int .i64 a1_3, .int .i64 a1_4, .int .i64 a1_5]] ?_; (with_reducible refine (laws_toRound.calls k a1_0 _ _ l1_1 _ _ l1_2 a1_3 a1_4 a1_5 t513 t514 t517 t520 t521 t522 _ ?side1 HC1_1.out ?side3 HC1_2.out A23.out).mono ?_); (case side1 => exact Kd.C_below HR1_1.out (bel__)); (case side3 => exact Kd.C_below HR1_2.out (bel__)); rintro e w58 ⟨v515, v518, rfl, ho0, ho1, hb⟩; refine ⟨_, rfl, ?_⟩; replace HO481 := am__ (Kd.S_mono (Kd.S_told (Kd.S_told (Kd.S_old (by (with_reducible repeat (first | apply Kd.S_alloc | apply Kd.S_drewN | apply Kd.S_drew)); exact (Kd.S_mono (Kd.S_far (p := ⟨gb512, 6, none⟩) (Kd.S_far (p := ⟨gb512, 5, none⟩) (Kd.S_far (p := ⟨gb512, 4, none⟩) (Kd.S_far (p := ⟨gb512, 3, none⟩) (Kd.S_far (p := ⟨gb512, 2, none⟩) (Kd.S_far (p := ⟨gb512, 1, none⟩) (Kd.S_far (p := ⟨gb512, 0, none⟩) (Kd.S_types HO481.out BK512.out (by decide)) h2__ (.int .i64 t499)) h2__ (.int .i64 t500)) h2__ (.int .i64 t501)) h2__ (.int .i64 t502)) h2__ (.slice Ao54 t503.length co54)) h2__ (.slice Ao55 t506.length co55)) h2__ (.slice Ao56 t509.length co56)) h1__)) hb) (Kd.R_base ho0)) (Kd.R_base ho1)) h1__); replace HO484 := am__ (Kd.R_below (by refine rps__ ?_; exact (Kd.R_mono (Kd.R_far (p := ⟨gb512, 6, none⟩) (Kd.R_far (p := ⟨gb512, 5, none⟩) (Kd.R_far (p := ⟨gb512, 4, none⟩) (Kd.R_far (p := ⟨gb512, 3, none⟩) (Kd.R_far (p := ⟨gb512, 2, none⟩) (Kd.R_far (p := ⟨gb512, 1, none⟩) (Kd.R_far (p := ⟨gb512, 0, none⟩) (Kd.R_types HO484.out BK512.out (by decide)) h2__ (.int .i64 t499)) h2__ (.int .i64 t500)) h2__ (.int .i64 t501)) h2__ (.int .i64 t502)) h2__ (.slice Ao54 t503.length co54)) h2__ (.slice Ao55 t506.length co55)) h2__ (.slice Ao56 t509.length co56)) h1__)) hb); replace HO487 := am__ (Kd.R_below (by refine rps__ ?_; exact (Kd.R_mono (Kd.R_far (p := ⟨gb512, 6, none⟩) (Kd.R_far (p := ⟨gb512, 5, none⟩) (Kd.R_far (p := ⟨gb512, 4, none⟩) (Kd.R_far (p := ⟨gb512, 3, none⟩) (Kd.R_far (p := ⟨gb512, 2, none⟩) (Kd.R_far (p := ⟨gb512, 1, none⟩) (Kd.R_far (p := ⟨gb512, 0, none⟩) (Kd.R_types HO487.out BK512.out (by decide)) h2__ (.int .i64 t499)) h2__ (.int .i64 t500)) h2__ (.int .i64 t501)) h2__ (.int .i64 t502)) h2__ (.slice Ao54 t503.length co54)) h2__ (.slice Ao55 t506.length co55)) h2__ (.slice Ao56 t509.length co56)) h1__)) hb); replace HO505 := am__ (Kd.S_mono (Kd.S_told (Kd.S_told (Kd.S_old (by (with_reducible repeat (first | apply Kd.S_alloc | apply Kd.S_drewN | apply Kd.S_drew)); exact (Kd.S_mono (Kd.S_far (p := ⟨gb512, 6, none⟩) (Kd.S_far (p := ⟨gb512, 5, none⟩) (Kd.S_far (p := ⟨gb512, 4, none⟩) (Kd.S_far (p := ⟨gb512, 3, none⟩) (Kd.S_far (p := ⟨gb512, 2, none⟩) (Kd.S_far (p := ⟨gb512, 1, none⟩) (Kd.S_far (p := ⟨gb512, 0, none⟩) (Kd.S_types HO505.out BK512.out (by decide)) h2__ (.int .i64 t499)) h2__ (.int .i64 t500)) h2__ (.int .i64 t501)) h2__ (.int .i64 t502)) h2__ (.slice Ao54 t503.length co54)) h2__ (.slice Ao55 t506.length co55)) h2__ (.slice Ao56 t509.length co56)) h1__)) hb) (Kd.R_base ho0)) (Kd.R_base ho1)) h1__); replace HO508 := am__ (Kd.R_below (by refine rps__ ?_; exact (Kd.R_mono (Kd.R_far (p := ⟨gb512, 6, none⟩) (Kd.R_far (p := ⟨gb512, 5, none⟩) (Kd.R_far (p := ⟨gb512, 4, none⟩) (Kd.R_far (p := ⟨gb512, 3, none⟩) (Kd.R_far (p := ⟨gb512, 2, none⟩) (Kd.R_far (p := ⟨gb512, 1, none⟩) (Kd.R_far (p := ⟨gb512, 0, none⟩) (Kd.R_types HO508.out BK512.out (by decide)) h2__ (.int .i64 t499)) h2__ (.int .i64 t500)) h2__ (.int .i64 t501)) h2__ (.int .i64 t502)) h2__ (.slice Ao54 t503.length co54)) h2__ (.slice Ao55 t506.length co55)) h2__ (.slice Ao56 t509.length co56)) h1__)) hb); replace HO511 := am__ (Kd.R_below (by refine rps__ ?_; exact (Kd.R_mono (Kd.R_far (p := ⟨gb512, 6, none⟩) (Kd.R_far (p := ⟨gb512, 5, none⟩) (Kd.R_far (p := ⟨gb512, 4, none⟩) (Kd.R_far (p := ⟨gb512, 3, none⟩) (Kd.R_far (p := ⟨gb512, 2, none⟩) (Kd.R_far (p := ⟨gb512, 1, none⟩) (Kd.R_far (p := ⟨gb512, 0, none⟩) (Kd.R_types HO511.out BK512.out (by decide)) h2__ (.int .i64 t499)) h2__ (.int .i64 t500)) h2__ (.int .i64 t501)) h2__ (.int .i64 t502)) h2__ (.slice Ao54 t503.length co54)) h2__ (.slice Ao55 t506.length co55)) h2__ (.slice Ao56 t509.length co56)) h1__)) hb); have HO516 := am__ (Kd.R_lower (Kd.R_new' (Kd.R_new' ho0 (Kd.R_lt (by refine rps__ ?_; exact (Kd.R_mono (Kd.R_far (p := ⟨gb512, 6, none⟩) (Kd.R_far (p := ⟨gb512, 5, none⟩) (Kd.R_far (p := ⟨gb512, 4, none⟩) (Kd.R_far (p := ⟨gb512, 3, none⟩) (Kd.R_far (p := ⟨gb512, 2, none⟩) (Kd.R_far (p := ⟨gb512, 1, none⟩) (Kd.R_far (p := ⟨gb512, 0, none⟩) (Kd.R_types HO491.out BK512.out (by decide)) h2__ (.int .i64 t499)) h2__ (.int .i64 t500)) h2__ (.int .i64 t501)) h2__ (.int .i64 t502)) h2__ (.slice Ao54 t503.length co54)) h2__ (.slice Ao55 t506.length co55)) h2__ (.slice Ao56 t509.length co56)) h1__)))) (Kd.R_lt (by refine rps__ ?_; exact (Kd.R_mono (Kd.R_far (p := ⟨gb512, 6, none⟩) (Kd.R_far (p := ⟨gb512, 5, none⟩) (Kd.R_far (p := ⟨gb512, 4, none⟩) (Kd.R_far (p := ⟨gb512, 3, none⟩) (Kd.R_far (p := ⟨gb512, 2, none⟩) (Kd.R_far (p := ⟨gb512, 1, none⟩) (Kd.R_far (p := ⟨gb512, 0, none⟩) (Kd.R_types HO494.out BK512.out (by decide)) h2__ (.int .i64 t499)) h2__ (.int .i64 t500)) h2__ (.int .i64 t501)) h2__ (.int .i64 t502)) h2__ (.slice Ao54 t503.length co54)) h2__ (.slice Ao55 t506.length co55)) h2__ (.slice Ao56 t509.length co56)) h1__)))) (below_size (bel__))); have HO519 := am__ (Kd.R_lower (Kd.R_new' (Kd.R_new' ho1 (Kd.R_lt (by refine rps__ ?_; exact (Kd.R_mono (Kd.R_far (p := ⟨gb512, 6, none⟩) (Kd.R_far (p := ⟨gb512, 5, none⟩) (Kd.R_far (p := ⟨gb512, 4, none⟩) (Kd.R_far (p := ⟨gb512, 3, none⟩) (Kd.R_far (p := ⟨gb512, 2, none⟩) (Kd.R_far (p := ⟨gb512, 1, none⟩) (Kd.R_far (p := ⟨gb512, 0, none⟩) (Kd.R_types HO491.out BK512.out (by decide)) h2__ (.int .i64 t499)) h2__ (.int .i64 t500)) h2__ (.int .i64 t501)) h2__ (.int .i64 t502)) h2__ (.slice Ao54 t503.length co54)) h2__ (.slice Ao55 t506.length co55)) h2__ (.slice Ao56 t509.length co56)) h1__)))) (Kd.R_lt (by refine rps__ ?_; exact (Kd.R_mono (Kd.R_far (p := ⟨gb512, 6, none⟩) (Kd.R_far (p := ⟨gb512, 5, none⟩) (Kd.R_far (p := ⟨gb512, 4, none⟩) (Kd.R_far (p := ⟨gb512, 3, none⟩) (Kd.R_far (p := ⟨gb512, 2, none⟩) (Kd.R_far (p := ⟨gb512, 1, none⟩) (Kd.R_far (p := ⟨gb512, 0, none⟩) (Kd.R_types HO494.out BK512.out (by decide)) h2__ (.int .i64 t499)) h2__ (.int .i64 t500)) h2__ (.int .i64 t501)) h2__ (.int .i64 t502)) h2__ (.slice Ao54 t503.length co54)) h2__ (.slice Ao55 t506.length co55)) h2__ (.slice Ao56 t509.length co56)) h1__)))) (below_size (bel__))); replace HO491 := am__ (Kd.R_mono (Kd.R_told (Kd.R_told (Kd.R_old (by refine rps__ ?_; exact (Kd.R_mono (Kd.R_far (p := ⟨gb512, 6, none⟩) (Kd.R_far (p := ⟨gb512, 5, none⟩) (Kd.R_far (p := ⟨gb512, 4, none⟩) (Kd.R_far (p := ⟨gb512, 3, none⟩) (Kd.R_far (p := ⟨gb512, 2, none⟩) (Kd.R_far (p := ⟨gb512, 1, none⟩) (Kd.R_far (p := ⟨gb512, 0, none⟩) (Kd.R_types HO491.out BK512.out (by decide)) h2__ (.int .i64 t499)) h2__ (.int .i64 t500)) h2__ (.int .i64 t501)) h2__ (.int .i64 t502)) h2__ (.slice Ao54 t503.length co54)) h2__ (.slice Ao55 t506.length co55)) h2__ (.slice Ao56 t509.length co56)) h1__)) hb) (Kd.R_base ho0)) (Kd.R_base ho1)) h1__); replace HO494 := am__ (Kd.R_mono (Kd.R_told (Kd.R_told (Kd.R_old (by refine rps__ ?_; exact (Kd.R_mono (Kd.R_far (p := ⟨gb512, 6, none⟩) (Kd.R_far (p := ⟨gb512, 5, none⟩) (Kd.R_far (p := ⟨gb512, 4, none⟩) (Kd.R_far (p := ⟨gb512, 3, none⟩) (Kd.R_far (p := ⟨gb512, 2, none⟩) (Kd.R_far (p := ⟨gb512, 1, none⟩) (Kd.R_far (p := ⟨gb512, 0, none⟩) (Kd.R_types HO494.out BK512.out (by decide)) h2__ (.int .i64 t499)) h2__ (.int .i64 t500)) h2__ (.int .i64 t501)) h2__ (.int .i64 t502)) h2__ (.slice Ao54 t503.length co54)) h2__ (.slice Ao55 t506.length co55)) h2__ (.slice Ao56 t509.length co56)) h1__)) hb) (Kd.R_base ho0)) (Kd.R_base ho1)) h1__); replace BK471 := am__ (blk_below (g := gb471) (o := .cells #[.int .i64 a0_0, .int .i64 a0_1, .int .i64 a0_2, .int .i64 a0_3, .slice A0_4 l0_4.length c0_4, .slice A0_5 l0_5.length c0_5, .slice A0_6 l0_6.length c0_6] 26 (0, 0)) (blf7__ BK471.out) hb); replace BK472 := am__ (blk_below (g := gb472) (o := .cells #[.int .i64 a1_0, .slice A1_1 l1_1.length c1_1, .slice A1_2 l1_2.length c1_2, .int .i64 a1_3, .int .i64 a1_4, .int .i64 a1_5] 40 (0, 0)) (blf7__ BK472.out) hb); replace BK512 := am__ (blk_below (g := gb512) (o := .cells #[.int .i64 t499, .int .i64 t500, .int .i64 t501, .int .i64 t502, .slice Ao54 t503.length co54, .slice Ao55 t506.length co55, .slice Ao56 t509.length co56] 33 (0, 0)) (bpu__ BK512.out) hb); replace HB := am__ (below_step (bel__) hb); clear hb; (try clear ho0); (try clear ho1)) | ((with_reducible refine gate_dst (N := 8) rfl ?_); refine be__ 8 #[.int .i64 0, .slice none 0 0, .slice none 0 0, .int .i64 0, .int .i64 0, .int .i64 0] 43 ?_; intro gb523 hg w59 hbox hb; replace HO481 := am__ (Kd.S_below (by (with_reducible repeat (first | apply Kd.S_alloc | apply Kd.S_drewN | apply Kd.S_drew)); exact HO481.out) hb); replace HO484 := am__ (Kd.R_below (rr__ HO484.out) hb); replace HO487 := am__ (Kd.R_below (rr__ HO487.out) hb); replace HO491 := am__ (Kd.R_below (rr__ HO491.out) hb); replace HO494 := am__ (Kd.R_below (rr__ HO494.out) hb); replace HO505 := am__ (Kd.S_below (by (with_reducible repeat (first | apply Kd.S_alloc | apply Kd.S_drewN | apply Kd.S_drew)); exact HO505.out) hb); replace HO508 := am__ (Kd.R_below (rr__ HO508.out) hb); replace HO511 := am__ (Kd.R_below (rr__ HO511.out) hb); replace HO516 := am__ (Kd.R_below (rr__ HO516.out) hb); replace HO519 := am__ (Kd.R_below (rr__ HO519.out) hb); have BK523 := am__ (hbox); have GW523 := am__ ((bsz__ hg bel__ : w.heap.size ≤ gb523)); have GE523 := am__ ((bsz__ hg bel__ : w.heap.size ≤ gb523)); replace HB := am__ (below_step (bel__) hb); have NB471_523 := am__ ((nl__ hg BK471.out : gb471 ≠ gb523)); have NB523_471 := am__ ((ng__ hg BK471.out : gb523 ≠ gb471)); replace BK471 := am__ (blb__ BK471.out hb); have NB472_523 := am__ ((nl__ hg BK472.out : gb472 ≠ gb523)); have NB523_472 := am__ ((ng__ hg BK472.out : gb523 ≠ gb472)); replace BK472 := am__ (blb__ BK472.out hb); have NB512_523 := am__ ((nl__ hg BK512.out : gb512 ≠ gb523)); have NB523_512 := am__ ((ng__ hg BK512.out : gb523 ≠ gb512)); replace BK512 := am__ (blb__ BK512.out hb); clear hb hbox hg; have hnb60 := NB523_471.out; have hnc60 := NB471_523.out; have hnb61 := NB523_472.out; have hnc61 := NB472_523.out; have hnb62 := NB523_512.out; have hnc62 := NB512_523.out; obtain ⟨hcz63_0, hcz63_1, hcz63_2, hcz63_3, hcz63_4, hcz63_5, hfz63_0, hfz63_1, hfz63_2, hfz63_3, hfz63_4, hfz63_5⟩ := bk6__ BK523.out; obtain ⟨Ao64, co64, eo64⟩ := Kd.R_slice HO516.out; subst eo64; obtain ⟨Ao65, co65, eo65⟩ := Kd.R_slice HO519.out; subst eo65; obtain ⟨hcz66_0, hcz66_1, hcz66_2, hcz66_3, hcz66_4, hcz66_5, hcz66_6, hfz66_0, hfz66_1, hfz66_2, hfz66_3, hfz66_4, hfz66_5, hfz66_6⟩ := bk7__ BK512.out) | ((with_reducible refine gate_callee (f := 20) rfl ?_); refine gl__ (some 31) Try.func20 #[.agg #[.int .i64 t499, .int .i64 t500, .int .i64 t501, .int .i64 t502, .slice Ao54 t503.length co54, .slice Ao55 t506.length co55, .slice Ao56 t509.length co56], .agg #[.int .i64 t513, .slice Ao64 t514.length co64, .slice Ao65 t517.length co65, .int .i64 t520, .int .i64 t521, .int .i64 t522]] ?_; (with_reducible refine (impl_ValidRound.calls k t499 t500 t501 t502 _ _ t503 _ _ t506 _ _ t509 t513 _ _ t514 _ _ t517 t520 t521 t522 t524 _ ?side1 ?side2 ?side3 ?side4 ?side5 ?side6 ?side7 ?side8 ?side9 ?side10 A24.out).mono ?_); (case side1 => refine (Kd.S_reads' (e := 91) (base := w.heap.size) (ok := fun k_ => (((((True ∧ some k_ ≠ (ob__ Ao42 t479.length co42)) ∧ some k_ ≠ (ob__ Ao45 t489.length co45)) ∧ some k_ ≠ (ob__ Ao46 t492.length co46)) ∧ some k_ ≠ (ob__ Ao64 t514.length co64)) ∧ some k_ ≠ (ob__ Ao65 t517.length co65))) (n := t503.length) (c := co54) ?_).2.2; exact (by (with_reducible repeat (first | apply Kd.S_alloc | apply Kd.S_drewN | apply Kd.S_drew)); exact (Kd.S_mono (Kd.S_far (p := ⟨gb523, 5, none⟩) (Kd.S_far (p := ⟨gb523, 4, none⟩) (Kd.S_far (p := ⟨gb523, 3, none⟩) (Kd.S_far (p := ⟨gb523, 2, none⟩) (Kd.S_far (p := ⟨gb523, 1, none⟩) (Kd.S_far (p := ⟨gb523, 0, none⟩) (Kd.S_types HO505.out BK523.out (by decide)) h2__ (.int .i64 t513)) h2__ (.slice Ao64 t514.length co64)) h2__ (.slice Ao65 t517.length co65)) h2__ (.int .i64 t520)) h2__ (.int .i64 t521)) h2__ (.int .i64 t522)) h1__))); (case side2 => exact (Kd.S_reads' HO505.out).2.1); (case side3 => refine (Kd.R_reads' (e := 82) (base := w.heap.size) (ok := fun k_ => (True ∧ some k_ ≠ (ob__ Ao43 t482.length co43))) (n := t506.length) (c := co55) ?_).2.2; exact (by refine rps__ ?_; exact (Kd.R_mono (Kd.R_far (p := ⟨gb523, 5, none⟩) (Kd.R_far (p := ⟨gb523, 4, none⟩) (Kd.R_far (p := ⟨gb523, 3, none⟩) (Kd.R_far (p := ⟨gb523, 2, none⟩) (Kd.R_far (p := ⟨gb523, 1, none⟩) (Kd.R_far (p := ⟨gb523, 0, none⟩) (Kd.R_types HO508.out BK523.out (by decide)) h2__ (.int .i64 t513)) h2__ (.slice Ao64 t514.length co64)) h2__ (.slice Ao65 t517.length co65)) h2__ (.int .i64 t520)) h2__ (.int .i64 t521)) h2__ (.int .i64 t522)) h1__))); (case side4 => exact (Kd.R_reads' HO508.out).2.1); (case side5 => refine (Kd.R_reads' (e := 85) (base := w.heap.size) (ok := fun k_ => (True ∧ some k_ ≠ (ob__ Ao44 t485.length co44))) (n := t509.length) (c := co56) ?_).2.2; exact (by refine rps__ ?_; exact (Kd.R_mono (Kd.R_far (p := ⟨gb523, 5, none⟩) (Kd.R_far (p := ⟨gb523, 4, none⟩) (Kd.R_far (p := ⟨gb523, 3, none⟩) (Kd.R_far (p := ⟨gb523, 2, none⟩) (Kd.R_far (p := ⟨gb523, 1, none⟩) (Kd.R_far (p := ⟨gb523, 0, none⟩) (Kd.R_types HO511.out BK523.out (by decide)) h2__ (.int .i64 t513)) h2__ (.slice Ao64 t514.length co64)) h2__ (.slice Ao65 t517.length co65)) h2__ (.int .i64 t520)) h2__ (.int .i64 t521)) h2__ (.int .i64 t522)) h1__))); (case side6 => exact (Kd.R_reads' HO511.out).2.1); (case side7 => refine (Kd.R_reads' (e := 9) (base := w.heap.size) (ok := fun k_ => ((some k_ ≠ (ob__ Ao65 t517.length co65) ∧ some k_ ≠ (ob__ Ao45 t489.length co45)) ∧ some k_ ≠ (ob__ Ao46 t492.length co46))) (n := t514.length) (c := co64) ?_).2.2; exact (by refine rps__ ?_; exact (Kd.R_mono (Kd.R_far (p := ⟨gb523, 5, none⟩) (Kd.R_far (p := ⟨gb523, 4, none⟩) (Kd.R_far (p := ⟨gb523, 3, none⟩) (Kd.R_far (p := ⟨gb523, 2, none⟩) (Kd.R_far (p := ⟨gb523, 1, none⟩) (Kd.R_far (p := ⟨gb523, 0, none⟩) (Kd.R_types HO516.out BK523.out (by decide)) h2__ (.int .i64 t513)) h2__ (.slice Ao64 t514.length co64)) h2__ (.slice Ao65 t517.length co65)) h2__ (.int .i64 t520)) h2__ (.int .i64 t521)) h2__ (.int .i64 t522)) h1__))); (case side8 => exact (Kd.R_reads' HO516.out).2.1); (case side9 => refine (Kd.R_reads' (e := 9) (base := w.heap.size) (ok := fun k_ => ((some k_ ≠ (ob__ Ao64 t514.length co64) ∧ some k_ ≠ (ob__ Ao45 t489.length co45)) ∧ some k_ ≠ (ob__ Ao46 t492.length co46))) (n := t517.length) (c := co65) ?_).2.2; exact (by refine rps__ ?_; exact (Kd.R_mono (Kd.R_far (p := ⟨gb523, 5, none⟩) (Kd.R_far (p := ⟨gb523, 4, none⟩) (Kd.R_far (p := ⟨gb523, 3, none⟩) (Kd.R_far (p := ⟨gb523, 2, none⟩) (Kd.R_far (p := ⟨gb523, 1, none⟩) (Kd.R_far (p := ⟨gb523, 0, none⟩) (Kd.R_types HO519.out BK523.out (by decide)) h2__ (.int .i64 t513)) h2__ (.slice Ao64 t514.length co64)) h2__ (.slice Ao65 t517.length co65)) h2__ (.int .i64 t520)) h2__ (.int .i64 t521)) h2__ (.int .i64 t522)) h1__))); (case side10 => exact (Kd.R_reads' HO519.out).2.1); rintro e w67 ⟨rfl, hb⟩; refine ⟨_, rfl, ?_⟩; replace HO481 := am__ (Kd.S_below (by (with_reducible repeat (first | apply Kd.S_alloc | apply Kd.S_drewN | apply Kd.S_drew)); exact (Kd.S_mono (Kd.S_far (p := ⟨gb523, 5, none⟩) (Kd.S_far (p := ⟨gb523, 4, none⟩) (Kd.S_far (p := ⟨gb523, 3, none⟩) (Kd.S_far (p := ⟨gb523, 2, none⟩) (Kd.S_far (p := ⟨gb523, 1, none⟩) (Kd.S_far (p := ⟨gb523, 0, none⟩) (Kd.S_types HO481.out BK523.out (by decide)) h2__ (.int .i64 t513)) h2__ (.slice Ao64 t514.length co64)) h2__ (.slice Ao65 t517.length co65)) h2__ (.int .i64 t520)) h2__ (.int .i64 t521)) h2__ (.int .i64 t522)) h1__)) hb); replace HO484 := am__ (Kd.R_below (by refine rps__ ?_; exact (Kd.R_mono (Kd.R_far (p := ⟨gb523, 5, none⟩) (Kd.R_far (p := ⟨gb523, 4, none⟩) (Kd.R_far (p := ⟨gb523, 3, none⟩) (Kd.R_far (p := ⟨gb523, 2, none⟩) (Kd.R_far (p := ⟨gb523, 1, none⟩) (Kd.R_far (p := ⟨gb523, 0, none⟩) (Kd.R_types HO484.out BK523.out (by decide)) h2__ (.int .i64 t513)) h2__ (.slice Ao64 t514.length co64)) h2__ (.slice Ao65 t517.length co65)) h2__ (.int .i64 t520)) h2__ (.int .i64 t521)) h2__ (.int .i64 t522)) h1__)) hb); replace HO487 := am__ (Kd.R_below (by refine rps__ ?_; exact (Kd.R_mono (Kd.R_far (p := ⟨gb523, 5, none⟩) (Kd.R_far (p := ⟨gb523, 4, none⟩) (Kd.R_far (p := ⟨gb523, 3, none⟩) (Kd.R_far (p := ⟨gb523, 2, none⟩) (Kd.R_far (p := ⟨gb523, 1, none⟩) (Kd.R_far (p := ⟨gb523, 0, none⟩) (Kd.R_types HO487.out BK523.out (by decide)) h2__ (.int .i64 t513)) h2__ (.slice Ao64 t514.length co64)) h2__ (.slice Ao65 t517.length co65)) h2__ (.int .i64 t520)) h2__ (.int .i64 t521)) h2__ (.int .i64 t522)) h1__)) hb); replace HO491 := am__ (Kd.R_below (by refine rps__ ?_; exact (Kd.R_mono (Kd.R_far (p := ⟨gb523, 5, none⟩) (Kd.R_far (p := ⟨gb523, 4, none⟩) (Kd.R_far (p := ⟨gb523, 3, none⟩) (Kd.R_far (p := ⟨gb523, 2, none⟩) (Kd.R_far (p := ⟨gb523, 1, none⟩) (Kd.R_far (p := ⟨gb523, 0, none⟩) (Kd.R_types HO491.out BK523.out (by decide)) h2__ (.int .i64 t513)) h2__ (.slice Ao64 t514.length co64)) h2__ (.slice Ao65 t517.length co65)) h2__ (.int .i64 t520)) h2__ (.int .i64 t521)) h2__ (.int .i64 t522)) h1__)) hb); replace HO494 := am__ (Kd.R_below (by refine rps__ ?_; exact (Kd.R_mono (Kd.R_far (p := ⟨gb523, 5, none⟩) (Kd.R_far (p := ⟨gb523, 4, none⟩) (Kd.R_far (p := ⟨gb523, 3, none⟩) (Kd.R_far (p := ⟨gb523, 2, none⟩) (Kd.R_far (p := ⟨gb523, 1, none⟩) (Kd.R_far (p := ⟨gb523, 0, none⟩) (Kd.R_types HO494.out BK523.out (by decide)) h2__ (.int .i64 t513)) h2__ (.slice Ao64 t514.length co64)) h2__ (.slice Ao65 t517.length co65)) h2__ (.int .i64 t520)) h2__ (.int .i64 t521)) h2__ (.int .i64 t522)) h1__)) hb); replace HO505 := am__ (Kd.S_below (by (with_reducible repeat (first | apply Kd.S_alloc | apply Kd.S_drewN | apply Kd.S_drew)); exact (Kd.S_mono (Kd.S_far (p := ⟨gb523, 5, none⟩) (Kd.S_far (p := ⟨gb523, 4, none⟩) (Kd.S_far (p := ⟨gb523, 3, none⟩) (Kd.S_far (p := ⟨gb523, 2, none⟩) (Kd.S_far (p := ⟨gb523, 1, none⟩) (Kd.S_far (p := ⟨gb523, 0, none⟩) (Kd.S_types HO505.out BK523.out (by decide)) h2__ (.int .i64 t513)) h2__ (.slice Ao64 t514.length co64)) h2__ (.slice Ao65 t517.length co65)) h2__ (.int .i64 t520)) h2__ (.int .i64 t521)) h2__ (.int .i64 t522)) h1__)) hb); replace HO508 := am__ (Kd.R_below (by refine rps__ ?_; exact (Kd.R_mono (Kd.R_far (p := ⟨gb523, 5, none⟩) (Kd.R_far (p := ⟨gb523, 4, none⟩) (Kd.R_far (p := ⟨gb523, 3, none⟩) (Kd.R_far (p := ⟨gb523, 2, none⟩) (Kd.R_far (p := ⟨gb523, 1, none⟩) (Kd.R_far (p := ⟨gb523, 0, none⟩) (Kd.R_types HO508.out BK523.out (by decide)) h2__ (.int .i64 t513)) h2__ (.slice Ao64 t514.length co64)) h2__ (.slice Ao65 t517.length co65)) h2__ (.int .i64 t520)) h2__ (.int .i64 t521)) h2__ (.int .i64 t522)) h1__)) hb); replace HO511 := am__ (Kd.R_below (by refine rps__ ?_; exact (Kd.R_mono (Kd.R_far (p := ⟨gb523, 5, none⟩) (Kd.R_far (p := ⟨gb523, 4, none⟩) (Kd.R_far (p := ⟨gb523, 3, none⟩) (Kd.R_far (p := ⟨gb523, 2, none⟩) (Kd.R_far (p := ⟨gb523, 1, none⟩) (Kd.R_far (p := ⟨gb523, 0, none⟩) (Kd.R_types HO511.out BK523.out (by decide)) h2__ (.int .i64 t513)) h2__ (.slice Ao64 t514.length co64)) h2__ (.slice Ao65 t517.length co65)) h2__ (.int .i64 t520)) h2__ (.int .i64 t521)) h2__ (.int .i64 t522)) h1__)) hb); replace HO516 := am__ (Kd.R_below (by refine rps__ ?_; exact (Kd.R_mono (Kd.R_far (p := ⟨gb523, 5, none⟩) (Kd.R_far (p := ⟨gb523, 4, none⟩) (Kd.R_far (p := ⟨gb523, 3, none⟩) (Kd.R_far (p := ⟨gb523, 2, none⟩) (Kd.R_far (p := ⟨gb523, 1, none⟩) (Kd.R_far (p := ⟨gb523, 0, none⟩) (Kd.R_types HO516.out BK523.out (by decide)) h2__ (.int .i64 t513)) h2__ (.slice Ao64 t514.length co64)) h2__ (.slice Ao65 t517.length co65)) h2__ (.int .i64 t520)) h2__ (.int .i64 t521)) h2__ (.int .i64 t522)) h1__)) hb); replace HO519 := am__ (Kd.R_below (by refine rps__ ?_; exact (Kd.R_mono (Kd.R_far (p := ⟨gb523, 5, none⟩) (Kd.R_far (p := ⟨gb523, 4, none⟩) (Kd.R_far (p := ⟨gb523, 3, none⟩) (Kd.R_far (p := ⟨gb523, 2, none⟩) (Kd.R_far (p := ⟨gb523, 1, none⟩) (Kd.R_far (p := ⟨gb523, 0, none⟩) (Kd.R_types HO519.out BK523.out (by decide)) h2__ (.int .i64 t513)) h2__ (.slice Ao64 t514.length co64)) h2__ (.slice Ao65 t517.length co65)) h2__ (.int .i64 t520)) h2__ (.int .i64 t521)) h2__ (.int .i64 t522)) h1__)) hb); replace BK471 := am__ (blk_below (g := gb471) (o := .cells #[.int .i64 a0_0, .int .i64 a0_1, .int .i64 a0_2, .int .i64 a0_3, .slice A0_4 l0_4.length c0_4, .slice A0_5 l0_5.length c0_5, .slice A0_6 l0_6.length c0_6] 26 (0, 0)) (blf6__ BK471.out) hb); replace BK472 := am__ (blk_below (g := gb472) (o := .cells #[.int .i64 a1_0, .slice A1_1 l1_1.length c1_1, .slice A1_2 l1_2.length c1_2, .int .i64 a1_3, .int .i64 a1_4, .int .i64 a1_5] 40 (0, 0)) (blf6__ BK472.out) hb); replace BK512 := am__ (blk_below (g := gb512) (o := .cells #[.int .i64 t499, .int .i64 t500, .int .i64 t501, .int .i64 t502, .slice Ao54 t503.length co54, .slice Ao55 t506.length co55, .slice Ao56 t509.length co56] 33 (0, 0)) (blf6__ BK512.out) hb); replace BK523 := am__ (blk_below (g := gb523) (o := .cells #[.int .i64 t513, .slice Ao64 t514.length co64, .slice Ao65 t517.length co65, .int .i64 t520, .int .i64 t521, .int .i64 t522] 43 (0, 0)) (bpu__ BK523.out) hb); replace HB := am__ (below_step (bel__) hb); clear hb))
      replace HO481 := am__ (Kd.S_drew HO481.out)
      replace HO484 := am__ (Kd.R_drew HO484.out)
      replace HO487 := am__ (Kd.R_drew HO487.out)
      replace HO491 := am__ (Kd.R_drew HO491.out)
      replace HO494 := am__ (Kd.R_drew HO494.out)
      replace HO505 := am__ (Kd.S_drew HO505.out)
      replace HO508 := am__ (Kd.R_drew HO508.out)
      replace HO511 := am__ (Kd.R_drew HO511.out)
      replace HO516 := am__ (Kd.R_drew HO516.out)
      replace HO519 := am__ (Kd.R_drew HO519.out)
      replace BK471 := am__ (blk_drew BK471.out)
      replace BK472 := am__ (blk_drew BK472.out)
      replace BK512 := am__ (blk_drew BK512.out)
      replace BK523 := am__ (blk_drew BK523.out)
      replace HB := am__ (below_drew1 HB.out)
      refine st__ 5 (c7a__ BK512.out (c7e__ BK471.out)) fun hHeld => ?_
      generalize w67.drew = w68 at HO481 HO484 HO487 HO491 HO494 HO505 HO508 HO511 HO516 HO519 BK471 BK472 BK512 BK523 HB hHeld ⊢
      refine take_ (i := 0) (N := some 35) (v := ?_) (a' := ?_) (mk__ 5 1) rfl rfl (by kernel_rfl) (fun _ _ _ h => h) (Or.inl ⟨by rfl, ?_⟩) hHeld ?_ ?_
      rotate_left
      ·rintro w' ⟨s0, s1, s2, s3, s4, s5, s6, s7, s8, s9, s10, s11, s12, s13⟩
       go_simp
       with_reducible rfl
      rotate_left
      ·simp only [Act.put, List.setIfInBounds_toArray, List.set_cons_zero, List.set_cons_succ, i64_w, i32_w]
       rfl
      refine take_ (i := 1) (N := some 36) (v := ?_) (a' := ?_) (mk__ 5 3) rfl rfl (by kernel_rfl) (fun _ _ _ h => h) (Or.inl ⟨by rfl, ?_⟩) hHeld ?_ ?_
      rotate_left
      ·rintro w' ⟨s0, s1, s2, s3, s4, s5, s6, s7, s8, s9, s10, s11, s12, s13⟩
       go_simp
       with_reducible rfl
      rotate_left
      ·simp only [Act.put, List.setIfInBounds_toArray, List.set_cons_zero, List.set_cons_succ, i64_w, i32_w]
       rfl
      refine one_ (i := 2) (N := some 37) (mk__ 5 7) rfl rfl (by kernel_rfl) (by decide) (fun K hK => ?_)
      refine gs__ Try.func12 #[.agg #[.int .i64 a0_0, .int .i64 a0_1, .int .i64 a0_2, .int .i64 a0_3, .slice A0_4 l0_4.length c0_4, .slice A0_5 l0_5.length c0_5, .slice A0_6 l0_6.length c0_6]] ?_
      with_reducible refine (laws_toState.calls k a0_0 a0_1 a0_2 a0_3 _ _ l0_4 _ _ l0_5 _ _ l0_6 t525 t526 t527 t528 t529 t532 t535 _ ?side1 ?side2 ?side3 ?side4 ?side5 ?side6 A26.out).mono ?_
      (case side1 => repeat (first | exact (Kd.C_below HR0_4.out HB.out) | (with_reducible refine Kd.C_alloc ?_ _) | (with_reducible refine Kd.C_drewN ?_ _) | (with_reducible refine Kd.C_drew ?_)))
      (case side2 => exact HC0_4.out)
      (case side3 => repeat (first | exact (Kd.C_below HR0_5.out HB.out) | (with_reducible refine Kd.C_alloc ?_ _) | (with_reducible refine Kd.C_drewN ?_ _) | (with_reducible refine Kd.C_drew ?_)))
      (case side4 => exact HC0_5.out)
      (case side5 => repeat (first | exact (Kd.C_below HR0_6.out HB.out) | (with_reducible refine Kd.C_alloc ?_ _) | (with_reducible refine Kd.C_drewN ?_ _) | (with_reducible refine Kd.C_drew ?_)))
      (case side6 => exact HC0_6.out)
      rintro e w69 ⟨v530, v533, v536, rfl, ho0, ho1, ho2, hb⟩
      refine ⟨_, rfl, ?_⟩
      have HO531 := am__ (Kd.S_lower (Kd.S_new' (Kd.S_new' (Kd.S_new' (Kd.S_new' (Kd.S_new' (Kd.S_new' ho0 (Kd.S_lt (by (with_reducible repeat (first | apply Kd.S_alloc | apply Kd.S_drewN | apply Kd.S_drew)); exact HO481.out))) (Kd.R_lt (rr__ HO491.out))) (Kd.R_lt (rr__ HO494.out))) (Kd.S_lt (by (with_reducible repeat (first | apply Kd.S_alloc | apply Kd.S_drewN | apply Kd.S_drew)); exact HO505.out))) (Kd.R_lt (rr__ HO516.out))) (Kd.R_lt (rr__ HO519.out))) (below_size (bel__)))
      replace HO481 := am__ (Kd.S_elder' (by (with_reducible repeat (first | apply Kd.S_alloc | apply Kd.S_drewN | apply Kd.S_drew)); exact HO481.out) (Kd.S_base ho0) hb)
      replace HO491 := am__ (Kd.R_below (rr__ HO491.out) hb)
      replace HO494 := am__ (Kd.R_below (rr__ HO494.out) hb)
      replace HO505 := am__ (Kd.S_elder' (by (with_reducible repeat (first | apply Kd.S_alloc | apply Kd.S_drewN | apply Kd.S_drew)); exact HO505.out) (Kd.S_base ho0) hb)
      replace HO516 := am__ (Kd.R_below (rr__ HO516.out) hb)
      replace HO519 := am__ (Kd.R_below (rr__ HO519.out) hb)
      have HO534 := am__ (Kd.R_lower (Kd.R_new' (Kd.R_new' ho1 (Kd.R_lt (rr__ HO484.out))) (Kd.R_lt (rr__ HO508.out))) (below_size (bel__)))
      replace HO484 := am__ (Kd.R_elder' (rr__ HO484.out) (Kd.R_base ho1) hb)
      replace HO508 := am__ (Kd.R_elder' (rr__ HO508.out) (Kd.R_base ho1) hb)
      have HO537 := am__ (Kd.R_lower (Kd.R_new' (Kd.R_new' ho2 (Kd.R_lt (rr__ HO487.out))) (Kd.R_lt (rr__ HO511.out))) (below_size (bel__)))
      replace HO487 := am__ (Kd.R_elder' (rr__ HO487.out) (Kd.R_base ho2) hb)
      replace HO511 := am__ (Kd.R_elder' (rr__ HO511.out) (Kd.R_base ho2) hb)
      replace BK471 := am__ (blb__ BK471.out hb)
      replace BK472 := am__ (blb__ BK472.out hb)
      replace BK512 := am__ (blb__ BK512.out hb)
      replace BK523 := am__ (blb__ BK523.out hb)
      replace HB := am__ (below_step (bel__) hb)
      (try clear hb)
      (try clear hb2)
      (try clear hk)
      (try clear hi)
      (try clear ho0)
      (try clear ho1)
      (try clear ho2)
      obtain ⟨Ao70, co70, eo70⟩ := Kd.S_slice HO531.out
      (first | subst eo70 | (injection eo70 with f1_ f2_ f3_; have f4_ := f1_.symm; have f5_ := f3_.symm; clear f1_ f2_ f3_; subst f4_; subst f5_))
      obtain ⟨Ao71, co71, eo71⟩ := Kd.R_slice HO534.out
      (first | subst eo71 | (injection eo71 with f1_ f2_ f3_; have f4_ := f1_.symm; have f5_ := f3_.symm; clear f1_ f2_ f3_; subst f4_; subst f5_))
      obtain ⟨Ao72, co72, eo72⟩ := Kd.R_slice HO537.out
      (first | subst eo72 | (injection eo72 with f1_ f2_ f3_; have f4_ := f1_.symm; have f5_ := f3_.symm; clear f1_ f2_ f3_; subst f4_; subst f5_))
      refine hK.out _ _ ⟨bc__ BK512.out 0, bc__ BK512.out 1, bc__ BK512.out 2, bc__ BK512.out 3, bc__ BK512.out 4, bc__ BK512.out 5, bc__ BK512.out 6, bc__ BK471.out 0, bc__ BK471.out 1, bc__ BK471.out 2, bc__ BK471.out 3, bc__ BK471.out 4, bc__ BK471.out 5, bc__ BK471.out 6⟩ (fun hHeld => ?_)
      clear hK K
      refine na__ 37 ?_
      refine one_ (i := 3) (N := some 38) (mk__ 5 15) rfl rfl (by kernel_rfl) (by decide) (fun K hK => ?_)
      refine gs__ Try.func14 #[.agg #[.int .i64 t499, .int .i64 t500, .int .i64 t501, .int .i64 t502, .slice Ao54 t503.length co54, .slice Ao55 t506.length co55, .slice Ao56 t509.length co56], .agg #[.int .i64 t525, .int .i64 t526, .int .i64 t527, .int .i64 t528, .slice Ao70 t529.length co70, .slice Ao71 t532.length co71, .slice Ao72 t535.length co72]] ?_
      with_reducible refine (laws_eqState.calls k t499 t500 t501 t502 _ _ t503 _ _ t506 _ _ t509 t525 t526 t527 t528 _ _ t529 _ _ t532 _ _ t535 true _ ?side1 ?side2 ?side3 ?side4 ?side5 ?side6 ?side7 ?side8 ?side9 ?side10 ?side11 ?side12 A27.out).mono ?_
      (case side1 => repeat (first | exact (Kd.S_reads' HO505.out).2.2 | (with_reducible refine Kd.C_alloc ?_ _) | (with_reducible refine Kd.C_drewN ?_ _) | (with_reducible refine Kd.C_drew ?_)))
      (case side2 => exact (Kd.S_reads' HO505.out).2.1)
      (case side3 => repeat (first | exact (Kd.R_reads' HO508.out).2.2 | (with_reducible refine Kd.C_alloc ?_ _) | (with_reducible refine Kd.C_drewN ?_ _) | (with_reducible refine Kd.C_drew ?_)))
      (case side4 => exact (Kd.R_reads' HO508.out).2.1)
      (case side5 => repeat (first | exact (Kd.R_reads' HO511.out).2.2 | (with_reducible refine Kd.C_alloc ?_ _) | (with_reducible refine Kd.C_drewN ?_ _) | (with_reducible refine Kd.C_drew ?_)))
      (case side6 => exact (Kd.R_reads' HO511.out).2.1)
      (case side7 => repeat (first | exact (Kd.S_reads' HO531.out).2.2 | (with_reducible refine Kd.C_alloc ?_ _) | (with_reducible refine Kd.C_drewN ?_ _) | (with_reducible refine Kd.C_drew ?_)))
      (case side8 => exact (Kd.S_reads' HO531.out).2.1)
      (case side9 => repeat (first | exact (Kd.R_reads' HO534.out).2.2 | (with_reducible refine Kd.C_alloc ?_ _) | (with_reducible refine Kd.C_drewN ?_ _) | (with_reducible refine Kd.C_drew ?_)))
      (case side10 => exact (Kd.R_reads' HO534.out).2.1)
      (case side11 => repeat (first | exact (Kd.R_reads' HO537.out).2.2 | (with_reducible refine Kd.C_alloc ?_ _) | (with_reducible refine Kd.C_drewN ?_ _) | (with_reducible refine Kd.C_drew ?_)))
      (case side12 => exact (Kd.R_reads' HO537.out).2.1)
      rintro e w73 ⟨rfl, hb⟩
      refine ⟨_, rfl, ?_⟩
      replace HO481 := am__ (Kd.S_below (by (with_reducible repeat (first | apply Kd.S_alloc | apply Kd.S_drewN | apply Kd.S_drew)); exact HO481.out) hb)
      replace HO484 := am__ (Kd.R_below (rr__ HO484.out) hb)
      replace HO487 := am__ (Kd.R_below (rr__ HO487.out) hb)
      replace HO491 := am__ (Kd.R_below (rr__ HO491.out) hb)
      replace HO494 := am__ (Kd.R_below (rr__ HO494.out) hb)
      replace HO505 := am__ (Kd.S_below (by (with_reducible repeat (first | apply Kd.S_alloc | apply Kd.S_drewN | apply Kd.S_drew)); exact HO505.out) hb)
      replace HO508 := am__ (Kd.R_below (rr__ HO508.out) hb)
      replace HO511 := am__ (Kd.R_below (rr__ HO511.out) hb)
      replace HO516 := am__ (Kd.R_below (rr__ HO516.out) hb)
      replace HO519 := am__ (Kd.R_below (rr__ HO519.out) hb)
      replace HO531 := am__ (Kd.S_below (by (with_reducible repeat (first | apply Kd.S_alloc | apply Kd.S_drewN | apply Kd.S_drew)); exact HO531.out) hb)
      replace HO534 := am__ (Kd.R_below (rr__ HO534.out) hb)
      replace HO537 := am__ (Kd.R_below (rr__ HO537.out) hb)
      replace BK471 := am__ (blb__ BK471.out hb)
      replace BK472 := am__ (blb__ BK472.out hb)
      replace BK512 := am__ (blb__ BK512.out hb)
      replace BK523 := am__ (blb__ BK523.out hb)
      replace HB := am__ (below_step (bel__) hb)
      (try clear hb)
      (try clear hb2)
      (try clear hk)
      (try clear hi)
      refine hK.out _ _ ⟨bc__ BK512.out 0, bc__ BK512.out 1, bc__ BK512.out 2, bc__ BK512.out 3, bc__ BK512.out 4, bc__ BK512.out 5, bc__ BK512.out 6, bc__ BK471.out 0, bc__ BK471.out 1, bc__ BK471.out 2, bc__ BK471.out 3, bc__ BK471.out 4, bc__ BK471.out 5, bc__ BK471.out 6⟩ (fun hHeld => ?_)
      clear hK K
      refine na__ 38 ?_
      refine pure_ (i := 4) (N := some 39) (v := ?_) (a' := ?_) (mk__ 5 31) rfl rfl (by kernel_rfl) (fun _ _ _ h => h) (Or.inl ⟨by rfl, ?_⟩) ?_ ?_
      rotate_left
      ·intro w'
       go_simp
       with_reducible rfl
      rotate_left
      ·simp only [Act.put, List.setIfInBounds_toArray, List.set_cons_zero, List.set_cons_succ, i64_w, i32_w]
       rfl
      refine done_ (by kernel_rfl) ?_
      try go_wp2
      replace HO481 := am__ (Kd.S_drew HO481.out)
      replace HO484 := am__ (Kd.R_drew HO484.out)
      replace HO487 := am__ (Kd.R_drew HO487.out)
      replace HO491 := am__ (Kd.R_drew HO491.out)
      replace HO494 := am__ (Kd.R_drew HO494.out)
      replace HO505 := am__ (Kd.S_drew HO505.out)
      replace HO508 := am__ (Kd.R_drew HO508.out)
      replace HO511 := am__ (Kd.R_drew HO511.out)
      replace HO516 := am__ (Kd.R_drew HO516.out)
      replace HO519 := am__ (Kd.R_drew HO519.out)
      replace HO531 := am__ (Kd.S_drew HO531.out)
      replace HO534 := am__ (Kd.R_drew HO534.out)
      replace HO537 := am__ (Kd.R_drew HO537.out)
      replace BK471 := am__ (blk_drew BK471.out)
      replace BK472 := am__ (blk_drew BK472.out)
      replace BK512 := am__ (blk_drew BK512.out)
      replace BK523 := am__ (blk_drew BK523.out)
      replace HB := am__ (below_drew1 HB.out)
      refine st__ 5 (c6a__ BK523.out (c6e__ BK472.out)) fun hHeld => ?_
      generalize w73.drew = w74 at HO481 HO484 HO487 HO491 HO494 HO505 HO508 HO511 HO516 HO519 HO531 HO534 HO537 BK471 BK472 BK512 BK523 HB hHeld ⊢
      refine take_ (i := 0) (N := some 40) (v := ?_) (a' := ?_) (mk__ 5 1) rfl rfl (by kernel_rfl) (fun _ _ _ h => h) (Or.inl ⟨by rfl, ?_⟩) hHeld ?_ ?_
      rotate_left
      ·rintro w' ⟨s0, s1, s2, s3, s4, s5, s6, s7, s8, s9, s10, s11⟩
       go_simp
       with_reducible rfl
      rotate_left
      ·simp only [Act.put, List.setIfInBounds_toArray, List.set_cons_zero, List.set_cons_succ, i64_w, i32_w]
       rfl
      refine take_ (i := 1) (N := some 41) (v := ?_) (a' := ?_) (mk__ 5 3) rfl rfl (by kernel_rfl) (fun _ _ _ h => h) (Or.inl ⟨by rfl, ?_⟩) hHeld ?_ ?_
      rotate_left
      ·rintro w' ⟨s0, s1, s2, s3, s4, s5, s6, s7, s8, s9, s10, s11⟩
       go_simp
       with_reducible rfl
      rotate_left
      ·simp only [Act.put, List.setIfInBounds_toArray, List.set_cons_zero, List.set_cons_succ, i64_w, i32_w]
       rfl
      refine one_ (i := 2) (N := some 42) (mk__ 5 7) rfl rfl (by kernel_rfl) (by decide) (fun K hK => ?_)
      refine gs__ Try.func19 #[.agg #[.int .i64 a1_0, .slice A1_1 l1_1.length c1_1, .slice A1_2 l1_2.length c1_2, .int .i64 a1_3, .int .i64 a1_4, .int .i64 a1_5]] ?_
      with_reducible refine (laws_toRound.calls k a1_0 _ _ l1_1 _ _ l1_2 a1_3 a1_4 a1_5 t539 t540 t543 t546 t547 t548 _ ?side1 ?side2 ?side3 ?side4 A29.out).mono ?_
      (case side1 => repeat (first | exact (Kd.C_below HR1_1.out HB.out) | (with_reducible refine Kd.C_alloc ?_ _) | (with_reducible refine Kd.C_drewN ?_ _) | (with_reducible refine Kd.C_drew ?_)))
      (case side2 => exact HC1_1.out)
      (case side3 => repeat (first | exact (Kd.C_below HR1_2.out HB.out) | (with_reducible refine Kd.C_alloc ?_ _) | (with_reducible refine Kd.C_drewN ?_ _) | (with_reducible refine Kd.C_drew ?_)))
      (case side4 => exact HC1_2.out)
      rintro e w75 ⟨v541, v544, rfl, ho0, ho1, hb⟩
      refine ⟨_, rfl, ?_⟩
      replace HO481 := am__ (Kd.S_mono (Kd.S_told (Kd.S_told (Kd.S_old (by (with_reducible repeat (first | apply Kd.S_alloc | apply Kd.S_drewN | apply Kd.S_drew)); exact HO481.out) hb) (Kd.R_base ho0)) (Kd.R_base ho1)) h1__)
      replace HO484 := am__ (Kd.R_below (rr__ HO484.out) hb)
      replace HO487 := am__ (Kd.R_below (rr__ HO487.out) hb)
      replace HO505 := am__ (Kd.S_mono (Kd.S_told (Kd.S_told (Kd.S_old (by (with_reducible repeat (first | apply Kd.S_alloc | apply Kd.S_drewN | apply Kd.S_drew)); exact HO505.out) hb) (Kd.R_base ho0)) (Kd.R_base ho1)) h1__)
      replace HO508 := am__ (Kd.R_below (rr__ HO508.out) hb)
      replace HO511 := am__ (Kd.R_below (rr__ HO511.out) hb)
      replace HO531 := am__ (Kd.S_mono (Kd.S_told (Kd.S_told (Kd.S_old (by (with_reducible repeat (first | apply Kd.S_alloc | apply Kd.S_drewN | apply Kd.S_drew)); exact HO531.out) hb) (Kd.R_base ho0)) (Kd.R_base ho1)) h1__)
      replace HO534 := am__ (Kd.R_below (rr__ HO534.out) hb)
      replace HO537 := am__ (Kd.R_below (rr__ HO537.out) hb)
      have HO542 := am__ (Kd.R_lower (Kd.R_new' (Kd.R_new' (Kd.R_new' (Kd.R_new' ho0 (Kd.R_lt (rr__ HO491.out))) (Kd.R_lt (rr__ HO494.out))) (Kd.R_lt (rr__ HO516.out))) (Kd.R_lt (rr__ HO519.out))) (below_size (bel__)))
      have HO545 := am__ (Kd.R_lower (Kd.R_new' (Kd.R_new' (Kd.R_new' (Kd.R_new' ho1 (Kd.R_lt (rr__ HO491.out))) (Kd.R_lt (rr__ HO494.out))) (Kd.R_lt (rr__ HO516.out))) (Kd.R_lt (rr__ HO519.out))) (below_size (bel__)))
      replace HO491 := am__ (Kd.R_mono (Kd.R_told (Kd.R_told (Kd.R_old (rr__ HO491.out) hb) (Kd.R_base ho0)) (Kd.R_base ho1)) h1__)
      replace HO494 := am__ (Kd.R_mono (Kd.R_told (Kd.R_told (Kd.R_old (rr__ HO494.out) hb) (Kd.R_base ho0)) (Kd.R_base ho1)) h1__)
      replace HO516 := am__ (Kd.R_mono (Kd.R_told (Kd.R_told (Kd.R_old (rr__ HO516.out) hb) (Kd.R_base ho0)) (Kd.R_base ho1)) h1__)
      replace HO519 := am__ (Kd.R_mono (Kd.R_told (Kd.R_told (Kd.R_old (rr__ HO519.out) hb) (Kd.R_base ho0)) (Kd.R_base ho1)) h1__)
      replace BK471 := am__ (blb__ BK471.out hb)
      replace BK472 := am__ (blb__ BK472.out hb)
      replace BK512 := am__ (blb__ BK512.out hb)
      replace BK523 := am__ (blb__ BK523.out hb)
      replace HB := am__ (below_step (bel__) hb)
      (try clear hb)
      (try clear hb2)
      (try clear hk)
      (try clear hi)
      (try clear ho0)
      (try clear ho1)
      obtain ⟨Ao76, co76, eo76⟩ := Kd.R_slice HO542.out
      (first | subst eo76 | (injection eo76 with f1_ f2_ f3_; have f4_ := f1_.symm; have f5_ := f3_.symm; clear f1_ f2_ f3_; subst f4_; subst f5_))
      obtain ⟨Ao77, co77, eo77⟩ := Kd.R_slice HO545.out
      (first | subst eo77 | (injection eo77 with f1_ f2_ f3_; have f4_ := f1_.symm; have f5_ := f3_.symm; clear f1_ f2_ f3_; subst f4_; subst f5_))
      refine hK.out _ _ ⟨bc__ BK523.out 0, bc__ BK523.out 1, bc__ BK523.out 2, bc__ BK523.out 3, bc__ BK523.out 4, bc__ BK523.out 5, bc__ BK472.out 0, bc__ BK472.out 1, bc__ BK472.out 2, bc__ BK472.out 3, bc__ BK472.out 4, bc__ BK472.out 5⟩ (fun hHeld => ?_)
      clear hK K
      refine na__ 42 ?_
      refine one_ (i := 3) (N := some 43) (mk__ 5 15) rfl rfl (by kernel_rfl) (by decide) (fun K hK => ?_)
      refine gs__ Try.func21 #[.agg #[.int .i64 t513, .slice Ao64 t514.length co64, .slice Ao65 t517.length co65, .int .i64 t520, .int .i64 t521, .int .i64 t522], .agg #[.int .i64 t539, .slice Ao76 t540.length co76, .slice Ao77 t543.length co77, .int .i64 t546, .int .i64 t547, .int .i64 t548]] ?_
      with_reducible refine (laws_eqRound.calls k t513 _ _ t514 _ _ t517 t520 t521 t522 t539 _ _ t540 _ _ t543 t546 t547 t548 true _ ?side1 ?side2 ?side3 ?side4 ?side5 ?side6 ?side7 ?side8 A30.out).mono ?_
      (case side1 => repeat (first | exact (Kd.R_reads' HO516.out).2.2 | (with_reducible refine Kd.C_alloc ?_ _) | (with_reducible refine Kd.C_drewN ?_ _) | (with_reducible refine Kd.C_drew ?_)))
      (case side2 => exact (Kd.R_reads' HO516.out).2.1)
      (case side3 => repeat (first | exact (Kd.R_reads' HO519.out).2.2 | (with_reducible refine Kd.C_alloc ?_ _) | (with_reducible refine Kd.C_drewN ?_ _) | (with_reducible refine Kd.C_drew ?_)))
      (case side4 => exact (Kd.R_reads' HO519.out).2.1)
      (case side5 => repeat (first | exact (Kd.R_reads' HO542.out).2.2 | (with_reducible refine Kd.C_alloc ?_ _) | (with_reducible refine Kd.C_drewN ?_ _) | (with_reducible refine Kd.C_drew ?_)))
      (case side6 => exact (Kd.R_reads' HO542.out).2.1)
      (case side7 => repeat (first | exact (Kd.R_reads' HO545.out).2.2 | (with_reducible refine Kd.C_alloc ?_ _) | (with_reducible refine Kd.C_drewN ?_ _) | (with_reducible refine Kd.C_drew ?_)))
      (case side8 => exact (Kd.R_reads' HO545.out).2.1)
      rintro e w78 ⟨rfl, hb⟩
      refine ⟨_, rfl, ?_⟩
      replace HO481 := am__ (Kd.S_below (by (with_reducible repeat (first | apply Kd.S_alloc | apply Kd.S_drewN | apply Kd.S_drew)); exact HO481.out) hb)
      replace HO484 := am__ (Kd.R_below (rr__ HO484.out) hb)
      replace HO487 := am__ (Kd.R_below (rr__ HO487.out) hb)
      replace HO491 := am__ (Kd.R_below (rr__ HO491.out) hb)
      replace HO494 := am__ (Kd.R_below (rr__ HO494.out) hb)
      replace HO505 := am__ (Kd.S_below (by (with_reducible repeat (first | apply Kd.S_alloc | apply Kd.S_drewN | apply Kd.S_drew)); exact HO505.out) hb)
      replace HO508 := am__ (Kd.R_below (rr__ HO508.out) hb)
      replace HO511 := am__ (Kd.R_below (rr__ HO511.out) hb)
      replace HO516 := am__ (Kd.R_below (rr__ HO516.out) hb)
      replace HO519 := am__ (Kd.R_below (rr__ HO519.out) hb)
      replace HO531 := am__ (Kd.S_below (by (with_reducible repeat (first | apply Kd.S_alloc | apply Kd.S_drewN | apply Kd.S_drew)); exact HO531.out) hb)
      replace HO534 := am__ (Kd.R_below (rr__ HO534.out) hb)
      replace HO537 := am__ (Kd.R_below (rr__ HO537.out) hb)
      replace HO542 := am__ (Kd.R_below (rr__ HO542.out) hb)
      replace HO545 := am__ (Kd.R_below (rr__ HO545.out) hb)
      replace BK471 := am__ (blb__ BK471.out hb)
      replace BK472 := am__ (blb__ BK472.out hb)
      replace BK512 := am__ (blb__ BK512.out hb)
      replace BK523 := am__ (blb__ BK523.out hb)
      replace HB := am__ (below_step (bel__) hb)
      (try clear hb)
      (try clear hb2)
      (try clear hk)
      (try clear hi)
      refine hK.out _ _ ⟨bc__ BK523.out 0, bc__ BK523.out 1, bc__ BK523.out 2, bc__ BK523.out 3, bc__ BK523.out 4, bc__ BK523.out 5, bc__ BK472.out 0, bc__ BK472.out 1, bc__ BK472.out 2, bc__ BK472.out 3, bc__ BK472.out 4, bc__ BK472.out 5⟩ (fun hHeld => ?_)
      clear hK K
      refine na__ 43 ?_
      refine pure_ (i := 4) (N := some 44) (v := ?_) (a' := ?_) (mk__ 5 31) rfl rfl (by kernel_rfl) (fun _ _ _ h => h) (Or.inl ⟨by rfl, ?_⟩) ?_ ?_
      rotate_left
      ·intro w'
       go_simp
       with_reducible rfl
      rotate_left
      ·simp only [Act.put, List.setIfInBounds_toArray, List.set_cons_zero, List.set_cons_succ, i64_w, i32_w]
       rfl
      refine done_ (by kernel_rfl) ?_
      try go_wp2
      go_ret
      exact ⟨ee__, bel__⟩
     ·replace c31 := Bool.eq_false_iff.mpr c31
      subst c31
      have H1 : (none) = some r := by rw [if_neg (show ¬ (false = true) by decide)] at H; exact H
      clear H
      have H := H1
      clear H1
      exact absurd H (by simp)
    ·replace c28 := Bool.eq_false_iff.mpr c28
     subst c28
     have H1 : (none) = some r := by rw [if_neg (show ¬ (false = true) by decide)] at H; exact H
     clear H
     have H := H1
     clear H1
     exact absurd H (by simp)
end Go.Proofs.Ytcijlemojododaa.P

/- What an argument holds, told by its kind: whatever can be read as data at a type (numbers, texts, slices, structs in one another) is read by the kind of that type, and the room it takes is bounded. -/
namespace Go.Proofs.Ytcijlemojododaa.Q
open Go.ChangeShapes Go.WideShapes Go.ChangeAt Go.RowKit Go.Proofs.YtcijlemojododaaW.PrintWords
set_option linter.unusedVariables false

structure Rd (P : Program) (t : TypeId) {α : Type} (d : Kd α) (Z : α → List Nat) : Prop where
  out : ∀ {H : Type} {enc : TypeId × Value → H} {w : World} {base : Nat} {sp : Nat → Bool} {held : Bool} {fuel : Nat} {cs : List Value} {y : DataW H × List MemPlace},
    DataW.trod enc P w base sp held fuel t cs = some y → ∃ x, d.K w x cs ∧ ∀ n ∈ Z x, 0 < n → ∃ m ∈ y.1.weights P t, n ≤ m
theorem Rd.int {P : Program} {t : TypeId} {k : IntKind} (ht : P.underlying t = some (.int k)) : Rd P t (Kd.int k) (fun _ => []) := ⟨fun h => by
  obtain ⟨n, rfl, rfl, _⟩ := DataW.trod_int ht h
  exact ⟨n, rfl, fun n hn => by cases hn⟩⟩
theorem Rd.bool {P : Program} {t : TypeId} (ht : P.underlying t = some .bool) : Rd P t Kd.bool (fun _ => []) := ⟨fun h => by
  obtain ⟨n, rfl, rfl⟩ := DataW.trod_bool ht h
  exact ⟨n, rfl, fun n hn => by cases hn⟩⟩
theorem Rd.string {P : Program} {t : TypeId} (ht : P.underlying t = some .string) : Rd P t Kd.string (fun s => [s.size]) := ⟨fun h => by
  obtain ⟨s, rfl, rfl, _⟩ := DataW.trod_string ht h
  refine ⟨s, rfl, fun n hn _ => ⟨s.size, ?_, by rw [List.mem_singleton.1 hn]; exact Nat.le_refl _⟩⟩
  simp [DataW.weights]⟩
theorem weightsAll_mem {H : Type} {P : Program} {e : TypeId} : ∀ {l : List (DataW H)} {d : DataW H}, d ∈ l → ∀ {n : Nat}, n ∈ d.weights P e → n ∈ DataW.weightsAll P e l
  | x :: l, d, hd, n, hn => by
    simp only [DataW.weightsAll, List.mem_append]
    rcases List.mem_cons.1 hd with rfl | hd
    · exact .inl hn
    · exact .inr (weightsAll_mem hd hn)
  | [], _, hd, _, _ => by cases hd
theorem exists_list {α : Type} (n : Nat) (p : Nat → α → Prop) (h : ∀ i, i < n → ∃ x, p i x) : ∃ l : List α, l.length = n ∧ ∀ i x, l[i]? = some x → p i x := by
  induction n with
  | zero => exact ⟨[], rfl, fun i x hx => by simp at hx⟩
  | succ n ih =>
    obtain ⟨l, hl, hp⟩ := ih (fun i hi => h i (by omega))
    obtain ⟨x, hx⟩ := h n (by omega)
    refine ⟨l ++ [x], by simp [hl], fun i y hy => ?_⟩
    by_cases hi : i < n
    · rw [List.getElem?_append_left (by omega)] at hy; exact hp i y hy
    · rw [List.getElem?_append_right (by omega)] at hy
      have e : i - l.length = 0 := by
        rcases Nat.eq_zero_or_pos (i - l.length) with h0 | h0
        · exact h0
        · rw [List.getElem?_eq_none (by simp; omega)] at hy; cases hy
      rw [e] at hy
      simp at hy
      obtain rfl : i = n := by omega
      rw [← hy]; exact hx
theorem Deep_add (a : Addr) (i j : Nat) : (a.add i).add j = a.add (i + j) := by unfold Addr.add; split <;> split <;> simp_all [Nat.add_assoc]
theorem cells_at {w : World} {base : Nat} {a : Addr} {n : Nat} {cs : List Value} (h : w.cells? base a n = some cs) : cs.length = n ∧ ∀ i u, cs[i]? = some u → w.cell? (a.add i) = some u := by
  obtain ⟨_, hl, hc⟩ := World.cells?_some h
  refine ⟨hl, fun i u hu => ?_⟩
  have hi : i < cs.length := (List.getElem?_eq_some_iff.1 hu).1
  have := hc i (by omega)
  rw [this, hu]
theorem Rd.slice {P : Program} {t e : TypeId} {α : Type} {d : Kd α} {Z : α → List Nat} (ht : P.underlying t = some (.slice e)) (hC : P.cellsOf e = d.sz) (hd : Rd P e d Z) :
    Rd P t (Kd.slice e d) (fun xs => xs.length * P.bytesOf e :: xs.flatMap Z) := ⟨fun {H enc w base sp held fuel cs y} h => by
  rcases Deep.open_slice ht h with ⟨rfl, rfl⟩ | ⟨a, len, cap, m, n, D, Pl, rfl, hb, hl, hm, hmm, rfl, hi⟩
  · refine ⟨[], ⟨none, 0, rfl, Nat.le_refl _, Kd.C_nil _ _⟩, fun n hn hp => ?_⟩
    simp at hn
    omega
  · have hlm : len ≤ m := by rw [hmm]; split <;> omega
    obtain ⟨xs, hxl, hx⟩ := exists_list len (fun i x => ∃ cs', w.cells? base (a.add (i * P.cellsOf e)) (P.cellsOf e) = some cs' ∧ d.K w x cs' ∧ ∀ n ∈ Z x, 0 < n → ∃ m ∈ (D i).weights P e, n ≤ m) (fun i hilt => by
      obtain ⟨cs', hc, ht'⟩ := hi i (by omega)
      obtain ⟨x, hk, hz⟩ := hd.out ht'
      exact ⟨x, cs', hc, hk, hz⟩)
    subst hxl
    refine ⟨xs, ⟨some a, cap, rfl, hl, rfl, ?_, fun _ => ⟨a, rfl, fun j p hj => ?_⟩⟩, fun n hn hp => ?_⟩
    · unfold maxLen at hm; omega
    · obtain ⟨cs', hc, hk, _⟩ := hx j p hj
      obtain ⟨hl', hcell⟩ := cells_at hc
      refine ⟨cs', by rw [hl', hC], hk, fun i u hu => ?_⟩
      have hh := hcell i u hu
      rw [hC, Deep_add] at hh
      exact hh
    · simp only [List.mem_cons, List.mem_flatMap] at hn
      rcases hn with rfl | ⟨x, hxm, hn⟩
      · refine ⟨(((List.range xs.length).map D).length + ((List.range (m - xs.length)).map fun j => D (xs.length + j)).length) * P.bytesOf e, ?_, ?_⟩
        · simp [DataW.weights, ht]
        · apply Nat.mul_le_mul_right; simp
      · obtain ⟨i, hilt, hix⟩ := List.getElem_of_mem hxm
        obtain ⟨_, _, _, hz⟩ := hx i x (by rw [List.getElem?_eq_getElem hilt, hix])
        obtain ⟨k, hk, hnk⟩ := hz n hn hp
        refine ⟨k, ?_, hnk⟩
        simp only [DataW.weights, ht, List.mem_cons, List.mem_append]
        exact .inr (.inl (weightsAll_mem (List.mem_map.2 ⟨i, by simpa using hilt, rfl⟩) hk))⟩
structure RdL (P : Program) {α : Type} (fs : List Field) (off : Nat) (d : Kd α) (Z : α → List Nat) : Prop where
  out : ∀ {H : Type} {enc : TypeId × Value → H} {w : World} {base : Nat} {sp : Nat → Bool} {held : Bool} {n : Nat} {cs : List Value} {xs : List (DataW H × List MemPlace)},
    cs.length = off + d.sz → xs.length = fs.length → (∀ (i : Nat) (f : Field), fs[i]? = some f → DataW.trod enc P w base sp held n f.type ((cs.drop f.offset).take (P.cellsOf f.type)) = xs[i]?) →
    ∃ x, d.K w x (cs.drop off) ∧ ∀ n ∈ Z x, 0 < n → ∃ m ∈ DataW.weightsEach P (fs.map (·.type)) (xs.map (·.1)), n ≤ m
theorem RdL.one {P : Program} {α : Type} {f : Field} {off : Nat} {d : Kd α} {Z : α → List Nat} (hd : Rd P f.type d Z) (ho : f.offset = off) (hc : P.cellsOf f.type = d.sz) : RdL P [f] off d Z := by
  constructor
  intro H enc w base sp held n cs xs hl hx hf
  match xs, hx with
  | [y], _ =>
    have := hf 0 f rfl
    rw [ho, hc, List.take_of_length_le (by simp; omega)] at this
    obtain ⟨x, hk, hz⟩ := hd.out this
    refine ⟨x, hk, fun n hn hp => ?_⟩
    obtain ⟨m, hm, h⟩ := hz n hn hp
    exact ⟨m, by simp [DataW.weightsEach, hm], h⟩
theorem RdL.cons {P : Program} {α β : Type} {f : Field} {fs : List Field} {off : Nat} {a : Kd α} {b : Kd β} {Za : α → List Nat} {Zb : β → List Nat} (hd : Rd P f.type a Za) (ho : f.offset = off) (hc : P.cellsOf f.type = a.sz) (hr : RdL P fs (off + a.sz) b Zb) :
    RdL P (f :: fs) off (Kd.pair a b) (fun x => Za x.1 ++ Zb x.2) := by
  constructor
  intro H enc w base sp held n cs xs hl hx hf
  match xs, hx with
  | y :: ys, hx =>
    have h0 := hf 0 f rfl
    rw [ho, hc] at h0
    obtain ⟨x, hk, hz⟩ := hd.out h0
    have hl2 : cs.length = (off + a.sz) + b.sz := by have : (Kd.pair a b).sz = a.sz + b.sz := rfl; omega
    obtain ⟨x2, hk2, hz2⟩ := hr.out hl2 (by simpa using hx) (fun i g hg => by simpa using hf (i + 1) g (by simpa using hg))
    refine ⟨(x, x2), ⟨(cs.drop off).take a.sz, (cs.drop off).drop a.sz, (List.take_append_drop _ _).symm, hk, by rw [List.drop_drop]; exact hk2⟩, fun n hn hp => ?_⟩
    simp only [DataW.weightsEach, List.map_cons]
    rcases List.mem_append.1 hn with hn | hn
    · obtain ⟨m, hm, h⟩ := hz n hn hp; exact ⟨m, List.mem_append_left _ hm, h⟩
    · obtain ⟨m, hm, h⟩ := hz2 n hn hp; exact ⟨m, List.mem_append_right _ hm, h⟩
theorem Rd.struct {P : Program} {t : TypeId} {α : Type} {fs : Array Field} {d : Kd α} {Z : α → List Nat} (ht : P.underlying t = some (.struct fs)) (hC : P.cellsOf t = d.sz) (h : RdL P fs.toList 0 d Z) : Rd P t d Z := ⟨fun hh => by
  obtain ⟨xs, n, _, rfl, hl, hlen, hf⟩ := DataW.trod_struct ht hh
  obtain ⟨x, hk, hz⟩ := h.out (by rw [hl, hC]; omega) (by simpa using hlen) (fun i f hi => hf i f (by simpa using hi))
  refine ⟨x, by simpa using hk, fun n hn hp => ?_⟩
  obtain ⟨m, hm, h⟩ := hz n hn hp
  exact ⟨m, by simpa [DataW.weights, ht] using hm, h⟩⟩
theorem Rd.iso {P : Program} {t : TypeId} {α β : Type} {d : Kd α} {Z : α → List Nat} (h : Rd P t d Z) (f : β → α) (g : α → β) (fg : ∀ a, f (g a) = a) : Rd P t (Kd.iso d f) (fun x => Z (f x)) := ⟨fun hh => by
  obtain ⟨x, hk, hz⟩ := h.out hh
  exact ⟨g x, by show d.K _ (f (g x)) _; rw [fg]; exact hk, by rw [fg]; exact hz⟩⟩
theorem sized_rd {H : Type} {P : Program} {ts : List TypeId} {ds : List (DataW H)} {Zx : List Nat} (h : (DataW.weightsEach P ts ds).all (· ≤ reachBytes) = true) {j : Nat} {t : TypeId} {d : DataW H} (ht : ts[j]? = some t) (hd : ds[j]? = some d)
    (hz : ∀ n ∈ Zx, 0 < n → ∃ m ∈ d.weights P t, n ≤ m) : ∀ n ∈ Zx, n ≤ 140737488351232 := fun n hn => by
  rcases Nat.eq_zero_or_pos n with h0 | h0
  · omega
  · obtain ⟨m, hm, hnm⟩ := hz n hn h0
    have := List.all_eq_true.1 h _ (DataW.weights_mem_each ht hd m hm)
    have h2 : m ≤ reachBytes := by simpa using this
    unfold reachBytes at h2
    omega
/-- A list of texts whose room is bounded. -/
theorem zS_le {P : Program} {e : TypeId} {l : List ByteArray} (hb : 0 < P.bytesOf e) (h : ∀ n ∈ (l.length * P.bytesOf e :: l.flatMap fun s : ByteArray => [s.size]), n ≤ 140737488351232) : l.length ≤ 140737488351232 ∧ ∀ s ∈ l, s.size ≤ 140737488351232 :=
  ⟨Nat.le_trans (Nat.le_mul_of_pos_right _ hb) (h _ List.mem_cons_self), fun s hs => h _ (List.mem_cons_of_mem _ (List.mem_flatMap.2 ⟨s, hs, by simp⟩))⟩
end Go.Proofs.Ytcijlemojododaa.Q

/- Plain laws of the helpers that the exact laws share: sizes, copies, equality, marks of lists of texts. No memory in sight. -/
namespace Go.Proofs.Ytcijlemojododaa.Q
open Go.RowKit Go.Proofs.Ytcijlemojododaa.P Go.Proofs.YtcijlemojododaaW.PrintWords Go.Proofs.YtcijlemojododaaW.PrintLast Go.Proofs.YtcijlemojododaaW.PrintMore
set_option linter.unusedVariables false

theorem wsucc {i n : Nat} (h : i < n) (hn : n ≤ 140737488351232) : wrap64 ((i : Int) + 1) = ((i + 1 : Nat) : Int) := by
  unfold wrap64; omega
theorem rd_drop {α : Type} (d : α) (l : List α) (i : Nat) (h : i < l.length) : l.drop i = rdOf d l (i : Int) :: l.drop (i + 1) := by
  rw [List.drop_eq_getElem_cons h]; simp [rdOf, List.getD_eq_getElem?_getD, List.getElem?_eq_getElem h]
theorem rd_get {α : Type} (d : α) (l : List α) (i : Nat) (h : i < l.length) : rdOf d l (i : Int) = l[i] := by
  simp [rdOf, List.getD_eq_getElem?_getD, List.getElem?_eq_getElem h]

/-! ### toStringS: a copy -/
theorem toS_loop (l : List ByteArray) (hl : l.length ≤ 140737488351232) (n : Nat) : ∀ (i : Nat) (x : List ByteArray), l.length - i = n → i ≤ l.length → x.length = l.length →
    Ev (fun k => laws_toStringS.l0 k l x (i : Int)) (x.take i ++ l.drop i) := by
  induction n with
  | zero =>
    intro i x hn hi hx
    have e : i = l.length := by omega
    subst e
    refine Ev.step (f := fun _ => some x) (fun k => ?_) ?_
    · simp only [laws_toStringS.l0]; rw [if_neg (by omega)]
    · rw [List.drop_length, List.append_nil, List.take_of_length_le (by omega)]; exact Ev.now _
  | succ n ih =>
    intro i x hn hi hx
    have hlt : i < l.length := by omega
    have := ih (i + 1) (x.set i (rdOf ByteArray.empty l (i : Int))) (by omega) (by omega) (by simp [hx])
    have e : (x.set i (rdOf ByteArray.empty l (i : Int))).take (i + 1) ++ l.drop (i + 1) = x.take i ++ l.drop i := by
      rw [rd_drop ByteArray.empty l i hlt, List.take_add_one]
      have h1 : (x.set i (rdOf ByteArray.empty l (i : Int))).take i = x.take i := by rw [List.take_set_of_le (by omega)]
      rw [h1, List.getElem?_set_self (by omega)]; simp
    rw [e] at this
    refine Ev.step (f := fun k => laws_toStringS.l0 k l (x.set i (rdOf ByteArray.empty l (i : Int))) ((i + 1 : Nat) : Int)) (fun k => ?_) this
    simp only [laws_toStringS.l0]
    rw [if_pos (by omega), if_pos (by omega), if_pos (by omega), wsucc hlt hl, Int.toNat_natCast]
theorem toS_ev (l : List ByteArray) (hl : l.length ≤ 8796093022207) : Ev (fun k => laws_toStringS.f k l) l := by
  have := toS_loop l (by omega) (l.length - 0) 0 (List.replicate l.length (⟨#[]⟩ : ByteArray)) rfl (by omega) (by simp)
  simp only [List.take_zero, List.drop_zero, List.nil_append] at this
  refine Ev.congr (fun k => ?_) this
  unfold laws_toStringS.f
  rw [if_pos (by omega), if_pos (by omega)]; rfl

/-! ### eqStringS: a list equals itself -/
theorem eqS_loop (l : List ByteArray) (hl : l.length ≤ 140737488351232) (n : Nat) : ∀ (i : Nat), l.length - i = n → i ≤ l.length → Ev (fun k => laws_eqStringS.l0 k l l (i : Int)) true := by
  induction n with
  | zero =>
    intro i hn hi
    refine Ev.step (f := fun _ => some true) (fun k => ?_) (Ev.now _)
    simp only [laws_eqStringS.l0]; rw [if_neg (by omega)]
  | succ n ih =>
    intro i hn hi
    have hlt : i < l.length := by omega
    refine Ev.step (f := fun k => laws_eqStringS.l0 k l l ((i + 1 : Nat) : Int)) (fun k => ?_) (ih (i + 1) (by omega) (by omega))
    simp only [laws_eqStringS.l0]
    rw [if_pos (by omega), if_pos (by omega), if_pos (by omega), if_pos trivial, wsucc hlt hl]
theorem eqS_ev (l : List ByteArray) (hl : l.length ≤ 140737488351232) : Ev (fun k => laws_eqStringS.f k l l) true := by
  refine Ev.congr (fun k => ?_) (eqS_loop l hl (l.length - 0) 0 rfl (by omega))
  unfold laws_eqStringS.f
  rw [if_pos rfl]; rfl

/-! ### szStringS: what is left of a bound -/
def szL : List ByteArray → Int → Int
  | [], a => a
  | x :: l, a => if a - (x.size : Int) < 0 then -1 else szL l (a - (x.size : Int))
theorem szL_le (l : List ByteArray) : ∀ a : Int, 0 ≤ szL l a → szL l a ≤ a ∧ ∀ x ∈ l, (x.size : Int) ≤ a := by
  induction l with
  | nil => intro a h; exact ⟨Int.le_refl _, fun x hx => by cases hx⟩
  | cons y l ih =>
    intro a h
    unfold szL at h ⊢
    split at h
    · omega
    · rename_i hc
      rw [if_neg hc]
      have := ih _ h
      refine ⟨by omega, fun x hx => ?_⟩
      rcases List.mem_cons.1 hx with rfl | hx
      · omega
      · have := this.2 x hx; omega
theorem szS_loop (l : List ByteArray) (hl : l.length ≤ 140737488351232) (hs : ∀ x ∈ l, x.size ≤ 140737488351232) (n : Nat) : ∀ (i : Nat) (a : Int), l.length - i = n → i ≤ l.length → 0 ≤ a → a ≤ 1048576 →
    Ev (fun k => laws_szStringS.l0 k l a (i : Int)) (szL (l.drop i) a) := by
  induction n with
  | zero =>
    intro i a hn hi h0 h1
    rw [List.drop_of_length_le (by omega)]
    refine Ev.step (f := fun _ => some a) (fun k => ?_) (Ev.now _)
    simp only [laws_szStringS.l0]; rw [if_neg (by omega)]
  | succ n ih =>
    intro i a hn hi h0 h1
    have hlt : i < l.length := by omega
    have hx : (rdOf ByteArray.empty l (i : Int)).size ≤ 140737488351232 := by rw [rd_get _ _ _ hlt]; exact hs _ (List.getElem_mem hlt)
    rw [rd_drop ByteArray.empty l i hlt]
    unfold szL
    have hw : wrap64 (a - ((rdOf ByteArray.empty l (i : Int)).size : Int)) = a - ((rdOf ByteArray.empty l (i : Int)).size : Int) := by unfold wrap64; omega
    by_cases hc : a - ((rdOf ByteArray.empty l (i : Int)).size : Int) < 0
    · rw [if_pos hc]
      refine Ev.step (f := fun _ => some (-1)) (fun k => ?_) (Ev.now _)
      simp only [laws_szStringS.l0]; rw [if_pos (by omega), if_pos (by omega), hw, if_pos hc]
    · rw [if_neg hc]
      refine Ev.step (f := fun k => laws_szStringS.l0 k l (a - ((rdOf ByteArray.empty l (i : Int)).size : Int)) ((i + 1 : Nat) : Int)) (fun k => ?_) (ih (i + 1) _ (by omega) (by omega) (by omega) (by omega))
      simp only [laws_szStringS.l0]; rw [if_pos (by omega), if_pos (by omega), hw, if_neg hc, wsucc hlt hl]
def szS (l : List ByteArray) (a : Int) : Int := if a - (l.length : Int) < 0 then -1 else szL l (a - (l.length : Int))
theorem szS_ev (l : List ByteArray) (hl : l.length ≤ 140737488351232) (hs : ∀ x ∈ l, x.size ≤ 140737488351232) (a : Int) (h0 : 0 ≤ a) (h1 : a ≤ 1048576) : Ev (fun k => laws_szStringS.f k l a) (szS l a) := by
  have hw : wrap64 (a - (l.length : Int)) = a - (l.length : Int) := by unfold wrap64; omega
  unfold szS
  by_cases hc : a - (l.length : Int) < 0
  · rw [if_pos hc]
    refine Ev.congr (fun k => ?_) (Ev.now _)
    unfold laws_szStringS.f; rw [hw, if_pos hc]
  · rw [if_neg hc]
    refine Ev.congr (fun k => ?_) (szS_loop l hl hs (l.length - 0) 0 (a - (l.length : Int)) rfl (by omega) (by omega) (by omega))
    unfold laws_szStringS.f; rw [hw, if_neg hc]; rfl
theorem szS_le {l : List ByteArray} {a : Int} (h : 0 ≤ szS l a) : szS l a ≤ a ∧ (l.length : Int) ≤ a ∧ ∀ x ∈ l, (x.size : Int) ≤ a := by
  unfold szS at h ⊢
  split at h
  · omega
  · rename_i hc
    rw [if_neg hc]
    have := szL_le l _ h
    exact ⟨by omega, by omega, fun x hx => by have := this.2 x hx; omega⟩
end Go.Proofs.Ytcijlemojododaa.Q

/- Plain laws of sums, things and logs: what the program and the reference come to, by one function each. -/
namespace Go.Proofs.Ytcijlemojododaa.Q
open Go.RowKit Go.Proofs.Ytcijlemojododaa.P Go.Proofs.YtcijlemojododaaW.PrintWords Go.Proofs.YtcijlemojododaaW.PrintLast Go.Proofs.YtcijlemojododaaW.PrintMore
set_option linter.unusedVariables false

/-! ### widths, valid things -/
def widB (w : Int) : Bool := decide (1 ≤ w ∧ w ≤ 8)
theorem l1W (w : Int) : spec_l1Width.f w = some (widB w) := by
  unfold spec_l1Width.f widB
  by_cases h : w ≥ 1
  · rw [if_pos h]; congr 1; simp; omega
  · rw [if_neg h]; congr 1; simp; omega
theorem wOk (w : Int) : impl_widthOk.f w = some (widB w) := by
  unfold impl_widthOk.f widB
  by_cases h : w ≥ 1
  · rw [if_pos h]; congr 1; simp; omega
  · rw [if_neg h]; congr 1; simp; omega
theorem widB_iff {w : Int} : widB w = true ↔ 1 ≤ w ∧ w ≤ 8 := by simp [widB]
/-- From place i on: each has width bytes and is above the one before it. -/
def refsFrom (w : Int) (l : List ByteArray) : Nat → Nat → Bool
  | 0, _ => true
  | n + 1, i => if ((rdOf ByteArray.empty l (i : Int)).size : Int) = w then
      (if 0 < i then (if (Op.bytesLess ((rdOf ByteArray.empty l ((i - 1 : Nat) : Int)).toList) ((rdOf ByteArray.empty l (i : Int)).toList)) = true then refsFrom w l n (i + 1) else false) else refsFrom w l n (i + 1)) else false
def thingB (t : ByteArray) (l : List ByteArray) (w : Int) : Bool := if (t.size : Int) > 2000 then false else if (l.length : Int) > 30 then false else if widB w = true then refsFrom w l l.length 0 else false
theorem wpred {i : Nat} (h : 0 < i) (hn : i ≤ 140737488351232) : wrap64 ((i : Int) - 1) = ((i - 1 : Nat) : Int) := by unfold wrap64; omega
theorem sOk_loop (t : ByteArray) (l : List ByteArray) (w : Int) (hl : l.length ≤ 140737488351232) (n : Nat) : ∀ (i : Nat), l.length - i = n → i ≤ l.length → Ev (fun k => spec_l1ThingOk.l0 k w (i : Int) t l) (refsFrom w l n i) := by
  induction n with
  | zero =>
    intro i hn hi
    refine Ev.step (f := fun _ => some true) (fun k => ?_) (Ev.now _)
    simp only [spec_l1ThingOk.l0]; rw [if_neg (by omega)]
  | succ n ih =>
    intro i hn hi
    have hlt : i < l.length := by omega
    have ih2 := ih (i + 1) (by omega) (by omega)
    unfold refsFrom
    by_cases c1 : ((rdOf ByteArray.empty l (i : Int)).size : Int) = w
    · rw [if_pos c1]
      by_cases c2 : 0 < i
      · rw [if_pos c2]
        by_cases c3 : (Op.bytesLess ((rdOf ByteArray.empty l ((i - 1 : Nat) : Int)).toList) ((rdOf ByteArray.empty l (i : Int)).toList)) = true
        · rw [if_pos c3]
          refine Ev.step (fun k => ?_) ih2
          simp only [spec_l1ThingOk.l0]; rw [if_pos (by omega), if_pos (by omega), if_pos c1, if_pos (by omega), wpred c2 (by omega), if_pos (by omega), if_pos (by omega), if_pos c3, wsucc hlt hl]
        · rw [if_neg c3]
          refine Ev.step (f := fun _ => some false) (fun k => ?_) (Ev.now _)
          simp only [spec_l1ThingOk.l0]; rw [if_pos (by omega), if_pos (by omega), if_pos c1, if_pos (by omega), wpred c2 (by omega), if_pos (by omega), if_pos (by omega), if_neg c3]
      · rw [if_neg c2]
        refine Ev.step (fun k => ?_) ih2
        simp only [spec_l1ThingOk.l0]; rw [if_pos (by omega), if_pos (by omega), if_pos c1, if_neg (by omega), wsucc hlt hl]
    · rw [if_neg c1]
      refine Ev.step (f := fun _ => some false) (fun k => ?_) (Ev.now _)
      simp only [spec_l1ThingOk.l0]; rw [if_pos (by omega), if_pos (by omega), if_neg c1]
theorem sOk_ev (t : ByteArray) (l : List ByteArray) (w : Int) (hl : l.length ≤ 140737488351232) : Ev (fun k => spec_l1ThingOk.f k t l w) (thingB t l w) := by
  have hj : ∀ b : Bool, Ev (fun k => spec_l1ThingOk.j0 k w b t l) (if b = true then false else refsFrom w l l.length 0) := fun b => by
    cases b
    · refine Ev.step (fun k => ?_) (sOk_loop t l w hl (l.length - 0) 0 rfl (by omega))
      simp only [spec_l1ThingOk.j0]; rfl
    · refine Ev.step (f := fun _ => some false) (fun k => ?_) (Ev.now _)
      simp only [spec_l1ThingOk.j0]; rfl
  unfold thingB
  by_cases c1 : widB w = true
  · by_cases c2 : (t.size : Int) > 2000
    · rw [if_pos c2]
      refine Ev.congr (fun k => ?_) (hj true)
      unfold spec_l1ThingOk.f; rw [l1W, Option.bind_some, if_pos c1, if_pos c2]
    · rw [if_neg c2, if_pos c1]
      refine Ev.congr (fun k => ?_) (by have := hj (decide ((l.length : Int) > 30)); simp only [decide_eq_true_eq] at this; exact this)
      unfold spec_l1ThingOk.f; rw [l1W, Option.bind_some, if_pos c1, if_neg c2]
  · rw [if_neg c1]
    have e : (if (t.size : Int) > 2000 then false else if (l.length : Int) > 30 then false else false) = false := by split <;> (try rfl); split <;> rfl
    rw [e]
    refine Ev.congr (fun k => ?_) (hj true)
    unfold spec_l1ThingOk.f; rw [l1W, Option.bind_some, if_neg c1]
theorem iOk_loop (t : ByteArray) (l : List ByteArray) (w : Int) (hl : l.length ≤ 140737488351232) (n : Nat) : ∀ (i : Nat), l.length - i = n → i ≤ l.length → Ev (fun k => impl_thingOk.l0 k w l (l.length : Int) (i : Int) t l) (if widB w = true then refsFrom w l n i else false) := by
  induction n with
  | zero =>
    intro i hn hi
    refine Ev.step (f := fun _ => some (widB w)) (fun k => ?_) ?_
    · simp only [impl_thingOk.l0]; rw [if_neg (by omega), wOk]; rfl
    · unfold refsFrom; cases widB w <;> exact Ev.now _
  | succ n ih =>
    intro i hn hi
    have hlt : i < l.length := by omega
    have ih2 := ih (i + 1) (by omega) (by omega)
    unfold refsFrom
    by_cases c1 : ((rdOf ByteArray.empty l (i : Int)).size : Int) = w
    · rw [if_pos c1]
      by_cases c2 : 0 < i
      · rw [if_pos c2]
        by_cases c3 : (Op.bytesLess ((rdOf ByteArray.empty l ((i - 1 : Nat) : Int)).toList) ((rdOf ByteArray.empty l (i : Int)).toList)) = true
        · rw [if_pos c3]
          refine Ev.step (fun k => ?_) ih2
          simp only [impl_thingOk.l0]; rw [if_pos (by omega), if_pos (by omega), if_pos (by omega), if_pos c1, if_pos (by omega), wpred c2 (by omega), if_pos (by omega), if_pos (by omega), if_pos c3, wsucc hlt hl]
        · rw [if_neg c3, ite_self]
          refine Ev.step (f := fun _ => some false) (fun k => ?_) (Ev.now _)
          simp only [impl_thingOk.l0]; rw [if_pos (by omega), if_pos (by omega), if_pos (by omega), if_pos c1, if_pos (by omega), wpred c2 (by omega), if_pos (by omega), if_pos (by omega), if_neg c3]
      · rw [if_neg c2]
        refine Ev.step (fun k => ?_) ih2
        simp only [impl_thingOk.l0]; rw [if_pos (by omega), if_pos (by omega), if_pos (by omega), if_pos c1, if_neg (by omega), wsucc hlt hl]
    · rw [if_neg c1, ite_self]
      refine Ev.step (f := fun _ => some false) (fun k => ?_) (Ev.now _)
      simp only [impl_thingOk.l0]; rw [if_pos (by omega), if_pos (by omega), if_pos (by omega), if_neg c1]
theorem iOk_ev (t : ByteArray) (l : List ByteArray) (w : Int) (hl : l.length ≤ 140737488351232) : Ev (fun k => impl_thingOk.f k t l w) (thingB t l w) := by
  have hj : ∀ b : Bool, Ev (fun k => impl_thingOk.j0 k w b t l) (if b = true then false else if widB w = true then refsFrom w l l.length 0 else false) := fun b => by
    cases b
    · refine Ev.step (fun k => ?_) (iOk_loop t l w hl (l.length - 0) 0 rfl (by omega))
      simp only [impl_thingOk.j0]; rfl
    · refine Ev.step (f := fun _ => some false) (fun k => ?_) (Ev.now _)
      simp only [impl_thingOk.j0]; rfl
  unfold thingB
  by_cases c2 : (t.size : Int) > 2000
  · rw [if_pos c2]
    refine Ev.congr (fun k => ?_) (hj true)
    unfold impl_thingOk.f; rw [if_pos c2]
  · rw [if_neg c2]
    refine Ev.congr (fun k => ?_) (by have := hj (decide ((l.length : Int) > 30)); simp only [decide_eq_true_eq] at this; exact this)
    unfold impl_thingOk.f; rw [if_neg c2]
theorem thingB_le {t : ByteArray} {l : List ByteArray} {w : Int} (h : thingB t l w = true) : t.size ≤ 2000 ∧ l.length ≤ 30 ∧ 1 ≤ w ∧ w ≤ 8 ∧ refsFrom w l l.length 0 = true := by
  unfold thingB at h
  split at h
  · cases h
  · split at h
    · cases h
    · split at h
      · rename_i h1 h2 h3
        have := widB_iff.1 h3
        exact ⟨by omega, by omega, this.1, this.2, h⟩
      · cases h
end Go.Proofs.Ytcijlemojododaa.Q

/- Plain laws of sums and of things' forms: the program's and the reference's come to one function each. -/
namespace Go.Proofs.Ytcijlemojododaa.Q
open Go.RowKit Go.Proofs.Ytcijlemojododaa.P Go.Proofs.YtcijlemojododaaW.PrintWords Go.Proofs.YtcijlemojododaaW.PrintLast Go.Proofs.YtcijlemojododaaW.PrintMore
set_option linter.unusedVariables false

/-! ### Sum -/
def hstep (h b : Int) : Int := IntKind.u64.wrap ((Go.bits .xor .u64 h (IntKind.u64.wrap b)) * 1099511628211)
def hashFrom (s : ByteArray) : Nat → Nat → Int → Int
  | 0, _, h => h
  | n + 1, i, h => hashFrom s n (i + 1) (hstep h (bt s (i : Int)))
theorem u64_wrap (x : Int) : IntKind.u64.wrap x = x % 18446744073709551616 := by
  simp [IntKind.wrap, IntKind.bits, IntKind.signed]
theorem hstep_range (h b : Int) : 0 ≤ hstep h b ∧ hstep h b < 18446744073709551616 := by
  unfold hstep; rw [u64_wrap]; omega
/-- The last bytes of a number, the highest first. -/
def dig (x : Int) : Nat → List Int
  | 0 => []
  | w + 1 => dig (x / 256) w ++ [x % 256]
def hash (s : ByteArray) : Int := hashFrom s s.size 0 14695981039346656037
def sumB (s : ByteArray) (w : Int) : ByteArray := if widB w = true then strOfNums (dig (hash s) w.toNat) else ⟨#[]⟩
theorem sSum1 (w : Int) (hw : 1 ≤ w ∧ w ≤ 8) (n : Nat) : ∀ (i : Int) (x : Int) (l : List Int), (w - i).toNat = n → 0 ≤ i → i ≤ w → l.length ≤ i.toNat → 0 ≤ x → x < 18446744073709551616 →
    Ev (fun k => spec_Sum.l1 k w x l i) (strOfNums (dig x n ++ l)) := by
  induction n with
  | zero =>
    intro i x l hn h0 h1 hl hx hx2
    refine Ev.step (f := fun _ => some (strOfNums l)) (fun k => ?_) (Ev.now _)
    simp only [spec_Sum.l1]; rw [if_neg (by omega)]
  | succ n ih =>
    intro i x l hn h0 h1 hl hx hx2
    have e1 : Int.tmod x 256 = x % 256 := Int.tmod_eq_emod_of_nonneg hx
    have e2 : Int.tdiv x 256 = x / 256 := Int.tdiv_eq_ediv_of_nonneg hx
    have e3 : IntKind.u64.wrap (x / 256) = x / 256 := by rw [u64_wrap]; omega
    have e4 : wrap64 (i + 1) = i + 1 := by unfold wrap64; omega
    have e5 : x % 256 % 256 = x % 256 := by omega
    have := ih (i + 1) (x / 256) ([x % 256] ++ l) (by omega) (by omega) (by omega) (by simp; omega) (by omega) (by omega)
    have e : dig x (n + 1) ++ l = dig (x / 256) n ++ ([x % 256] ++ l) := by simp [dig]
    rw [e]
    refine Ev.step (fun k => ?_) this
    simp only [spec_Sum.l1]; rw [if_pos (by omega)]; simp only [Option.bind_some]; rw [e1, e2, e3, e4, e5, if_pos (by simp; omega)]
theorem sSum0 (s : ByteArray) (w : Int) (hw : 1 ≤ w ∧ w ≤ 8) (hs : s.size ≤ 140737488351232) (n : Nat) : ∀ (i : Nat) (h : Int), s.size - i = n → i ≤ s.size → 0 ≤ h → h < 18446744073709551616 →
    Ev (fun k => spec_Sum.l0 k s w h (i : Int)) (strOfNums (dig (hashFrom s n i h) w.toNat)) := by
  induction n with
  | zero =>
    intro i h hn hi h0 h1
    have := sSum1 w hw w.toNat 0 h [] (by omega) (by omega) (by omega) (by simp) h0 h1
    rw [List.append_nil] at this
    refine Ev.step (fun k => ?_) this
    simp only [spec_Sum.l0]; rw [if_neg (by omega)]
  | succ n ih =>
    intro i h hn hi h0 h1
    have hr := hstep_range h (bt s (i : Int))
    refine Ev.step (fun k => ?_) (ih (i + 1) (hstep h (bt s (i : Int))) (by omega) (by omega) hr.1 hr.2)
    simp only [spec_Sum.l0]; rw [if_pos (by omega), if_pos (by omega), wsucc (show i < s.size by omega) hs]; rfl
theorem sSum_ev (s : ByteArray) (w : Int) (hs : s.size ≤ 140737488351232) : Ev (fun k => spec_Sum.f k s w) (sumB s w) := by
  unfold sumB
  by_cases c : widB w = true
  · rw [if_pos c]
    refine Ev.congr (fun k => ?_) (sSum0 s w (widB_iff.1 c) hs s.size 0 14695981039346656037 (by omega) (by omega) (by omega) (by omega))
    unfold spec_Sum.f; rw [l1W, Option.bind_some, if_pos c]; rfl
  · rw [if_neg c]
    refine Ev.congr (fun k => ?_) (Ev.now _)
    unfold spec_Sum.f; rw [l1W, Option.bind_some, if_neg c]
theorem iSum1 (n : Nat) : ∀ (x : Int) (l : List Int), n ≤ l.length → l.length ≤ 8 → 
    Ev (fun k => impl_Sum.l1 k x l ((n : Int) - 1)) (strOfNums (dig x n ++ l.drop n)) := by
  induction n with
  | zero =>
    intro x l hn hl
    refine Ev.step (f := fun _ => some (strOfNums l)) (fun k => ?_) (Ev.now _)
    simp only [impl_Sum.l1]; rw [if_neg (by omega)]
  | succ n ih =>
    intro x l hn hl
    have e1 : (((n + 1 : Nat) : Int) - 1).toNat = n := by omega
    have := ih (x / 256) (l.set n (x % 256)) (by simp; omega) (by simpa using hl)
    have e : dig x (n + 1) ++ l.drop (n + 1) = dig (x / 256) n ++ (l.set n (x % 256)).drop n := by
      have hlt : n < (l.set n (x % 256)).length := by simp; omega
      rw [List.drop_eq_getElem_cons hlt, List.getElem_set_self, List.drop_set_of_lt (by omega)]
      simp [dig]
    rw [e]
    have e4 : wrap64 (((n + 1 : Nat) : Int) - 1 - 1) = (n : Int) - 1 := by unfold wrap64; omega
    refine Ev.step (fun k => ?_) this
    simp only [impl_Sum.l1]; rw [if_pos (by omega), if_pos (by omega), if_pos (by omega), e1, e4]
theorem iSum0 (s : ByteArray) (w : Int) (hw : 1 ≤ w ∧ w ≤ 8) (hs : s.size ≤ 140737488351232) (n : Nat) : ∀ (i : Nat) (h : Int), s.size - i = n → i ≤ s.size →
    Ev (fun k => impl_Sum.l0 k s w h (s.size : Int) (i : Int)) (strOfNums (dig (hashFrom s n i h) w.toNat)) := by
  induction n with
  | zero =>
    intro i h hn hi
    have := iSum1 w.toNat h (List.replicate w.toNat 0) (by simp) (by simp; omega)
    rw [List.drop_of_length_le (by simp), List.append_nil] at this
    have e : wrap64 (w - 1) = ((w.toNat : Nat) : Int) - 1 := by unfold wrap64; omega
    refine Ev.step (fun k => ?_) this
    simp only [impl_Sum.l0]; rw [if_neg (by omega), if_pos (by omega), if_pos (by omega), e]
  | succ n ih =>
    intro i h hn hi
    refine Ev.step (fun k => ?_) (ih (i + 1) (hstep h (bt s (i : Int))) (by omega) (by omega))
    simp only [impl_Sum.l0]; rw [if_pos (by omega), if_pos (by omega), if_pos (by omega), wsucc (show i < s.size by omega) hs]; rfl
theorem iSum_ev (s : ByteArray) (w : Int) (hs : s.size ≤ 140737488351232) : Ev (fun k => impl_Sum.f k s w) (sumB s w) := by
  unfold sumB
  by_cases c : widB w = true
  · rw [if_pos c]
    refine Ev.congr (fun k => ?_) (iSum0 s w (widB_iff.1 c) hs s.size 0 14695981039346656037 (by omega) (by omega))
    unfold impl_Sum.f; rw [wOk, Option.bind_some, if_pos c]; rfl
  · rw [if_neg c]
    refine Ev.congr (fun k => ?_) (Ev.now _)
    unfold impl_Sum.f; rw [wOk, Option.bind_some, if_neg c]

/-! ### forms -/
theorem son_append (xs ys : List Int) : strOfNums (xs ++ ys) = strOfNums xs ++ strOfNums ys := by
  apply ByteArray.ext; rw [ByteArray.data_append]; simp [strOfNums]
theorem son_bytes (s : ByteArray) : strOfNums (bytesOf s) = s := by
  apply ByteArray.ext; apply Array.ext'; simp [strOfNums, bytesOf, Function.comp_def]
theorem son_size (xs : List Int) : (strOfNums xs).size = xs.length := by simp [strOfNums, ByteArray.size]
theorem bytes_length (s : ByteArray) : (bytesOf s).length = s.size := by unfold bytesOf; rw [List.length_map]; exact Array.length_toList
def catB : List ByteArray → ByteArray
  | [] => ⟨#[]⟩
  | x :: l => x ++ catB l
def headB (n : Nat) : ByteArray := strOfNums [(n : Int) % 256]
def formB (t : ByteArray) (l : List ByteArray) : ByteArray := headB l.length ++ (catB l ++ t)
theorem ba_assoc (a b c : ByteArray) : a ++ b ++ c = a ++ (b ++ c) := by apply ByteArray.ext; simp [ByteArray.data_append, Array.append_assoc]
theorem ba_nil (a : ByteArray) : (⟨#[]⟩ : ByteArray) ++ a = a := by apply ByteArray.ext; simp [ByteArray.data_append]
def szAll (l : List ByteArray) : Nat := (l.map ByteArray.size).sum
theorem catB_size (l : List ByteArray) : (catB l).size = szAll l := by
  induction l with
  | nil => rfl
  | cons x l ih => simp [catB, szAll, ByteArray.size_append, ih] at *
theorem szAll_drop (l : List ByteArray) (i : Nat) (h : i < l.length) : szAll (l.drop i) = (rdOf ByteArray.empty l (i : Int)).size + szAll (l.drop (i + 1)) := by
  rw [rd_drop ByteArray.empty l i h]; simp [szAll]
theorem iForm_loop (t : ByteArray) (l : List ByteArray) (hl : l.length ≤ 140737488351232) (n : Nat) : ∀ (i : Nat) (x : ByteArray), l.length - i = n → i ≤ l.length → x.size + szAll (l.drop i) + t.size ≤ 9223372036854775807 →
    Ev (fun k => impl_form.l0 k x l (l.length : Int) (i : Int) t l) (x ++ (catB (l.drop i) ++ t)) := by
  induction n with
  | zero =>
    intro i x hn hi hb
    rw [List.drop_of_length_le (by omega)] at hb ⊢
    simp only [catB, ba_nil]
    refine Ev.step (f := fun _ => some (x ++ t)) (fun k => ?_) (Ev.now _)
    simp only [impl_form.l0]; rw [if_neg (by omega), if_pos (by simp [szAll] at hb; omega)]
  | succ n ih =>
    intro i x hn hi hb
    have hlt : i < l.length := by omega
    rw [szAll_drop l i hlt] at hb
    have := ih (i + 1) (x ++ rdOf ByteArray.empty l (i : Int)) (by omega) (by omega) (by rw [ByteArray.size_append]; omega)
    have e : x ++ (catB (l.drop i) ++ t) = (x ++ rdOf ByteArray.empty l (i : Int)) ++ (catB (l.drop (i + 1)) ++ t) := by
      rw [rd_drop ByteArray.empty l i hlt]; simp only [catB, ba_assoc]
    rw [e]
    refine Ev.step (fun k => ?_) this
    simp only [impl_form.l0]; rw [if_pos (by omega), if_pos (by omega), if_pos (by omega), if_pos (by omega), wsucc hlt hl]
theorem iForm_ev (t : ByteArray) (l : List ByteArray) (hl : l.length ≤ 140737488351232) (hb : 1 + szAll l + t.size ≤ 9223372036854775807) : Ev (fun k => impl_form.f k t l) (formB t l) := by
  have h1 : (headB l.length).size = 1 := by unfold headB; rw [son_size]; rfl
  have := iForm_loop t l hl (l.length - 0) 0 (headB l.length) rfl (by omega) (by rw [h1, List.drop_zero]; exact hb)
  rw [List.drop_zero] at this
  exact Ev.congr (fun k => by unfold impl_form.f; rfl) this
theorem sForm_loop (t : ByteArray) (l : List ByteArray) (hl : l.length ≤ 140737488351232) (n : Nat) : ∀ (i : Nat) (x : List Int), l.length - i = n → i ≤ l.length → x.length + szAll (l.drop i) + t.size < 140737488355328 →
    Ev (fun k => spec_FormThing.l0 k x (i : Int) t l) (strOfNums x ++ (catB (l.drop i) ++ t)) := by
  induction n with
  | zero =>
    intro i x hn hi hb
    rw [List.drop_of_length_le (by omega)] at hb ⊢
    simp only [catB, ba_nil]
    refine Ev.step (f := fun _ => some (strOfNums (x ++ bytesOf t))) (fun k => ?_) (by rw [son_append, son_bytes]; exact Ev.now _)
    simp only [spec_FormThing.l0]; rw [if_neg (by omega), if_pos (by simp [szAll] at hb; omega)]
  | succ n ih =>
    intro i x hn hi hb
    have hlt : i < l.length := by omega
    rw [szAll_drop l i hlt] at hb
    have := ih (i + 1) (x ++ bytesOf (rdOf ByteArray.empty l (i : Int))) (by omega) (by omega) (by rw [List.length_append, bytes_length]; omega)
    have e : strOfNums x ++ (catB (l.drop i) ++ t) = strOfNums (x ++ bytesOf (rdOf ByteArray.empty l (i : Int))) ++ (catB (l.drop (i + 1)) ++ t) := by
      rw [rd_drop ByteArray.empty l i hlt, son_append, son_bytes]; simp only [catB, ba_assoc]
    rw [e]
    refine Ev.step (fun k => ?_) this
    simp only [spec_FormThing.l0]; rw [if_pos (by omega), if_pos (by omega), if_pos (by omega), wsucc hlt hl]
/-- What is valid is small. -/
theorem refs_sizes (w : Int) (l : List ByteArray) (n : Nat) : ∀ i, l.length - i = n → i ≤ l.length → refsFrom w l n i = true → (szAll (l.drop i) : Int) = (n : Int) * w := by
  induction n with
  | zero => intro i hn hi h; rw [List.drop_of_length_le (by omega)]; simp [szAll]
  | succ n ih =>
    intro i hn hi h
    unfold refsFrom at h
    have hlt : i < l.length := by omega
    rw [szAll_drop l i hlt]
    split at h
    · rename_i c1
      have hr : refsFrom w l n (i + 1) = true := by
        split at h
        · split at h
          · exact h
          · cases h
        · exact h
      have := ih (i + 1) (by omega) (by omega) hr
      have e : ((n + 1 : Nat) : Int) * w = w + (n : Int) * w := by rw [Int.natCast_add, Int.add_mul]; omega
      rw [e, Int.natCast_add, this, c1]
    · cases h
theorem thing_small {t : ByteArray} {l : List ByteArray} {w : Int} (h : thingB t l w = true) : szAll l ≤ 240 ∧ t.size ≤ 2000 ∧ l.length ≤ 30 := by
  obtain ⟨h1, h2, h3, h4, h5⟩ := thingB_le h
  have := refs_sizes w l l.length 0 (by omega) (by omega) h5
  rw [List.drop_zero] at this
  have : (l.length : Int) * w ≤ 30 * 8 := Int.mul_le_mul (by omega) h4 (by omega) (by omega)
  omega
def formT (t : ByteArray) (l : List ByteArray) (w : Int) : ByteArray := if thingB t l w = true then formB t l else ⟨#[]⟩
theorem sFormT_ev (t : ByteArray) (l : List ByteArray) (w : Int) (hl : l.length ≤ 140737488351232) : Ev (fun k => spec_FormThing.f k t l w) (formT t l w) := by
  refine Ev.bind (sOk_ev t l w hl) ?_
  unfold formT
  by_cases c : thingB t l w = true
  · have hs := thing_small c
    rw [if_pos c]
    have := sForm_loop t l hl (l.length - 0) 0 [(l.length : Int) % 256] rfl (by omega) (by rw [List.drop_zero]; simp; omega)
    rw [List.drop_zero] at this
    exact Ev.congr (fun k => by rw [if_pos c]; rfl) this
  · rw [if_neg c]
    exact Ev.congr (fun k => by rw [if_neg c]) (Ev.now _)
end Go.Proofs.Ytcijlemojododaa.Q

/- Plain laws of names. -/
namespace Go.Proofs.Ytcijlemojododaa.Q
open Go.RowKit Go.Proofs.Ytcijlemojododaa.P Go.Proofs.YtcijlemojododaaW.PrintWords Go.Proofs.YtcijlemojododaaW.PrintLast Go.Proofs.YtcijlemojododaaW.PrintMore
set_option linter.unusedVariables false

theorem Ev.ite' {α : Type} {c : Prop} [Decidable c] {g f : Nat → Option α} {r : α} (h1 : c → Ev g r) (h2 : ¬ c → Ev f r) : Ev (fun k => if c then g k else f k) r := by
  by_cases h : c
  · exact Ev.congr (fun k => if_pos h) (h1 h)
  · exact Ev.congr (fun k => if_neg h) (h2 h)
theorem Ev.ret {α : Type} {a r : α} (h : a = r) : Ev (fun _ => some a) r := by rw [h]; exact Ev.now r
theorem Ev.pos {α : Type} {c : Prop} [Decidable c] {g f : Nat → Option α} {r : α} (h : c) (e : Ev g r) : Ev (fun k => if c then g k else f k) r := Ev.congr (fun _ => if_pos h) e
theorem Ev.neg {α : Type} {c : Prop} [Decidable c] {g f : Nat → Option α} {r : α} (h : ¬ c) (e : Ev f r) : Ev (fun k => if c then g k else f k) r := Ev.congr (fun _ => if_neg h) e
/-! ### names -/
def nameFrom (s : ByteArray) : Nat → Nat → Bool
  | 0, _ => decide (1 ≤ s.size ∧ s.size ≤ 40)
  | n + 1, i => if bt s (i : Int) < 33 then false else if bt s (i : Int) > 126 then false else nameFrom s n (i + 1)
def nameB (s : ByteArray) : Bool := nameFrom s s.size 0
theorem nameEnd (s : ByteArray) : (if (s.size : Int) ≥ 1 then some (decide ((s.size : Int) ≤ 40)) else some false) = some (decide (1 ≤ s.size ∧ s.size ≤ 40)) := by
  by_cases h : (s.size : Int) ≥ 1
  · rw [if_pos h]; congr 1; rw [Bool.eq_iff_iff, decide_eq_true_eq, decide_eq_true_eq]; omega
  · rw [if_neg h]; congr 1; symm; rw [decide_eq_false_iff_not]; omega
theorem sName_loop (s : ByteArray) (hs : s.size ≤ 140737488351232) (n : Nat) : ∀ (i : Nat), s.size - i = n → i ≤ s.size → Ev (fun k => spec_l3NameOk.l0 k s (i : Int)) (nameFrom s n i) := by
  induction n with
  | zero =>
    intro i hn hi
    refine Ev.step (f := fun _ => some (nameFrom s 0 i)) (fun k => ?_) (Ev.now _)
    simp only [spec_l3NameOk.l0]; rw [if_neg (by omega), nameEnd]; rfl
  | succ n ih =>
    intro i hn hi
    have hlt : i < s.size := by omega
    refine Ev.step (fun k => by simp only [spec_l3NameOk.l0]; rw [if_pos (by omega), if_pos (by omega), wsucc hlt hs]) ?_
    unfold nameFrom
    refine Ev.ite' (fun h => ?_) (fun h => ?_)
    · rw [if_pos h]; exact Ev.now _
    · rw [if_neg h]
      refine Ev.ite' (fun h2 => ?_) (fun h2 => ?_)
      · rw [if_pos h2]; exact Ev.now _
      · rw [if_neg h2]; exact ih (i + 1) (by omega) (by omega)
theorem sName_ev (s : ByteArray) (hs : s.size ≤ 140737488351232) : Ev (fun k => spec_l3NameOk.f k s) (nameB s) :=
  Ev.congr (fun k => by unfold spec_l3NameOk.f; rfl) (sName_loop s hs s.size 0 (by omega) (by omega))
theorem iName_loop (s : ByteArray) (hs : s.size ≤ 140737488351232) (n : Nat) : ∀ (i : Nat), s.size - i = n → i ≤ s.size → Ev (fun k => impl_nameOk.l0 k s (s.size : Int) (i : Int)) (nameFrom s n i) := by
  induction n with
  | zero =>
    intro i hn hi
    refine Ev.step (f := fun _ => some (nameFrom s 0 i)) (fun k => ?_) (Ev.now _)
    simp only [impl_nameOk.l0]; rw [if_neg (by omega), nameEnd]; rfl
  | succ n ih =>
    intro i hn hi
    have hlt : i < s.size := by omega
    refine Ev.step (fun k => by simp only [impl_nameOk.l0]; rw [if_pos (by omega), if_pos (by omega), if_pos (by omega), wsucc hlt hs]) ?_
    unfold nameFrom
    refine Ev.ite' (fun h => ?_) (fun h => ?_)
    · rw [if_pos h]; exact Ev.now _
    · rw [if_neg h]
      refine Ev.ite' (fun h2 => ?_) (fun h2 => ?_)
      · rw [if_pos h2]; exact Ev.now _
      · rw [if_neg h2]; exact ih (i + 1) (by omega) (by omega)
theorem iName_ev (s : ByteArray) (hs : s.size ≤ 140737488351232) : Ev (fun k => impl_nameOk.f k s) (nameB s) :=
  Ev.congr (fun k => by unfold impl_nameOk.f; rfl) (iName_loop s hs s.size 0 (by omega) (by omega))
end Go.Proofs.Ytcijlemojododaa.Q

/- Plain laws of texts in order: bytesLess is an order; the place that halving finds. -/
namespace Go.Proofs.Ytcijlemojododaa.Q
open Go.RowKit Go.Proofs.Ytcijlemojododaa.P Go.Proofs.Ytcijlemojododaa.S Go.Proofs.YtcijlemojododaaW.PrintWords Go.Proofs.YtcijlemojododaaW.PrintLast Go.Proofs.YtcijlemojododaaW.PrintMore
set_option linter.unusedVariables false

theorem bl_irr : ∀ x : List UInt8, Op.bytesLess x x = false
  | [] => rfl
  | a :: x => by
    have h := bl_irr x
    have h2 : ¬ a < a := by rw [UInt8.lt_iff_toNat_lt]; omega
    simp [Op.bytesLess, h, h2]
theorem bl_trans : ∀ x y z : List UInt8, Op.bytesLess x y = true → Op.bytesLess y z = true → Op.bytesLess x z = true
  | _, y, [], _, h => by cases y <;> simp [Op.bytesLess] at h
  | [], _, _ :: _, _, _ => rfl
  | _ :: _, [], _ :: _, h, _ => by simp [Op.bytesLess] at h
  | a :: x, b :: y, c :: z, h1, h2 => by
    have ih := bl_trans x y z
    simp only [Op.bytesLess, Bool.or_eq_true, decide_eq_true_eq, Bool.and_eq_true, beq_iff_eq, UInt8.lt_iff_toNat_lt] at h1 h2 ⊢
    rcases h1 with h1 | ⟨rfl, h1⟩
    · rcases h2 with h2 | ⟨rfl, h2⟩
      · exact Or.inl (by omega)
      · exact Or.inl h1
    · rcases h2 with h2 | ⟨rfl, h2⟩
      · exact Or.inl h2
      · exact Or.inr ⟨rfl, ih h1 h2⟩
/-! ### halving -/
theorem bsr_spec (p : Nat → Bool) (N : Nat) (hm : ∀ i j, i ≤ j → j < N → p i = true → p j = true) : ∀ (k lo hi : Nat), hi - lo ≤ k → lo ≤ hi → hi ≤ N → (∀ i, i < lo → p i = false) → (∀ i, hi ≤ i → i < N → p i = true) →
    bsr p k lo hi ≤ N ∧ (∀ i, i < bsr p k lo hi → p i = false) ∧ (∀ i, bsr p k lo hi ≤ i → i < N → p i = true) := by
  intro k
  induction k with
  | zero =>
    intro lo hi h1 h2 h3 h4 h5
    have : lo = hi := by omega
    subst this
    exact ⟨h3, h4, h5⟩
  | succ k ih =>
    intro lo hi h1 h2 h3 h4 h5
    unfold bsr
    by_cases c : lo < hi
    · rw [if_pos c]
      by_cases c2 : p ((lo + hi) / 2) = true
      · rw [if_pos c2]
        exact ih lo ((lo + hi) / 2) (by omega) (by omega) (by omega) h4 (fun i hi1 hi2 => hm _ i hi1 hi2 c2)
      · rw [if_neg c2]
        refine ih ((lo + hi) / 2 + 1) hi (by omega) (by omega) h3 (fun i hi1 => ?_) h5
        cases hp : p i with
        | false => rfl
        | true => exact absurd (hm i ((lo + hi) / 2) (by omega) (by omega) hp) c2
    · rw [if_neg c]
      have : lo = hi := by omega
      subst this
      exact ⟨h3, h4, h5⟩
abbrev KT := S91
/-- The things stand in order. -/
def srt (T : List KT) : Prop := ∀ i : Nat, 0 < i → i < T.length → Op.bytesLess (rd_T91 T ((i - 1 : Nat) : Int)).f0.toList (rd_T91 T (i : Int)).f0.toList = true
theorem srt_lt {T : List KT} (h : srt T) (i : Nat) : ∀ j, i < j → j < T.length → Op.bytesLess (rd_T91 T (i : Int)).f0.toList (rd_T91 T (j : Int)).f0.toList = true := by
  intro j
  induction j with
  | zero => intro h1; omega
  | succ j ih =>
    intro h1 h2
    have h3 := h (j + 1) (by omega) h2
    rw [Nat.add_sub_cancel] at h3
    by_cases c : i = j
    · rw [c]; exact h3
    · exact bl_trans _ _ _ (ih (by omega) (by omega)) h3
/-- The first place of a sum from i on. -/
def findF (T : List KT) (x : ByteArray) : Nat → Nat → Option Nat
  | 0, _ => none
  | n + 1, i => if (rd_T91 T (i : Int)).f0.toList = x.toList then some i else findF T x n (i + 1)
def findT (T : List KT) (x : ByteArray) : Option Nat := findF T x T.length 0
def findI (T : List KT) (x : ByteArray) : Int := match findT T x with | none => -1 | some i => (i : Int)
theorem findF_none (T : List KT) (x : ByteArray) : ∀ (n i : Nat), (∀ j : Nat, i ≤ j → j < i + n → (rd_T91 T (j : Int)).f0.toList ≠ x.toList) → findF T x n i = none
  | 0, _, _ => rfl
  | n + 1, i, h => by
    unfold findF
    rw [if_neg (h i (by omega) (by omega))]
    exact findF_none T x n (i + 1) (fun j h1 h2 => h j (by omega) (by omega))
theorem findF_some (T : List KT) (x : ByteArray) (r : Nat) (hr : (rd_T91 T (r : Int)).f0.toList = x.toList) : ∀ (n i : Nat), i ≤ r → r < i + n → (∀ j : Nat, i ≤ j → j < r → (rd_T91 T (j : Int)).f0.toList ≠ x.toList) → findF T x n i = some r
  | 0, _, h1, h2, _ => by omega
  | n + 1, i, h1, h2, h3 => by
    unfold findF
    by_cases c : i = r
    · subst c; rw [if_pos hr]
    · rw [if_neg (h3 i (by omega) (by omega))]
      exact findF_some T x r hr n (i + 1) (by omega) (by omega) (fun j h4 h5 => h3 j (by omega) h5)
theorem findF_lt (T : List KT) (x : ByteArray) (r : Nat) : ∀ (n i : Nat), findF T x n i = some r → r < i + n ∧ (rd_T91 T (r : Int)).f0.toList = x.toList
  | 0, _, h => by simp [findF] at h
  | n + 1, i, h => by
    unfold findF at h
    split at h
    · rename_i c; injection h with h; subst h; exact ⟨by omega, c⟩
    · have := findF_lt T x r n (i + 1) h; exact ⟨by omega, this.2⟩
theorem find_lt {T : List KT} {x : ByteArray} {r : Nat} (h : findT T x = some r) : r < T.length := by have := (findF_lt T x r T.length 0 h).1; omega
/-- What halving finds is what going through finds, where the things stand in order. -/
theorem place_spec {T : List KT} (h : srt T) (x : ByteArray) : (thereT T x = true → findT T x = some (placeT T x)) ∧ (thereT T x = false → findT T x = none) := by
  have hm : ∀ i j, i ≤ j → j < T.length → geT T x i = true → geT T x j = true := by
    intro i j h1 h2 h3
    by_cases c : i = j
    · rw [← c]; exact h3
    · unfold geT at h3 ⊢
      cases hb : Op.bytesLess (rd_T91 T (j : Int)).f0.toList x.toList with
      | false => rfl
      | true =>
        have := bl_trans _ _ _ (srt_lt h i j (by omega) h2) hb
        rw [this] at h3
        cases h3
  obtain ⟨h1, h2, h3⟩ := bsr_spec (geT T x) T.length hm T.length 0 T.length (by omega) (by omega) (by omega) (by omega) (by omega)
  have e : bsr (geT T x) T.length 0 T.length = placeT T x := rfl
  rw [e] at h1 h2 h3
  have hne : ∀ j, j < placeT T x → (rd_T91 T (j : Int)).f0.toList ≠ x.toList := by
    intro j hj e
    have := h2 j hj
    unfold geT at this
    rw [e, bl_irr] at this
    cases this
  constructor
  · intro ht
    unfold thereT at ht
    rw [Bool.and_eq_true, decide_eq_true_eq, beq_iff_eq] at ht
    exact findF_some T x _ ht.2 T.length 0 (by omega) (by omega) (fun j _ h4 => hne j h4)
  · intro ht
    refine findF_none T x T.length 0 (fun j _ h4 he => ?_)
    by_cases c : j < placeT T x
    · exact hne j c he
    · by_cases c2 : j = placeT T x
      · unfold thereT at ht
        rw [← c2, he, decide_eq_true (show j < T.length by omega)] at ht
        simp at ht
      · have h5 := srt_lt h (placeT T x) j (by omega) (by omega)
        have h6 := h3 (placeT T x) (by omega) (by omega)
        unfold geT at h6
        rw [he] at h5
        rw [h5] at h6
        cases h6
/-! ### l4Find -/
theorem find_loop (T : List KT) (P : List S82) (L : List S85) (w a b c : Int) (x : ByteArray) (hT : T.length ≤ 140737488351232) (n : Nat) : ∀ i : Nat, T.length - i = n → i ≤ T.length →
    Ev (fun k => spec_l4Find.l0 k x (i : Int) w a b c T P L) (match findF T x n i with | none => -1 | some i => (i : Int)) := by
  induction n with
  | zero =>
    intro i hn hi
    refine Ev.step (f := fun _ => some (-1)) (fun k => ?_) (Ev.now _)
    simp only [spec_l4Find.l0]; rw [if_neg (by omega)]
  | succ n ih =>
    intro i hn hi
    have hlt : i < T.length := by omega
    unfold findF
    by_cases c1 : (rd_T91 T (i : Int)).f0.toList = x.toList
    · rw [if_pos c1]
      refine Ev.step (f := fun _ => some (i : Int)) (fun k => ?_) (Ev.now _)
      simp only [spec_l4Find.l0]; rw [if_pos (by omega), if_pos (by omega), if_pos c1]
    · rw [if_neg c1]
      refine Ev.step (fun k => ?_) (ih (i + 1) (by omega) (by omega))
      simp only [spec_l4Find.l0]; rw [if_pos (by omega), if_pos (by omega), if_neg c1, wsucc hlt hT]
theorem find_ev (T : List KT) (P : List S82) (L : List S85) (w a b c : Int) (x : ByteArray) (hT : T.length ≤ 140737488351232) : Ev (fun k => spec_l4Find.f k w a b c T P L x) (findI T x) :=
  Ev.congr (fun k => by unfold spec_l4Find.f; rfl) (find_loop T P L w a b c x hT T.length 0 (by omega) (by omega))
end Go.Proofs.Ytcijlemojododaa.Q

/- Plain laws of valid states: what the program and the reference come to is one function. -/
namespace Go.Proofs.Ytcijlemojododaa.Q
open Go.RowKit Go.Proofs.Ytcijlemojododaa.P Go.Proofs.Ytcijlemojododaa.S Go.Proofs.YtcijlemojododaaW.PrintWords Go.Proofs.YtcijlemojododaaW.PrintLast Go.Proofs.YtcijlemojododaaW.PrintMore
set_option linter.unusedVariables false

abbrev PT := S82
abbrev LT := S85
abbrev rK (T : List KT) (i : Nat) : KT := rd_T91 T (i : Int)
abbrev rP (T : List PT) (i : Nat) : PT := rd_T82 T (i : Int)
abbrev rL (T : List LT) (i : Nat) : LT := rd_T85 T (i : Int)
def timeB (n : Int) : Bool := decide (0 ≤ n ∧ n ≤ 1000000000)
theorem iTime (n : Int) : impl_timeOk.f n = some (timeB n) := by
  unfold impl_timeOk.f timeB
  by_cases h : n ≥ 0
  · rw [if_pos h]; congr 1; simp; omega
  · rw [if_neg h]; congr 1; simp; omega
theorem sRange (a b c : Int) : spec_l4Range.f a b c = some (decide (b ≤ a ∧ a ≤ c)) := by
  unfold spec_l4Range.f
  by_cases h : a ≥ b
  · rw [if_pos h]; congr 1; simp; omega
  · rw [if_neg h]; congr 1; simp; omega
theorem formB_size (t : ByteArray) (l : List ByteArray) : (formB t l).size = 1 + szAll l + t.size := by
  have h1 : (headB l.length).size = 1 := by unfold headB; rw [son_size]; rfl
  unfold formB
  rw [ByteArray.size_append, ByteArray.size_append, h1, catB_size]
  omega
/-! ### things by themselves -/
/-- A thing's own conditions: its form, its sum, its birth. -/
def conB (w b : Int) (k : KT) : Bool := thingB k.f2.f0 k.f2.f1 w && (decide (k.f0.toList = (sumB (formB k.f2.f0 k.f2.f1) w).toList) && decide (1 ≤ k.f1 ∧ k.f1 ≤ b))
def tFrom (w b : Int) (T : List KT) : Nat → Nat → List Int → Bool
  | 0, _, _ => true
  | n + 1, i, ks => if (if 0 < i then Op.bytesLess (rK T (i - 1)).f0.toList (rK T i).f0.toList else true) = true then (if conB w b (rK T i) = true then (if ks.contains (rK T i).f1 = true then false else tFrom w b T n (i + 1) (ins (rK T i).f1 ks)) else false) else false
theorem iT_tail (J : Nat → Bool → Option Bool) (X ct : Bool) (h1 : Ev (fun k => J k true) false) (w b : Int) (x : KT) (hl : x.f2.f1.length ≤ 140737488351232) (h2 : conB w b x = true → ct = false → Ev (fun k => J k false) X) :
    Ev (fun k => (impl_thingOk.f k x.f2.f0 x.f2.f1 w).bind fun t1 => (if t1 = true then ((impl_form.f k x.f2.f0 x.f2.f1).bind fun t2 => ((impl_Sum.f k t2 w).bind fun t3 => (if x.f0.toList = t3.toList then (if x.f1 < 1 then J k true else (if x.f1 > b then J k true else J k ct)) else J k true))) else J k true))
      (if conB w b x = true then (if ct = true then false else X) else false) := by
  have hF : conB w b x = false → Ev (fun k => J k true) (if conB w b x = true then (if ct = true then false else X) else false) := fun h => by rw [h]; exact h1
  refine Ev.bind (iOk_ev _ _ w hl) ?_
  refine Ev.ite' (fun c => ?_) (fun c => hF (by unfold conB; rw [Bool.eq_false_iff.2 c, Bool.false_and]))
  have hs := thing_small c
  refine Ev.bind (iForm_ev _ _ hl (by omega)) ?_
  refine Ev.bind (iSum_ev _ w (by rw [formB_size]; omega)) ?_
  refine Ev.ite' (fun c2 => ?_) (fun c2 => hF (by unfold conB; rw [decide_eq_false c2, Bool.false_and, Bool.and_false]))
  refine Ev.ite' (fun c3 => hF (by unfold conB; rw [decide_eq_false (show ¬ (1 ≤ x.f1 ∧ x.f1 ≤ b) by omega), Bool.and_false, Bool.and_false])) (fun c3 => ?_)
  refine Ev.ite' (fun c4 => hF (by unfold conB; rw [decide_eq_false (show ¬ (1 ≤ x.f1 ∧ x.f1 ≤ b) by omega), Bool.and_false, Bool.and_false])) (fun c4 => ?_)
  have hc : conB w b x = true := by unfold conB; rw [c, decide_eq_true c2, decide_eq_true (show 1 ≤ x.f1 ∧ x.f1 ≤ b by omega)]; rfl
  rw [if_pos hc]
  cases ct with
  | true => exact h1
  | false => exact h2 hc rfl
theorem tEq (c A D Y C : Bool) : (if (if c = true then (if A = true then (if D = true then false else Y) else false) else false) = true then C else false) = (if c = true then (if A = true then (if D = true then false else (if Y = true then C else false)) else false) else false) := by
  cases c <;> cases A <;> cases D <;> simp
theorem iT_loop (T : List KT) (P : List PT) (L : List LT) (w nw g b : Int) (C : Bool) (hT : T.length ≤ 600) (hr : ∀ i, i < T.length → (rK T i).f2.f1.length ≤ 140737488351232) (n : Nat) : ∀ (i : Nat) (ks : List Int), T.length - i = n → i ≤ T.length →
    (tFrom w b T n i ks = true → Ev (fun k => impl_ValidState.l1 k T (T.length : Int) 0 w nw g b T P L) C) →
    Ev (fun k => impl_ValidState.l0 k T (T.length : Int) (i : Int) w nw g b T P L ks) (if tFrom w b T n i ks = true then C else false) := by
  induction n with
  | zero =>
    intro i ks hn hi hC
    have e : (if tFrom w b T 0 i ks = true then C else false) = C := if_pos rfl
    rw [e]
    refine Ev.step (fun k => ?_) (hC rfl)
    simp only [impl_ValidState.l0]; rw [if_neg (by omega)]
  | succ n ih =>
    intro i ks hn hi hC
    have hlt : i < T.length := by omega
    have hj1 : Ev (fun k => impl_ValidState.j2 k T (T.length : Int) (i : Int) true w nw g b T P L ks) false := by
      refine Ev.step (f := fun _ => some false) (fun k => ?_) (Ev.now _)
      simp only [impl_ValidState.j2, if_true]
    have hj2 : (if 0 < i then Op.bytesLess (rK T (i - 1)).f0.toList (rK T i).f0.toList else true) = true → conB w b (rK T i) = true → ks.contains (rK T i).f1 = false →
        Ev (fun k => impl_ValidState.j2 k T (T.length : Int) (i : Int) false w nw g b T P L ks) (if tFrom w b T n (i + 1) (ins (rK T i).f1 ks) = true then C else false) := fun a1 a2 a3 => by
      refine Ev.step (fun k => ?_) (ih (i + 1) (ins (rK T i).f1 ks) (by omega) (by omega) (fun h => hC (by unfold tFrom; rw [if_pos a1, if_pos a2, a3]; exact h)))
      simp only [impl_ValidState.j2]; rw [if_neg (by decide), wsucc hlt (by omega)]
    unfold tFrom
    rw [tEq]
    by_cases c2 : 0 < i
    · rw [if_pos c2] at hj2 ⊢
      refine Ev.step (fun k => by simp only [impl_ValidState.l0]; rw [if_pos (by omega), if_pos (by omega), if_pos (by omega), if_pos (by omega), wpred c2 (by omega), if_pos (by omega), if_pos (by omega)]) ?_
      refine Ev.ite' (fun c3 => ?_) (fun c3 => by rw [if_neg c3]; exact hj1)
      rw [if_pos c3]
      exact iT_tail (fun k c => impl_ValidState.j2 k T (T.length : Int) (i : Int) c w nw g b T P L ks) _ _ hj1 w b (rK T i) (hr i hlt) (hj2 c3)
    · rw [if_neg c2] at hj2 ⊢
      rw [if_pos rfl]
      refine Ev.step (fun k => by simp only [impl_ValidState.l0]; rw [if_pos (by omega), if_pos (by omega), if_pos (by omega), if_neg (by omega)]) ?_
      exact iT_tail (fun k c => impl_ValidState.j2 k T (T.length : Int) (i : Int) c w nw g b T P L ks) _ _ hj1 w b (rK T i) (hr i hlt) (hj2 rfl)
/-- Where the things hold, they stand in order. -/
theorem tFrom_srt (w b : Int) (T : List KT) : ∀ (n i : Nat) (ks : List Int), tFrom w b T n i ks = true → ∀ j, i ≤ j → j < i + n → 0 < j → Op.bytesLess (rK T (j - 1)).f0.toList (rK T j).f0.toList = true
  | 0, _, _, _, j, h1, h2, _ => by omega
  | n + 1, i, ks, h, j, h1, h2, h3 => by
    unfold tFrom at h
    by_cases a1 : (if 0 < i then Op.bytesLess (rK T (i - 1)).f0.toList (rK T i).f0.toList else true) = true
    · rw [if_pos a1] at h
      by_cases a2 : conB w b (rK T i) = true
      · rw [if_pos a2] at h
        by_cases a3 : ks.contains (rK T i).f1 = true
        · rw [if_pos a3] at h; cases h
        · rw [if_neg a3] at h
          by_cases e : j = i
          · subst e; rw [if_pos h3] at a1; exact a1
          · exact tFrom_srt w b T n (i + 1) _ h j (by omega) (by omega) h3
      · rw [if_neg a2] at h; cases h
    · rw [if_neg a1] at h; cases h
theorem srt_of {w b : Int} {T : List KT} (h : tFrom w b T T.length 0 [] = true) : srt T := fun i h1 h2 => tFrom_srt w b T T.length 0 [] h i (by omega) (by omega) h1
/-! ### references -/
def refsB (T : List KT) (b0 : Int) (l : List ByteArray) : Nat → Nat → Bool
  | 0, _ => true
  | n + 1, j => match findT T (rdOf ByteArray.empty l (j : Int)) with
    | none => false
    | some a => if (rK T a).f1 ≥ b0 then false else refsB T b0 l n (j + 1)
def allR (T : List KT) : Nat → Nat → Bool
  | 0, _ => true
  | n + 1, i => if refsB T (rK T i).f1 (rK T i).f2.f1 (rK T i).f2.f1.length 0 = true then allR T n (i + 1) else false
theorem thing_some (T : List KT) (x : ByteArray) (hT : T.length ≤ 600) : impl_State_thing.f T x = some ((placeT T x : Int), thereT T x) := by unfold impl_State_thing.f; rw [if_pos (by omega)]
theorem there_none {T : List KT} {x : ByteArray} (hs : srt T) (h : findT T x = none) : thereT T x = false := by
  cases ht : thereT T x with
  | false => rfl
  | true => have := (place_spec hs x).1 ht; rw [h] at this; cases this
theorem there_some {T : List KT} {x : ByteArray} {a : Nat} (hs : srt T) (h : findT T x = some a) : thereT T x = true ∧ placeT T x = a := by
  cases ht : thereT T x with
  | false => have := (place_spec hs x).2 ht; rw [h] at this; cases this
  | true => have := (place_spec hs x).1 ht; rw [h] at this; injection this with e; exact ⟨rfl, e.symm⟩
theorem iR_in (T : List KT) (P : List PT) (L : List LT) (w nw g b : Int) (C : Bool) (hT : T.length ≤ 600) (hs : srt T) (i : Nat) (l : List ByteArray) (hl : l.length ≤ 140737488351232) (f0 f2 : ByteArray) (b0 : Int)
    (hC : Ev (fun k => impl_ValidState.l1 k T (T.length : Int) (wrap64 ((i : Int) + 1)) w nw g b T P L) C) (n : Nat) : ∀ j : Nat, l.length - j = n → j ≤ l.length →
    Ev (fun k => impl_ValidState.l2 k T (T.length : Int) (i : Int) l (l.length : Int) (j : Int) w nw g b T P L f0 b0 f2 l) (if refsB T b0 l n j = true then C else false) := by
  induction n with
  | zero =>
    intro j hn hj
    have e : (if refsB T b0 l 0 j = true then C else false) = C := if_pos rfl
    rw [e]
    refine Ev.step (fun k => ?_) hC
    simp only [impl_ValidState.l2]; rw [if_neg (by omega)]
  | succ n ih =>
    intro j hn hj
    have hlt : j < l.length := by omega
    refine Ev.step (fun k => by simp only [impl_ValidState.l2]; rw [if_pos (by omega), if_pos (by omega), if_pos (by omega), thing_some T _ hT, Option.bind_some, wsucc hlt hl]) ?_
    cases hf : findT T (rdOf ByteArray.empty l (j : Int)) with
    | none =>
      have e : refsB T b0 l (n + 1) j = false := by conv => lhs; unfold refsB; rw [hf]
      rw [e]
      have ht := there_none hs hf
      refine Ev.neg (by show ¬ thereT T _ = true; rw [ht]; decide) ?_
      exact Ev.now _
    | some a =>
      have e : refsB T b0 l (n + 1) j = (if (rK T a).f1 ≥ b0 then false else refsB T b0 l n (j + 1)) := by conv => lhs; unfold refsB; rw [hf]
      rw [e]
      obtain ⟨ht, hp⟩ := there_some hs hf
      have ha := find_lt hf
      refine Ev.pos ht (Ev.pos (by show 0 ≤ ((placeT T _ : Nat) : Int); omega) (Ev.pos (by show ((placeT T _ : Nat) : Int) < _; rw [hp]; omega) ?_))
      simp only [hp]
      refine Ev.ite' (fun c => ?_) (fun c => ?_)
      · rw [if_pos c]; exact Ev.now _
      · rw [if_neg c]; exact ih (j + 1) (by omega) (by omega)
theorem iR_out (T : List KT) (P : List PT) (L : List LT) (w nw g b : Int) (C : Bool) (hT : T.length ≤ 600) (hr : ∀ i, i < T.length → (rK T i).f2.f1.length ≤ 140737488351232) (hs : srt T)
    (hC : Ev (fun k => impl_ValidState.l3 k T P (P.length : Int) 0 w nw g b T P L) C) (n : Nat) : ∀ i : Nat, T.length - i = n → i ≤ T.length →
    Ev (fun k => impl_ValidState.l1 k T (T.length : Int) (i : Int) w nw g b T P L) (if allR T n i = true then C else false) := by
  induction n with
  | zero =>
    intro i hn hi
    have e : (if allR T 0 i = true then C else false) = C := if_pos rfl
    rw [e]
    refine Ev.step (fun k => ?_) hC
    simp only [impl_ValidState.l1]; rw [if_neg (by omega)]
  | succ n ih =>
    intro i hn hi
    have hlt : i < T.length := by omega
    have h1 := ih (i + 1) (by omega) (by omega)
    have h2 := iR_in T P L w nw g b (if allR T n (i + 1) = true then C else false) hT hs i (rK T i).f2.f1 (hr i hlt) (rK T i).f0 (rK T i).f2.f0 (rK T i).f1 (by rw [wsucc hlt (by omega)]; exact h1) (rK T i).f2.f1.length 0 (by omega) (by omega)
    have e : (if allR T (n + 1) i = true then C else false) = (if refsB T (rK T i).f1 (rK T i).f2.f1 (rK T i).f2.f1.length 0 = true then (if allR T n (i + 1) = true then C else false) else false) := by
      conv => lhs; unfold allR
      cases refsB T (rK T i).f1 (rK T i).f2.f1 (rK T i).f2.f1.length 0 <;> simp
    rw [e]
    refine Ev.step (fun k => ?_) h2
    simp only [impl_ValidState.l1]; rw [if_pos (by omega), if_pos (by omega), if_pos (by omega)]; rfl
/-! ### pins and leases -/
def pinsB (T : List KT) (P : List PT) : Nat → Nat → Bool
  | 0, _ => true
  | n + 1, i => if (nameB (rP P i).f0 && ((if 0 < i then Op.bytesLess (rP P (i - 1)).f0.toList (rP P i).f0.toList else true) && (findT T (rP P i).f1).isSome)) = true then pinsB T P n (i + 1) else false
def leasesB (T : List KT) (L : List LT) (nw g : Int) : Nat → Nat → Bool
  | 0, _ => true
  | n + 1, i => if (decide (1 ≤ (rL L i).f0 ∧ (rL L i).f0 ≤ g) && ((if 0 < i then decide ((rL L (i - 1)).f0 < (rL L i).f0) else true) && ((findT T (rL L i).f1).isSome && decide (nw < (rL L i).f2 ∧ (rL L i).f2 ≤ wrap64 (nw + 100000))))) = true then leasesB T L nw g n (i + 1) else false
theorem there_is {T : List KT} (hs : srt T) (x : ByteArray) : thereT T x = (findT T x).isSome := by
  cases hf : findT T x with
  | none => rw [there_none hs hf]; rfl
  | some a => rw [(there_some hs hf).1]; rfl
theorem iP_loop (T : List KT) (P : List PT) (L : List LT) (w nw g b : Int) (C : Bool) (hT : T.length ≤ 600) (hP : P.length ≤ 100) (hn0 : ∀ i, i < P.length → (rP P i).f0.size ≤ 140737488351232) (hs : srt T)
    (hC : Ev (fun k => impl_ValidState.l4 k T L (L.length : Int) 0 w nw g b T P L) C) (n : Nat) : ∀ i : Nat, P.length - i = n → i ≤ P.length →
    Ev (fun k => impl_ValidState.l3 k T P (P.length : Int) (i : Int) w nw g b T P L) (if pinsB T P n i = true then C else false) := by
  induction n with
  | zero =>
    intro i hn hi
    have e : (if pinsB T P 0 i = true then C else false) = C := if_pos rfl
    rw [e]
    refine Ev.step (fun k => ?_) hC
    simp only [impl_ValidState.l3]; rw [if_neg (by omega)]
  | succ n ih =>
    intro i hn hi
    have hlt : i < P.length := by omega
    have h1 := ih (i + 1) (by omega) (by omega)
    have hj1 : Ev (fun k => impl_ValidState.j6 k T P (P.length : Int) (i : Int) true w nw g b T P L) false := by
      refine Ev.step (f := fun _ => some false) (fun k => ?_) (Ev.now _)
      simp only [impl_ValidState.j6, if_true]
    have hj2 : Ev (fun k => impl_ValidState.j6 k T P (P.length : Int) (i : Int) false w nw g b T P L) (if pinsB T P n (i + 1) = true then C else false) := by
      refine Ev.step (fun k => ?_) h1
      simp only [impl_ValidState.j6]; rw [if_neg (by decide), wsucc hlt (by omega)]
    refine Ev.step (fun k => by simp only [impl_ValidState.l3]; rw [if_pos (by omega), if_pos (by omega), if_pos (by omega), thing_some T _ hT, Option.bind_some]) ?_
    unfold pinsB
    rw [← there_is hs]
    refine Ev.ite' (fun c1 => ?_) (fun c1 => ?_)
    · have c1' : thereT T (rP P i).f1 = true := c1
      refine Ev.bind (iName_ev _ (hn0 i hlt)) ?_
      refine Ev.ite' (fun c2 => ?_) (fun c2 => ?_)
      · have c2' : nameB (rP P i).f0 = true := c2
        by_cases c3 : 0 < i
        · refine Ev.congr (fun k => by rw [if_pos (by omega), wpred c3 (by omega), if_pos (by omega), if_pos (by omega)]) ?_
          cases c4 : Op.bytesLess (rP P (i - 1)).f0.toList (rP P i).f0.toList with
          | true =>
            rw [if_pos c3, c1', c2']
            exact hj2
          | false =>
            rw [if_pos c3, Bool.false_and, Bool.and_false]
            exact hj1
        · refine Ev.congr (fun k => by rw [if_neg (by omega)]) ?_
          rw [if_neg c3, c1', c2']; exact hj2
      · have c2' : nameB (rP P i).f0 = false := Bool.eq_false_iff.2 c2
        rw [c2', Bool.false_and]; exact hj1
    · have c1' : thereT T (rP P i).f1 = false := Bool.eq_false_iff.2 c1
      rw [c1', Bool.and_false, Bool.and_false]; exact hj1
theorem iL_loop (T : List KT) (P : List PT) (L : List LT) (w nw g b : Int) (hT : T.length ≤ 600) (hL : L.length ≤ 200) (hs : srt T) (n : Nat) : ∀ i : Nat, L.length - i = n → i ≤ L.length →
    Ev (fun k => impl_ValidState.l4 k T L (L.length : Int) (i : Int) w nw g b T P L) (leasesB T L nw g n i) := by
  induction n with
  | zero =>
    intro i hn hi
    refine Ev.step (f := fun _ => some true) (fun k => ?_) (Ev.now _)
    simp only [impl_ValidState.l4]; rw [if_neg (by omega)]
  | succ n ih =>
    intro i hn hi
    have hlt : i < L.length := by omega
    have h1 := ih (i + 1) (by omega) (by omega)
    have hj1 : Ev (fun k => impl_ValidState.j8 k T L (L.length : Int) (i : Int) true w nw g b T P L) false := by
      refine Ev.step (f := fun _ => some false) (fun k => ?_) (Ev.now _)
      simp only [impl_ValidState.j8, if_true]
    have hj : ∀ c : Bool, Ev (fun k => impl_ValidState.j8 k T L (L.length : Int) (i : Int) c w nw g b T P L) (if c = true then false else leasesB T L nw g n (i + 1)) := fun c => by
      cases c with
      | true => exact hj1
      | false =>
        refine Ev.step (fun k => ?_) h1
        simp only [impl_ValidState.j8]; rw [if_neg (by decide), wsucc hlt (by omega)]
    refine Ev.step (fun k => by simp only [impl_ValidState.l4]; rw [if_pos (by omega), if_pos (by omega), if_pos (by omega), thing_some T _ hT, Option.bind_some]) ?_
    unfold leasesB
    rw [← there_is hs]
    have hE : Ev (fun k => if (rL L i).f2 ≤ nw then (impl_ValidState.j8 k T L (L.length : Int) (i : Int) true w nw g b T P L) else (impl_ValidState.j8 k T L (L.length : Int) (i : Int) (decide ((rL L i).f2 > (wrap64 (nw + 100000)))) w nw g b T P L)) (if decide (nw < (rL L i).f2 ∧ (rL L i).f2 ≤ wrap64 (nw + 100000)) = true then leasesB T L nw g n (i + 1) else false) := by
      refine Ev.ite' (fun c => ?_) (fun c => ?_)
      · rw [decide_eq_false (show ¬ (nw < (rL L i).f2 ∧ (rL L i).f2 ≤ wrap64 (nw + 100000)) by omega)]; exact hj1
      · have := hj (decide ((rL L i).f2 > (wrap64 (nw + 100000))))
        by_cases c2 : (rL L i).f2 > (wrap64 (nw + 100000))
        · rw [decide_eq_true c2] at this ⊢
          rw [decide_eq_false (show ¬ (nw < (rL L i).f2 ∧ (rL L i).f2 ≤ wrap64 (nw + 100000)) by omega)]; exact this
        · rw [decide_eq_false c2] at this ⊢
          rw [decide_eq_true (show (nw < (rL L i).f2 ∧ (rL L i).f2 ≤ wrap64 (nw + 100000)) by omega)]; exact this
    refine Ev.ite' (fun c1 => ?_) (fun c1 => ?_)
    · have c1' : thereT T (rL L i).f1 = true := c1
      rw [c1', Bool.true_and]
      refine Ev.ite' (fun c2 => ?_) (fun c2 => ?_)
      · rw [decide_eq_false (show ¬ (1 ≤ (rL L i).f0 ∧ (rL L i).f0 ≤ g) by have : (rL L i).f0 < 1 := c2; omega), Bool.false_and]; exact hj1
      · refine Ev.ite' (fun c3 => ?_) (fun c3 => ?_)
        · rw [decide_eq_false (show ¬ (1 ≤ (rL L i).f0 ∧ (rL L i).f0 ≤ g) by have : (rL L i).f0 > g := c3; omega), Bool.false_and]; exact hj1
        · rw [decide_eq_true (show (1 ≤ (rL L i).f0 ∧ (rL L i).f0 ≤ g) by have a1 : ¬ (rL L i).f0 < 1 := c2; have a2 : ¬ (rL L i).f0 > g := c3; omega), Bool.true_and]
          by_cases c4 : 0 < i
          · refine Ev.congr (fun k => by rw [if_pos (by omega), wpred c4 (by omega), if_pos (by omega), if_pos (by omega)]) ?_
            rw [if_pos c4]
            refine Ev.ite' (fun c5 => ?_) (fun c5 => ?_)
            · rw [decide_eq_false (show ¬ ((rL L (i - 1)).f0 < (rL L i).f0) by have : (rL L (i - 1)).f0 ≥ (rL L i).f0 := c5; omega), Bool.false_and]; exact hj1
            · rw [decide_eq_true (show ((rL L (i - 1)).f0 < (rL L i).f0) by have : ¬ (rL L (i - 1)).f0 ≥ (rL L i).f0 := c5; omega), Bool.true_and]; exact hE
          · refine Ev.congr (fun k => by rw [if_neg (by omega)]) ?_
            rw [if_neg c4, Bool.true_and]; exact hE
    · have c1' : thereT T (rL L i).f1 = false := Bool.eq_false_iff.2 c1
      rw [c1', Bool.false_and, Bool.and_false, Bool.and_false]
      exact hj1
/-! ### the state -/
def stB (w nw g b : Int) (T : List KT) (P : List PT) (L : List LT) : Bool :=
  if widB w = true then (if timeB nw = true then (if timeB g = true then (if timeB b = true then (if T.length ≤ 600 ∧ P.length ≤ 100 ∧ L.length ≤ 200 then
    (if tFrom w b T T.length 0 [] = true then (if allR T T.length 0 = true then (if pinsB T P P.length 0 = true then leasesB T L nw g L.length 0 else false) else false) else false) else false) else false) else false) else false) else false
theorem iVS_ev (w nw g b : Int) (T : List KT) (P : List PT) (L : List LT) (hr : ∀ i, i < T.length → (rK T i).f2.f1.length ≤ 140737488351232) (hn0 : ∀ i, i < P.length → (rP P i).f0.size ≤ 140737488351232) :
    Ev (fun k => impl_ValidState.f k w nw g b T P L) (stB w nw g b T P L) := by
  have hj : Ev (fun k => impl_ValidState.j0 k true w nw g b T P L) false := by
    refine Ev.step (f := fun _ => some false) (fun k => ?_) (Ev.now _)
    simp only [impl_ValidState.j0, if_true]
  refine Ev.congr (fun k => by unfold impl_ValidState.f; rw [wOk, Option.bind_some, iTime, iTime, iTime]) ?_
  unfold stB
  refine Ev.ite' (fun c => ?_) (fun c => by rw [if_neg c]; exact hj)
  rw [if_pos c]
  refine Ev.ite' (fun c => ?_) (fun c => by rw [if_neg c]; exact hj)
  rw [if_pos c]
  refine Ev.ite' (fun c => ?_) (fun c => by rw [if_neg c]; exact hj)
  rw [if_pos c]
  refine Ev.ite' (fun c => ?_) (fun c => by rw [if_neg c]; exact hj)
  rw [if_pos c]
  refine Ev.ite' (fun c => by rw [if_neg (by omega)]; exact hj) (fun c1 => ?_)
  refine Ev.ite' (fun c => by rw [if_neg (by omega)]; exact hj) (fun c2 => ?_)
  by_cases c3 : (L.length : Int) > 200
  · rw [if_neg (by omega)]
    refine Ev.congr (fun k => by rw [decide_eq_true c3]) hj
  · rw [if_pos (by omega)]
    refine Ev.congr (fun k => by rw [decide_eq_false c3]) ?_
    refine Ev.step (fun k => by simp only [impl_ValidState.j0]; rw [if_neg (by decide)]) ?_
    refine iT_loop T P L w nw g b _ (by omega) hr T.length 0 [] (by omega) (by omega) (fun h => ?_)
    have hs := srt_of h
    refine iR_out T P L w nw g b _ (by omega) hr hs ?_ T.length 0 (by omega) (by omega)
    refine iP_loop T P L w nw g b _ (by omega) (by omega) hn0 hs ?_ P.length 0 (by omega) (by omega)
    exact iL_loop T P L w nw g b (by omega) (by omega) hs L.length 0 (by omega) (by omega)
end Go.Proofs.Ytcijlemojododaa.Q

/- Plain laws of valid states: the reference comes to the same function. -/
namespace Go.Proofs.Ytcijlemojododaa.Q
open Go.RowKit Go.Proofs.Ytcijlemojododaa.P Go.Proofs.Ytcijlemojododaa.S Go.Proofs.YtcijlemojododaaW.PrintWords Go.Proofs.YtcijlemojododaaW.PrintLast Go.Proofs.YtcijlemojododaaW.PrintMore
set_option linter.unusedVariables false

/-! ### things by themselves, births -/
theorem sT_tail (J : Nat → Bool → Option Bool) (G : Nat → Option Bool) (Y : Bool) (h1 : Ev (fun k => J k true) false) (w : Int) (x : KT) (hl : x.f2.f1.length ≤ 140737488351232)
    (h2 : thingB x.f2.f0 x.f2.f1 w = true → x.f0.toList = (sumB (formB x.f2.f0 x.f2.f1) w).toList → Ev G Y) :
    Ev (fun k => (spec_l1ThingOk.f k x.f2.f0 x.f2.f1 w).bind fun t1 => (if t1 = true then ((spec_FormThing.f k x.f2.f0 x.f2.f1 w).bind fun t2 => ((spec_Sum.f k t2 w).bind fun t3 => (if x.f0.toList = t3.toList then G k else J k true))) else J k true))
      (if (thingB x.f2.f0 x.f2.f1 w && decide (x.f0.toList = (sumB (formB x.f2.f0 x.f2.f1) w).toList)) = true then Y else false) := by
  refine Ev.bind (sOk_ev _ _ w hl) ?_
  refine Ev.ite' (fun c => ?_) (fun c => by rw [Bool.eq_false_iff.2 c, Bool.false_and]; exact h1)
  have hs := thing_small c
  refine Ev.bind (sFormT_ev _ _ w hl) ?_
  have ef : formT x.f2.f0 x.f2.f1 w = formB x.f2.f0 x.f2.f1 := by unfold formT; rw [if_pos c]
  rw [ef]
  refine Ev.bind (sSum_ev _ w (by rw [formB_size]; omega)) ?_
  refine Ev.ite' (fun c2 => ?_) (fun c2 => by rw [decide_eq_false c2, Bool.and_false]; exact h1)
  rw [c, decide_eq_true c2]
  exact h2 c c2
/-- What the row of bools and the row of births know: the births that have been. -/
def births (x3 : List Bool) (x4 ks : List Int) (i : Nat) : Prop := x3.length = 601 ∧ (∀ v : Int, 1 ≤ v → v ≤ 600 → rdOf false x3 v = ks.contains v) ∧ (∀ v : Int, 600 < v → x4.contains v = ks.contains v) ∧ x4.length ≤ i
theorem ins_new {x : Int} {ks : List Int} (h : ks.contains x = false) : ins x ks = x :: ks := by unfold ins; rw [h]; rfl
theorem births_row {x3 : List Bool} {x4 ks : List Int} {i : Nat} (h : births x3 x4 ks i) {x : Int} (h1 : 1 ≤ x) (h2 : x ≤ 600) (hc : ks.contains x = false) : births (x3.set x.toNat true) x4 (ins x ks) (i + 1) := by
  obtain ⟨a1, a2, a3, a4⟩ := h
  refine ⟨by rw [List.length_set]; exact a1, fun v v1 v2 => ?_, fun v v1 => ?_, by omega⟩
  · rw [ins_new hc, List.contains_cons]
    by_cases e : v = x
    · subst e
      unfold rdOf
      rw [List.getD_eq_getElem?_getD, List.getElem?_set_self (by omega)]
      simp
    · have := a2 v v1 v2
      unfold rdOf at this ⊢
      rw [List.getD_eq_getElem?_getD] at this ⊢
      rw [List.getElem?_set_ne (by omega), this, beq_false_of_ne e, Bool.false_or]
  · rw [ins_new hc, List.contains_cons, a3 v v1, beq_false_of_ne (by omega), Bool.false_or]
theorem births_app {x3 : List Bool} {x4 ks : List Int} {i : Nat} (h : births x3 x4 ks i) {x : Int} (h2 : 600 < x) (hc : ks.contains x = false) : births x3 (x4 ++ [x]) (ins x ks) (i + 1) := by
  obtain ⟨a1, a2, a3, a4⟩ := h
  refine ⟨a1, fun v v1 v2 => ?_, fun v v1 => ?_, by simp; omega⟩
  · rw [ins_new hc, List.contains_cons, a2 v v1 v2, beq_false_of_ne (by omega), Bool.false_or]
  · rw [ins_new hc, List.contains_cons, List.contains_append, a3 v v1, List.contains_cons, List.contains_nil, Bool.or_false, Bool.or_comm]
theorem sB_loop (T : List KT) (P : List PT) (L : List LT) (w nw g b : Int) (i : Nat) (x3 : List Bool) (x4 : List Int) (h4 : x4.length ≤ 1000) (x : KT) (X : Bool)
    (hX : x4.contains x.f1 = false → Ev (fun k => spec_l4ThingsOk.l0 k x3 (x4 ++ [x.f1]) (wrap64 ((i : Int) + 1)) w nw g b T P L) X) (n : Nat) : ∀ j : Nat, x4.length - j = n → j ≤ x4.length → ((x4.drop j).contains x.f1 = false → x4.contains x.f1 = false) →
    Ev (fun k => spec_l4ThingsOk.l1 k x3 x4 (i : Int) (j : Int) w nw g b T P L x.f0 x.f1 x.f2.f0 x.f2.f1) (if (x4.drop j).contains x.f1 = true then false else X) := by
  induction n with
  | zero =>
    intro j hn hj hd
    have e : x4.drop j = [] := List.drop_eq_nil_of_le (by omega)
    rw [e] at hd ⊢
    refine Ev.step (fun k => ?_) (hX (hd rfl))
    simp only [spec_l4ThingsOk.l1]; rw [if_neg (by omega), if_pos (by omega)]
  | succ n ih =>
    intro j hn hj hd
    have hlt : j < x4.length := by omega
    have e : x4.drop j = rd x4 (j : Int) :: x4.drop (j + 1) := rd_drop 0 x4 j hlt
    rw [e, List.contains_cons] at hd ⊢
    refine Ev.step (fun k => by simp only [spec_l4ThingsOk.l1]; rw [if_pos (by omega), if_pos (by omega), wsucc hlt (by omega)]) ?_
    refine Ev.ite' (fun c => ?_) (fun c => ?_)
    · rw [c]
      rw [show (x.f1 == x.f1) = true from beq_self_eq_true _, Bool.true_or]
      exact Ev.now _
    · have e2 : (x.f1 == rd x4 (j : Int)) = false := beq_false_of_ne (Ne.symm c)
      rw [e2, Bool.false_or] at hd ⊢
      exact ih (j + 1) (by omega) (by omega) hd
theorem sT_loop (T : List KT) (P : List PT) (L : List LT) (w nw g b : Int) (C : Bool) (hT : T.length ≤ 600) (hr : ∀ i, i < T.length → (rK T i).f2.f1.length ≤ 140737488351232)
    (hC : Ev (fun k => spec_l4ThingsOk.l2 k 0 w nw g b T P L) C) (n : Nat) : ∀ (i : Nat) (ks : List Int) (x3 : List Bool) (x4 : List Int), T.length - i = n → i ≤ T.length → births x3 x4 ks i →
    Ev (fun k => spec_l4ThingsOk.l0 k x3 x4 (i : Int) w nw g b T P L) (if tFrom w b T n i ks = true then C else false) := by
  induction n with
  | zero =>
    intro i ks x3 x4 hn hi hb
    have e : (if tFrom w b T 0 i ks = true then C else false) = C := if_pos rfl
    rw [e]
    refine Ev.step (fun k => ?_) hC
    simp only [spec_l4ThingsOk.l0]; rw [if_neg (by omega)]
  | succ n ih =>
    intro i ks x3 x4 hn hi hb
    have hlt : i < T.length := by omega
    have hj1 : Ev (fun k => spec_l4ThingsOk.j1 k x3 x4 (i : Int) true w nw g b T P L (rK T i).f0 (rK T i).f1 (rK T i).f2.f0 (rK T i).f2.f1) false := by
      refine Ev.step (f := fun _ => some false) (fun k => ?_) (Ev.now _)
      simp only [spec_l4ThingsOk.j1, if_true]
    have hj2 : 1 ≤ (rK T i).f1 → Ev (fun k => spec_l4ThingsOk.j1 k x3 x4 (i : Int) false w nw g b T P L (rK T i).f0 (rK T i).f1 (rK T i).f2.f0 (rK T i).f2.f1) (if ks.contains (rK T i).f1 = true then false else (if tFrom w b T n (i + 1) (ins (rK T i).f1 ks) = true then C else false)) := fun h1 => by
      by_cases c : (rK T i).f1 ≤ 600
      · have hb2 := hb.2.1 (rK T i).f1 h1 c
        have hl3 := hb.1
        refine Ev.step (fun k => by simp only [spec_l4ThingsOk.j1]; rw [if_neg (by decide), if_pos c, if_pos (by omega), if_pos (by omega), hb2, wsucc hlt (by omega)]) ?_
        refine Ev.ite' (fun c2 => ?_) (fun c2 => ?_)
        · rw [if_pos c2]; exact Ev.now _
        · rw [if_neg c2]
          exact ih (i + 1) _ _ _ (by omega) (by omega) (births_row hb h1 c (Bool.eq_false_iff.2 c2))
      · have hb3 := hb.2.2.1 (rK T i).f1 (by omega)
        refine Ev.step (fun k => by simp only [spec_l4ThingsOk.j1]; rw [if_neg (by decide), if_neg c]) ?_
        have h4 := hb.2.2.2
        have := sB_loop T P L w nw g b i x3 x4 (by omega) (rK T i) (if tFrom w b T n (i + 1) (ins (rK T i).f1 ks) = true then C else false)
          (fun hc => by rw [wsucc hlt (by omega)]; exact ih (i + 1) _ _ _ (by omega) (by omega) (births_app hb (by omega) (by rw [← hb3]; exact hc))) x4.length 0 (by omega) (by omega) (fun h => h)
        rw [List.drop_zero, hb3] at this
        exact this
    have hR : Ev (fun k => (spec_l4Range.f (rK T i).f1 1 b).bind fun t => spec_l4ThingsOk.j1 k x3 x4 (i : Int) (!t) w nw g b T P L (rK T i).f0 (rK T i).f1 (rK T i).f2.f0 (rK T i).f2.f1)
        (if decide (1 ≤ (rK T i).f1 ∧ (rK T i).f1 ≤ b) = true then (if ks.contains (rK T i).f1 = true then false else (if tFrom w b T n (i + 1) (ins (rK T i).f1 ks) = true then C else false)) else false) := by
      by_cases c : 1 ≤ (rK T i).f1 ∧ (rK T i).f1 ≤ b
      · rw [if_pos (decide_eq_true c)]
        exact Ev.congr (fun k => by rw [sRange, Option.bind_some, decide_eq_true c]; rfl) (hj2 c.1)
      · rw [if_neg (by rw [decide_eq_false c]; decide)]
        exact Ev.congr (fun k => by rw [sRange, Option.bind_some, decide_eq_false c]; rfl) hj1
    have hZ : ∀ D : Bool, (D = true → Ev (fun k => (if (i : Int) > 0 then (if 0 ≤ (wrap64 ((i : Int) - 1)) then (if (wrap64 ((i : Int) - 1)) < (T.length : Int) then (if ((Op.bytesLess (((rd_T91 T (wrap64 ((i : Int) - 1))).f0).toList) (((rd_T91 T (i : Int)).f0).toList)) = true) then ((spec_l4Range.f ((rd_T91 T (i : Int)).f1) 1 b).bind fun t160 => (spec_l4ThingsOk.j1 k x3 x4 (i : Int) (!t160) w nw g b T P L ((rd_T91 T (i : Int)).f0) ((rd_T91 T (i : Int)).f1) ((rd_T91 T (i : Int)).f2.f0) ((rd_T91 T (i : Int)).f2.f1))) else (spec_l4ThingsOk.j1 k x3 x4 (i : Int) true w nw g b T P L ((rd_T91 T (i : Int)).f0) ((rd_T91 T (i : Int)).f1) ((rd_T91 T (i : Int)).f2.f0) ((rd_T91 T (i : Int)).f2.f1))) else (none)) else (none)) else ((spec_l4Range.f ((rd_T91 T (i : Int)).f1) 1 b).bind fun t161 => (spec_l4ThingsOk.j1 k x3 x4 (i : Int) (!t161) w nw g b T P L ((rd_T91 T (i : Int)).f0) ((rd_T91 T (i : Int)).f1) ((rd_T91 T (i : Int)).f2.f0) ((rd_T91 T (i : Int)).f2.f1)))))
        (if (if 0 < i then Op.bytesLess (rK T (i - 1)).f0.toList (rK T i).f0.toList else true) = true then (if decide (1 ≤ (rK T i).f1 ∧ (rK T i).f1 ≤ b) = true then (if ks.contains (rK T i).f1 = true then false else (if tFrom w b T n (i + 1) (ins (rK T i).f1 ks) = true then C else false)) else false) else false)) := fun D hD => by
      by_cases c2 : 0 < i
      · rw [if_pos c2]
        refine Ev.congr (fun k => by rw [if_pos (by omega), wpred c2 (by omega), if_pos (by omega), if_pos (by omega)]) ?_
        refine Ev.ite' (fun c3 => ?_) (fun c3 => by rw [if_neg c3]; exact hj1)
        rw [if_pos c3]
        exact hR
      · rw [if_neg c2, if_pos rfl]
        refine Ev.congr (fun k => by rw [if_neg (by omega)]) ?_
        exact hR
    have e : (if tFrom w b T (n + 1) i ks = true then C else false) = (if (thingB (rK T i).f2.f0 (rK T i).f2.f1 w && decide ((rK T i).f0.toList = (sumB (formB (rK T i).f2.f0 (rK T i).f2.f1) w).toList)) = true then
        (if (if 0 < i then Op.bytesLess (rK T (i - 1)).f0.toList (rK T i).f0.toList else true) = true then (if decide (1 ≤ (rK T i).f1 ∧ (rK T i).f1 ≤ b) = true then (if ks.contains (rK T i).f1 = true then false else (if tFrom w b T n (i + 1) (ins (rK T i).f1 ks) = true then C else false)) else false) else false) else false) := by
      conv => lhs; unfold tFrom
      rw [tEq]
      unfold conB
      generalize thingB (rK T i).f2.f0 (rK T i).f2.f1 w = q1
      generalize decide ((rK T i).f0.toList = (sumB (formB (rK T i).f2.f0 (rK T i).f2.f1) w).toList) = q2
      generalize decide (1 ≤ (rK T i).f1 ∧ (rK T i).f1 ≤ b) = q3
      generalize (if 0 < i then Op.bytesLess (rK T (i - 1)).f0.toList (rK T i).f0.toList else true) = q4
      generalize (if ks.contains (rK T i).f1 = true then false else (if tFrom w b T n (i + 1) (ins (rK T i).f1 ks) = true then C else false)) = q5
      cases q1 <;> cases q2 <;> cases q3 <;> cases q4 <;> rfl
    rw [e]
    refine Ev.step (fun k => by simp only [spec_l4ThingsOk.l0]; rw [if_pos (by omega), if_pos (by omega)]) ?_
    exact sT_tail (fun k c => spec_l4ThingsOk.j1 k x3 x4 (i : Int) c w nw g b T P L (rK T i).f0 (rK T i).f1 (rK T i).f2.f0 (rK T i).f2.f1) _ _ hj1 w (rK T i) (hr i hlt) (fun _ _ => hZ true rfl)
/-! ### references -/
theorem sR_in (T : List KT) (P : List PT) (L : List LT) (w nw g b : Int) (C : Bool) (hT : T.length ≤ 600) (i : Nat) (hi : i < T.length) (hl : (rK T i).f2.f1.length ≤ 140737488351232)
    (hC : Ev (fun k => spec_l4ThingsOk.l2 k (wrap64 ((i : Int) + 1)) w nw g b T P L) C) (n : Nat) : ∀ j : Nat, (rK T i).f2.f1.length - j = n → j ≤ (rK T i).f2.f1.length →
    Ev (fun k => spec_l4ThingsOk.l3 k (i : Int) (j : Int) w nw g b T P L) (if refsB T (rK T i).f1 (rK T i).f2.f1 n j = true then C else false) := by
  induction n with
  | zero =>
    intro j hn hj
    have e : (if refsB T (rK T i).f1 (rK T i).f2.f1 0 j = true then C else false) = C := if_pos rfl
    rw [e]
    refine Ev.step (fun k => ?_) hC
    simp only [spec_l4ThingsOk.l3]; rw [if_pos (by omega), if_pos (by omega), if_neg (by show ¬ (j : Int) < ((rK T i).f2.f1.length : Int); omega)]
  | succ n ih =>
    intro j hn hj
    have hlt : j < (rK T i).f2.f1.length := by omega
    have hj5 : ∀ c : Bool, Ev (fun k => spec_l4ThingsOk.j5 k (i : Int) (j : Int) c w nw g b T P L) (if c = true then false else (if refsB T (rK T i).f1 (rK T i).f2.f1 n (j + 1) = true then C else false)) := fun c => by
      cases c with
      | true =>
        refine Ev.step (f := fun _ => some false) (fun k => ?_) (Ev.now _)
        simp only [spec_l4ThingsOk.j5, if_true]
      | false =>
        refine Ev.step (fun k => ?_) (ih (j + 1) (by omega) (by omega))
        simp only [spec_l4ThingsOk.j5]; rw [if_neg (by decide), wsucc hlt hl]
    refine Ev.step (fun k => by simp only [spec_l4ThingsOk.l3]; rw [if_pos (by omega), if_pos (by omega), if_pos (show (j : Int) < ((rK T i).f2.f1.length : Int) by omega), if_pos (by omega)]) ?_
    refine Ev.bind (find_ev T P L w nw g b _ (by omega)) ?_
    have hx : ∀ x, x = rdOf ByteArray.empty (rK T i).f2.f1 (j : Int) → Ev (fun k => if findI T x < 0 then (spec_l4ThingsOk.j5 k (i : Int) (j : Int) true w nw g b T P L) else (if 0 ≤ findI T x then (if findI T x < (T.length : Int) then (spec_l4ThingsOk.j5 k (i : Int) (j : Int) (decide (((rd_T91 T (findI T x)).f1) ≥ ((rd_T91 T (i : Int)).f1))) w nw g b T P L) else (none)) else (none)))
        (if refsB T (rK T i).f1 (rK T i).f2.f1 (n + 1) j = true then C else false) := fun x hx => by
      cases hf : findT T x with
      | none =>
        have e : refsB T (rK T i).f1 (rK T i).f2.f1 (n + 1) j = false := by conv => lhs; unfold refsB; rw [← hx, hf]
        have ei : findI T x = -1 := by unfold findI; rw [hf]
        rw [e]
        simp only [ei]
        exact Ev.pos (by omega) (hj5 true)
      | some a =>
        have e : refsB T (rK T i).f1 (rK T i).f2.f1 (n + 1) j = (if (rK T a).f1 ≥ (rK T i).f1 then false else refsB T (rK T i).f1 (rK T i).f2.f1 n (j + 1)) := by conv => lhs; unfold refsB; rw [← hx, hf]
        have ei : findI T x = (a : Int) := by unfold findI; rw [hf]
        have ha := find_lt hf
        rw [e]
        simp only [ei]
        refine Ev.neg (by omega) (Ev.pos (by omega) (Ev.pos (by omega) ?_))
        have := hj5 (decide ((rK T a).f1 ≥ (rK T i).f1))
        by_cases c : (rK T a).f1 ≥ (rK T i).f1
        · rw [if_pos c]
          rw [decide_eq_true c] at this
          exact Ev.congr (fun k => by rw [decide_eq_true c]) this
        · rw [if_neg c]
          rw [decide_eq_false c] at this
          exact Ev.congr (fun k => by rw [decide_eq_false c]) this
    exact hx _ rfl
theorem sR_out (T : List KT) (P : List PT) (L : List LT) (w nw g b : Int) (hT : T.length ≤ 600) (hr : ∀ i, i < T.length → (rK T i).f2.f1.length ≤ 140737488351232) (n : Nat) : ∀ i : Nat, T.length - i = n → i ≤ T.length →
    Ev (fun k => spec_l4ThingsOk.l2 k (i : Int) w nw g b T P L) (allR T n i) := by
  induction n with
  | zero =>
    intro i hn hi
    refine Ev.step (f := fun _ => some true) (fun k => ?_) (Ev.now _)
    simp only [spec_l4ThingsOk.l2]; rw [if_neg (by omega)]
  | succ n ih =>
    intro i hn hi
    have hlt : i < T.length := by omega
    have h1 := ih (i + 1) (by omega) (by omega)
    have h2 := sR_in T P L w nw g b (allR T n (i + 1)) hT i hlt (hr i hlt) (by rw [wsucc hlt (by omega)]; exact h1) (rK T i).f2.f1.length 0 (by omega) (by omega)
    unfold allR
    refine Ev.step (fun k => ?_) h2
    simp only [spec_l4ThingsOk.l2]; rw [if_pos (by omega)]; rfl
theorem sTO_ev (T : List KT) (P : List PT) (L : List LT) (w nw g b : Int) (hT : T.length ≤ 600) (hr : ∀ i, i < T.length → (rK T i).f2.f1.length ≤ 140737488351232) :
    Ev (fun k => spec_l4ThingsOk.f k w nw g b T P L) (if tFrom w b T T.length 0 [] = true then allR T T.length 0 else false) := by
  refine Ev.congr (fun k => by unfold spec_l4ThingsOk.f; rw [if_pos (by decide)]) ?_
  refine sT_loop T P L w nw g b _ hT hr (sR_out T P L w nw g b hT hr T.length 0 (by omega) (by omega)) T.length 0 [] _ _ (by omega) (by omega) ⟨by rw [List.length_replicate], fun v v1 v2 => ?_, fun v _ => rfl, by simp⟩
  unfold rdOf
  rw [List.getD_eq_getElem?_getD, List.getElem?_replicate]
  split <;> rfl
/-! ### pins and leases -/
theorem find_neg (T : List KT) (x : ByteArray) : decide (findI T x < 0) = !(findT T x).isSome := by
  unfold findI
  cases findT T x with
  | none => rfl
  | some a => simp
theorem sP_loop (T : List KT) (P : List PT) (L : List LT) (w nw g b : Int) (C : Bool) (hT : T.length ≤ 600) (hP : P.length ≤ 100) (hn0 : ∀ i, i < P.length → (rP P i).f0.size ≤ 140737488351232)
    (hC : Ev (fun k => spec_ValidState.l1 k 0 w nw g b T P L) C) (n : Nat) : ∀ i : Nat, P.length - i = n → i ≤ P.length →
    Ev (fun k => spec_ValidState.l0 k (i : Int) w nw g b T P L) (if pinsB T P n i = true then C else false) := by
  induction n with
  | zero =>
    intro i hn hi
    have e : (if pinsB T P 0 i = true then C else false) = C := if_pos rfl
    rw [e]
    refine Ev.step (fun k => ?_) hC
    simp only [spec_ValidState.l0]; rw [if_neg (by omega)]
  | succ n ih =>
    intro i hn hi
    have hlt : i < P.length := by omega
    have h1 := ih (i + 1) (by omega) (by omega)
    have hj1 : Ev (fun k => spec_ValidState.j3 k (i : Int) true w nw g b T P L) false := by
      refine Ev.step (f := fun _ => some false) (fun k => ?_) (Ev.now _)
      simp only [spec_ValidState.j3, if_true]
    have hF : Ev (fun k => (spec_l4Find.f k w nw g b T P L (rP P i).f1).bind fun t => spec_ValidState.j3 k (i : Int) (decide (t < 0)) w nw g b T P L) (if (findT T (rP P i).f1).isSome = true then (if pinsB T P n (i + 1) = true then C else false) else false) := by
      refine Ev.bind (find_ev T P L w nw g b _ (by omega)) ?_
      refine Ev.congr (fun k => by rw [find_neg]) ?_
      cases (findT T (rP P i).f1).isSome with
      | false => exact hj1
      | true =>
        refine Ev.step (fun k => ?_) h1
        simp only [spec_ValidState.j3]; rw [if_neg (by decide), wsucc hlt (by omega)]
    refine Ev.step (fun k => by simp only [spec_ValidState.l0]; rw [if_pos (by omega), if_pos (by omega)]) ?_
    have e : (if pinsB T P (n + 1) i = true then C else false) = (if nameB (rP P i).f0 = true then (if (if 0 < i then Op.bytesLess (rP P (i - 1)).f0.toList (rP P i).f0.toList else true) = true then (if (findT T (rP P i).f1).isSome = true then (if pinsB T P n (i + 1) = true then C else false) else false) else false) else false) := by
      conv => lhs; unfold pinsB
      generalize nameB (rP P i).f0 = q1
      generalize (if 0 < i then Op.bytesLess (rP P (i - 1)).f0.toList (rP P i).f0.toList else true) = q2
      generalize (findT T (rP P i).f1).isSome = q3
      cases q1 <;> cases q2 <;> cases q3 <;> simp
    rw [e]
    refine Ev.bind (sName_ev _ (hn0 i hlt)) ?_
    refine Ev.ite' (fun c => ?_) (fun c => by rw [if_neg c]; exact hj1)
    rw [if_pos c]
    by_cases c2 : 0 < i
    · rw [if_pos c2]
      refine Ev.congr (fun k => by rw [if_pos (by omega), wpred c2 (by omega), if_pos (by omega), if_pos (by omega)]) ?_
      refine Ev.ite' (fun c3 => ?_) (fun c3 => by rw [if_neg c3]; exact hj1)
      rw [if_pos c3]
      exact hF
    · rw [if_neg c2, if_pos rfl]
      refine Ev.congr (fun k => by rw [if_neg (by omega)]) ?_
      exact hF
theorem sL_loop (T : List KT) (P : List PT) (L : List LT) (w nw g b : Int) (hT : T.length ≤ 600) (hL : L.length ≤ 200) (n : Nat) : ∀ i : Nat, L.length - i = n → i ≤ L.length →
    Ev (fun k => spec_ValidState.l1 k (i : Int) w nw g b T P L) (leasesB T L nw g n i) := by
  induction n with
  | zero =>
    intro i hn hi
    refine Ev.step (f := fun _ => some true) (fun k => ?_) (Ev.now _)
    simp only [spec_ValidState.l1]; rw [if_neg (by omega)]
  | succ n ih =>
    intro i hn hi
    have hlt : i < L.length := by omega
    have h1 := ih (i + 1) (by omega) (by omega)
    have hj1 : Ev (fun k => spec_ValidState.j5 k (i : Int) true w nw g b T P L) false := by
      refine Ev.step (f := fun _ => some false) (fun k => ?_) (Ev.now _)
      simp only [spec_ValidState.j5, if_true]
    have hj : ∀ c : Bool, Ev (fun k => spec_ValidState.j5 k (i : Int) c w nw g b T P L) (if c = true then false else leasesB T L nw g n (i + 1)) := fun c => by
      cases c with
      | true => exact hj1
      | false =>
        refine Ev.step (fun k => ?_) h1
        simp only [spec_ValidState.j5]; rw [if_neg (by decide), wsucc hlt (by omega)]
    have hE : Ev (fun k => if (rL L i).f2 ≤ nw then (spec_ValidState.j5 k (i : Int) true w nw g b T P L) else (spec_ValidState.j5 k (i : Int) (decide ((rL L i).f2 > (wrap64 (nw + 100000)))) w nw g b T P L)) (if decide (nw < (rL L i).f2 ∧ (rL L i).f2 ≤ wrap64 (nw + 100000)) = true then leasesB T L nw g n (i + 1) else false) := by
      refine Ev.ite' (fun c => ?_) (fun c => ?_)
      · rw [decide_eq_false (show ¬ (nw < (rL L i).f2 ∧ (rL L i).f2 ≤ wrap64 (nw + 100000)) by omega)]; exact hj1
      · have := hj (decide ((rL L i).f2 > (wrap64 (nw + 100000))))
        by_cases c2 : (rL L i).f2 > (wrap64 (nw + 100000))
        · rw [decide_eq_true c2] at this ⊢
          rw [decide_eq_false (show ¬ (nw < (rL L i).f2 ∧ (rL L i).f2 ≤ wrap64 (nw + 100000)) by omega)]; exact this
        · rw [decide_eq_false c2] at this ⊢
          rw [decide_eq_true (show (nw < (rL L i).f2 ∧ (rL L i).f2 ≤ wrap64 (nw + 100000)) by omega)]; exact this
    have hF : Ev (fun k => (spec_l4Find.f k w nw g b T P L (rL L i).f1).bind fun t => if t < 0 then (spec_ValidState.j5 k (i : Int) true w nw g b T P L) else (if (rL L i).f2 ≤ nw then (spec_ValidState.j5 k (i : Int) true w nw g b T P L) else (spec_ValidState.j5 k (i : Int) (decide ((rL L i).f2 > (wrap64 (nw + 100000)))) w nw g b T P L)))
        (if (findT T (rL L i).f1).isSome = true then (if decide (nw < (rL L i).f2 ∧ (rL L i).f2 ≤ wrap64 (nw + 100000)) = true then leasesB T L nw g n (i + 1) else false) else false) := by
      refine Ev.bind (find_ev T P L w nw g b _ (by omega)) ?_
      have hd := find_neg T (rL L i).f1
      refine Ev.ite' (fun c => ?_) (fun c => ?_)
      · rw [decide_eq_true c] at hd
        have : (findT T (rL L i).f1).isSome = false := by cases hq : (findT T (rL L i).f1).isSome with | false => rfl | true => rw [hq] at hd; cases hd
        rw [this]; exact hj1
      · rw [decide_eq_false c] at hd
        have : (findT T (rL L i).f1).isSome = true := by cases hq : (findT T (rL L i).f1).isSome with | true => rfl | false => rw [hq] at hd; cases hd
        rw [this]; exact hE
    have e : leasesB T L nw g (n + 1) i = (if decide (1 ≤ (rL L i).f0 ∧ (rL L i).f0 ≤ g) = true then (if (if 0 < i then decide ((rL L (i - 1)).f0 < (rL L i).f0) else true) = true then (if (findT T (rL L i).f1).isSome = true then (if decide (nw < (rL L i).f2 ∧ (rL L i).f2 ≤ wrap64 (nw + 100000)) = true then leasesB T L nw g n (i + 1) else false) else false) else false) else false) := by
      conv => lhs; unfold leasesB
      generalize decide (1 ≤ (rL L i).f0 ∧ (rL L i).f0 ≤ g) = q1
      generalize (if 0 < i then decide ((rL L (i - 1)).f0 < (rL L i).f0) else true) = q2
      generalize (findT T (rL L i).f1).isSome = q3
      generalize decide (nw < (rL L i).f2 ∧ (rL L i).f2 ≤ wrap64 (nw + 100000)) = q4
      cases q1 <;> cases q2 <;> cases q3 <;> cases q4 <;> simp
    rw [e]
    refine Ev.step (fun k => by simp only [spec_ValidState.l1]; rw [if_pos (by omega), if_pos (by omega), sRange, Option.bind_some]) ?_
    refine Ev.ite' (fun c => ?_) (fun c => by rw [if_neg c]; exact hj1)
    rw [if_pos c]
    by_cases c2 : 0 < i
    · rw [if_pos c2]
      refine Ev.congr (fun k => by rw [if_pos (by omega), wpred c2 (by omega), if_pos (by omega), if_pos (by omega)]) ?_
      refine Ev.ite' (fun c3 => ?_) (fun c3 => ?_)
      · rw [decide_eq_false (show ¬ ((rL L (i - 1)).f0 < (rL L i).f0) by have : (rL L (i - 1)).f0 ≥ (rL L i).f0 := c3; omega)]; exact hj1
      · rw [decide_eq_true (show ((rL L (i - 1)).f0 < (rL L i).f0) by have : ¬ (rL L (i - 1)).f0 ≥ (rL L i).f0 := c3; omega), if_pos rfl]; exact hF
    · rw [if_neg c2, if_pos rfl]
      refine Ev.congr (fun k => by rw [if_neg (by omega)]) ?_
      exact hF
theorem sVS_ev (w nw g b : Int) (T : List KT) (P : List PT) (L : List LT) (hr : ∀ i, i < T.length → (rK T i).f2.f1.length ≤ 140737488351232) (hn0 : ∀ i, i < P.length → (rP P i).f0.size ≤ 140737488351232) :
    Ev (fun k => spec_ValidState.f k w nw g b T P L) (stB w nw g b T P L) := by
  have hj0 : Ev (fun k => spec_ValidState.j0 k true w nw g b T P L) false := by
    refine Ev.step (f := fun _ => some false) (fun k => ?_) (Ev.now _)
    simp only [spec_ValidState.j0, if_true]
  have hj1 : Ev (fun k => spec_ValidState.j1 k true w nw g b T P L) false := by
    refine Ev.step (f := fun _ => some false) (fun k => ?_) (Ev.now _)
    simp only [spec_ValidState.j1, if_true]
  refine Ev.congr (fun k => by unfold spec_ValidState.f; rw [l1W, Option.bind_some, sRange, sRange, sRange]) ?_
  unfold stB timeB
  refine Ev.ite' (fun c => ?_) (fun c => by rw [if_neg c]; exact hj0)
  rw [if_pos c]
  refine Ev.ite' (fun c => ?_) (fun c => by rw [if_neg c]; exact hj0)
  rw [if_pos c]
  refine Ev.ite' (fun c => ?_) (fun c => by rw [if_neg c]; exact hj0)
  rw [if_pos c]
  by_cases cb : 0 ≤ b ∧ b ≤ 1000000000
  rotate_left
  · rw [if_neg (by rw [decide_eq_false cb]; decide)]
    exact Ev.congr (fun k => by rw [decide_eq_false cb]; rfl) hj0
  rw [if_pos (decide_eq_true cb)]
  refine Ev.congr (f := fun k => spec_ValidState.j0 k false w nw g b T P L) (fun k => by rw [decide_eq_true cb]; rfl) ?_
  refine Ev.step (fun k => by simp only [spec_ValidState.j0]; rw [if_neg (by decide)]) ?_
  refine Ev.ite' (fun c => by rw [if_neg (by omega)]; exact hj1) (fun c1 => ?_)
  refine Ev.ite' (fun c => by rw [if_neg (by omega)]; exact hj1) (fun c2 => ?_)
  refine Ev.ite' (fun c => by rw [if_neg (by omega)]; exact hj1) (fun c3 => ?_)
  rw [if_pos (by omega)]
  refine Ev.bind (sTO_ev T P L w nw g b (by omega) hr) ?_
  have hP := sP_loop T P L w nw g b _ (by omega) (by omega) hn0 (sL_loop T P L w nw g b (by omega) (by omega) L.length 0 (by omega) (by omega)) P.length 0 (by omega) (by omega)
  have e : (if tFrom w b T T.length 0 [] = true then (if allR T T.length 0 = true then (if pinsB T P P.length 0 = true then leasesB T L nw g L.length 0 else false) else false) else false) = (if (if tFrom w b T T.length 0 [] = true then allR T T.length 0 else false) = true then (if pinsB T P P.length 0 = true then leasesB T L nw g L.length 0 else false) else false) := by
    cases tFrom w b T T.length 0 [] <;> cases allR T T.length 0 <;> simp
  rw [e]
  generalize (if tFrom w b T T.length 0 [] = true then allR T T.length 0 else false) = q
  cases q with
  | false => exact hj1
  | true =>
    refine Ev.step (fun k => ?_) hP
    simp only [spec_ValidState.j1]; rw [if_neg (by decide)]; rfl
end Go.Proofs.Ytcijlemojododaa.Q
