/- FnExactOpen: at every input the law returns true, and each argument reads as it did. No condition. -/
import Derived.Test.YtogabpledkjioaaRows
import Derived.WalkKit
import Derived.ProofKit
import Derived.OpenShut
import Derived.ShutString
import Derived.ChangeOld
import Derived.Below
import Derived.SizedLaws
import Derived.Test.YtogabpledkjioaaM1
import Derived.Test.YtogabpledkjioaaM2
import Derived.Test.YtogabpledkjioaaM3
import Derived.Test.YtogabpledkjioaaM4
import Derived.Test.YtogabpledkjioaaM5
namespace Go.Proofs.Ytogabpledkjioaa.fnExactOpen
open Go.ChangeShapes Go.WideShapes Go.ChangeAt Go.RowKit Go.Eng KV
open Go.ChangeMaps (open_string shut_string)
set_option linter.unusedVariables false
theorem own : ownKnob Try.prog.godebug = none := by kernel_rfl
theorem laidOut : laidOutB Try.prog = true := by kernel_rfl
theorem pts : Try.f8.params.toList.flatMap (kinds Try.prog 8) = [.i .i64, .i .i64, .sl 9, .sl 9] := by kernel_rfl
theorem k9 : kinds Try.prog 8 9 = [.s] := by kernel_rfl
theorem kK : kinds Try.prog 8 150 = [.s, .i .i64, .s, .sl 9] := by kernel_rfl
theorem kP : kinds Try.prog 8 152 = [.s, .s] := by kernel_rfl
theorem kL : kinds Try.prog 8 154 = [.i .i64, .s, .i .i64] := by kernel_rfl
theorem code {xs : List C} (h : F2 (Ty Try.prog 140737488351232) (Try.f8.params.toList.flatMap (kinds Try.prog 8)) xs) : ∃ (n0 : Int) (n1 : Int) (l2 m2 : List Bs), xs.map lfOf = [.i n0, .i n1, .l (encS l2), .l (encS m2)] ∧ True ∧ True ∧ (BigL l2 ∧ BigL m2) := by
  rw [pts] at h
  obtain ⟨_, _, rfl, c0, y1⟩ := decHd h
  obtain ⟨n0, rfl⟩ := dec_i c0
  obtain ⟨_, _, rfl, c1, y2⟩ := decHd y1
  obtain ⟨n1, rfl⟩ := dec_i c1
  obtain ⟨_, _, rfl, c2, y3⟩ := decHd y2
  obtain ⟨l2, rfl, b2⟩ := decS k9 c2
  obtain ⟨_, _, rfl, d2, y4⟩ := decHd y3
  obtain ⟨m2, rfl, f2⟩ := decS k9 d2
  obtain rfl := znd y4
  exact ⟨n0, n1, l2, m2, rfl, trivial, trivial, ⟨b2, f2⟩⟩
set_option maxRecDepth 100000 in
set_option maxHeartbeats 20000000 in
theorem lifted (os : Os) (started : os.Started) (H : Type) (enc : TypeId × Value → H) :
    ReturnsInHanded {} Try.checked os 8 .any (Rows.fnExactOpenSpec.pre6 enc Try.prog Try.f8 Rows.fnExactOpenRow.domain false) (Rows.fnExactOpenSpec.post enc Try.prog Try.f8 false true false false) := by
  refine returnsInHanded_of_change_sized (C := Try.checked) own started (by kernel_rfl) Try.func8
    (ChangeSpec.witness6 (enc := enc) (C := Try.checked) false ⟨#[], #[.int .i64 0, .int .i64 0, .agg #[.slice none 0 0, .slice none 0 0]], []⟩ 8 (by kernel_rfl) (by kernel_rfl) (by kernel_rfl) (by kernel_rfl)) ?_
  intro W base args ds gs before hval0 hW hcnd hsz0 _
  have hsz : (DataW.weightsEach Try.prog (Try.f8.params.toList ++ Rows.fnExactOpenSpec.plain.varTypes Try.prog) (ds ++ gs)).all (· ≤ reachBytes) = true := hsz0
  have hval : ∀ (j : Nat) t v, Try.f8.params[j]? = some t → args[j]? = some v → Value.okWide Try.prog W .any base t v := hval0
  have hW' := hW
  obtain ⟨p, q, hA0, hV, rfl, hfz, hnd⟩ := hW
  have hA : DataW.TrodAll enc Try.prog W 0 (fun _ => true) true Try.f8.params.toList args.toList ds p := hA0
  obtain ⟨rfl, rfl⟩ := trodVars_none hV
  have hvars : Rows.fnExactOpenSpec.plain.varTypes Try.prog = [] := rfl
  rw [hvars, List.append_nil, List.append_nil] at hsz
  obtain ⟨xs, a1, a4⟩ := zic (P := Try.prog) (w := W) (B := 140737488351232) (ts := Try.f8.params.toList) (vs := args.toList) (List.all_eq_true.1 (show Try.f8.params.toList.all (okT Try.prog 8) = true by kernel_rfl)) (fun j t v h1 h2 => hval j t v (by simpa using h1) (by simpa using h2)) hA
    (fun m hm => by have := List.all_eq_true.1 hsz m hm; have := of_decide_eq_true this; unfold reachBytes at this; omega)
  obtain ⟨d1, d2, d3, rfl⟩ : ∃ d1 d2 d3, ds = [d1, d2, d3] := by
    rw [Try.params8] at hA
    obtain ⟨_, _, d1, _, _, _, _, rfl, _, _, r1⟩ := trodAll_cons hA
    obtain ⟨_, _, d2, _, _, _, _, rfl, _, _, r2⟩ := trodAll_cons r1
    obtain ⟨_, _, d3, _, _, _, _, rfl, _, _, r3⟩ := trodAll_cons r2
    obtain ⟨_, rfl, _⟩ := trodAll_nil r3
    exact ⟨d1, d2, d3, rfl⟩
  obtain ⟨n0, n1, l2, m2, hc1, h0, h1, h2⟩ := code a1
  have hc := zpv (w := W) kqcy.1 rfl rfl a4 (by rw [hc1]; exact zlt n0 n1 l2 m2 h2)
  refine hc.mono fun e W' ⟨he, bel⟩ => ?_
  subst he
  exact ⟨_, rfl, _, _, _, [], _, [], hW', trodAll_mk1 (shut_bool Try.underlying4 _), zh1 laidOut bel (fun t ht => by
    have := List.all_eq_true.1 (show Try.f8.params.toList.all (fun t => Try.prog.readableRec t && decide (t < Try.prog.types.size)) = true by kernel_rfl) t ht
    simp only [Bool.and_eq_true, decide_eq_true_eq] at this; exact this) hA, rfl, bel.frame _, fun h => by cases h⟩
set_option maxHeartbeats 20000000 in
theorem over : Rows.fnExactOpenRow.holds Try.pinned (OpenSpec.ofChange Rows.fnExactOpenSpec) :=
  OpenClaim.holds_of_wide 8 Try.f8 rfl rfl rfl rfl rfl rfl rfl ⟨rfl, rfl, rfl, rfl, rfl⟩ rfl rfl rfl rfl rfl (by as_aux_lemma => kernel_rfl) Try.func8 (by as_aux_lemma => kernel_rfl)
    (of_decide_eq_true (by as_aux_lemma => kernel_rfl)) (by unfold Func.isWrapper; first | (rw [if_pos (by decide +kernel)]; kernel_rfl) | (rw [if_neg (by decide +kernel)]; exact ⟨rfl, rfl⟩))
    (fun os started H enc _ => lifted os started H enc)
theorem proved : Rows.FnExactOpenSaid := over
#print axioms proved
end Go.Proofs.Ytogabpledkjioaa.fnExactOpen
namespace Go.Proofs.Ytogabpledkjioaa
/-- The row, under a short name, for the claim. -/
theorem fnExactOpen_holds : Rows.FnExactOpenSaid := fnExactOpen.proved
end Go.Proofs.Ytogabpledkjioaa
