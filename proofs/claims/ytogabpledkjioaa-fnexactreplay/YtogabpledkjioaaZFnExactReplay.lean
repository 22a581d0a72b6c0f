/- FnExactReplay: at every input the law returns true, and each argument reads as it did. No condition. -/
import Derived.Test.YtogabpledkjioaaRows
import Derived.WalkKit
import Derived.ProofKit
import Derived.OpenShut
import Derived.ShutString
import Derived.ChangeOld
import Derived.Below
import Derived.SizedLaws
import Derived.Test.YtogabpledkjioaaM1
import Derived.Test.YtogabpledkjioaaM2
import Derived.Test.YtogabpledkjioaaM3
import Derived.Test.YtogabpledkjioaaM4
import Derived.Test.YtogabpledkjioaaM5
namespace Go.Proofs.Ytogabpledkjioaa.fnExactReplay
open Go.ChangeShapes Go.WideShapes Go.ChangeAt Go.RowKit Go.Eng KV
open Go.ChangeMaps (open_string shut_string)
set_option linter.unusedVariables false
theorem own : ownKnob Try.prog.godebug = none := by kernel_rfl
theorem laidOut : laidOutB Try.prog = true := by kernel_rfl
theorem pts : Try.f6.params.toList.flatMap (kinds Try.prog 8) = [.i .i64, .sl 9] := by kernel_rfl
theorem k9 : kinds Try.prog 8 9 = [.s] := by kernel_rfl
theorem kK : kinds Try.prog 8 150 = [.s, .i .i64, .s, .sl 9] := by kernel_rfl
theorem kP : kinds Try.prog 8 152 = [.s, .s] := by kernel_rfl
theorem kL : kinds Try.prog 8 154 = [.i .i64, .s, .i .i64] := by kernel_rfl
theorem code {xs : List C} (h : F2 (Ty Try.prog 140737488351232) (Try.f6.params.toList.flatMap (kinds Try.prog 8)) xs) : ∃ (n0 : Int) (l1 : List Bs), xs.map lfOf = [.i n0, .l (encS l1)] ∧ True ∧ BigL l1 := by
  rw [pts] at h
  obtain ⟨_, _, rfl, c0, y1⟩ := decHd h
  obtain ⟨n0, rfl⟩ := dec_i c0
  obtain ⟨_, _, rfl, c1, y2⟩ := decHd y1
  obtain ⟨l1, rfl, b1⟩ := decS k9 c1
  obtain rfl := znl y2
  exact ⟨n0, l1, rfl, trivial, b1⟩
set_option maxRecDepth 100000 in
set_option maxHeartbeats 20000000 in
theorem lifted (os : Os) (started : os.Started) (H : Type) (enc : TypeId × Value → H) :
    ReturnsInHanded {} Try.checked os 6 .any (Rows.fnExactReplaySpec.pre6 enc Try.prog Try.f6 Rows.fnExactReplayRow.domain false) (Rows.fnExactReplaySpec.post enc Try.prog Try.f6 false true false false) := by
  refine returnsInHanded_of_change_sized (C := Try.checked) own started (by kernel_rfl) Try.func6
    (ChangeSpec.witness6 (enc := enc) (C := Try.checked) false ⟨#[], #[.int .i64 0, .slice none 0 0], []⟩ 8 (by kernel_rfl) (by kernel_rfl) (by kernel_rfl) (by kernel_rfl)) ?_
  intro W base args ds gs before hval0 hW hcnd hsz0 _
  have hsz : (DataW.weightsEach Try.prog (Try.f6.params.toList ++ Rows.fnExactReplaySpec.plain.varTypes Try.prog) (ds ++ gs)).all (· ≤ reachBytes) = true := hsz0
  have hval : ∀ (j : Nat) t v, Try.f6.params[j]? = some t → args[j]? = some v → Value.okWide Try.prog W .any base t v := hval0
  have hW' := hW
  obtain ⟨p, q, hA0, hV, rfl, hfz, hnd⟩ := hW
  have hA : DataW.TrodAll enc Try.prog W 0 (fun _ => true) true Try.f6.params.toList args.toList ds p := hA0
  obtain ⟨rfl, rfl⟩ := trodVars_none hV
  have hvars : Rows.fnExactReplaySpec.plain.varTypes Try.prog = [] := rfl
  rw [hvars, List.append_nil, List.append_nil] at hsz
  obtain ⟨xs, a1, a4⟩ := zh1 (P := Try.prog) (w := W) (B := 140737488351232) (ts := Try.f6.params.toList) (vs := args.toList) (List.all_eq_true.1 (show Try.f6.params.toList.all (okT Try.prog 8) = true by kernel_rfl)) (fun j t v h1 h2 => hval j t v (by simpa using h1) (by simpa using h2)) hA
    (fun m hm => by have := List.all_eq_true.1 hsz m hm; have := of_decide_eq_true this; unfold reachBytes at this; omega)
  obtain ⟨d1, d2, rfl⟩ : ∃ d1 d2, ds = [d1, d2] := by
    rw [Try.params6] at hA
    obtain ⟨_, _, d1, _, _, _, _, rfl, _, _, r1⟩ := trodAll_cons hA
    obtain ⟨_, _, d2, _, _, _, _, rfl, _, _, r2⟩ := trodAll_cons r1
    obtain ⟨_, rfl, _⟩ := trodAll_nil r2
    exact ⟨d1, d2, rfl⟩
  obtain ⟨n0, l1, hc1, h0, h1⟩ := code a1
  have hc := zla (w := W) kqcg.1 rfl rfl a4 (by rw [hc1]; exact zkd n0 l1 h1)
  refine hc.mono fun e W' ⟨he, bel⟩ => ?_
  subst he
  exact ⟨_, rfl, _, _, _, [], _, [], hW', trodAll_mk1 (shut_bool Try.underlying4 _), zgx laidOut bel (fun t ht => by
    have := List.all_eq_true.1 (show Try.f6.params.toList.all (fun t => Try.prog.readableRec t && decide (t < Try.prog.types.size)) = true by kernel_rfl) t ht
    simp only [Bool.and_eq_true, decide_eq_true_eq] at this; exact this) hA, rfl, bel.frame _, fun h => by cases h⟩
set_option maxHeartbeats 20000000 in
theorem over : Rows.fnExactReplayRow.holds Try.pinned (OpenSpec.ofChange Rows.fnExactReplaySpec) :=
  OpenClaim.holds_of_wide 6 Try.f6 rfl rfl rfl rfl rfl rfl rfl ⟨rfl, rfl, rfl, rfl, rfl⟩ rfl rfl rfl rfl rfl (by as_aux_lemma => kernel_rfl) Try.func6 (by as_aux_lemma => kernel_rfl)
    (of_decide_eq_true (by as_aux_lemma => kernel_rfl)) (by unfold Func.isWrapper; first | (rw [if_pos (by decide +kernel)]; kernel_rfl) | (rw [if_neg (by decide +kernel)]; exact ⟨rfl, rfl⟩))
    (fun os started H enc _ => lifted os started H enc)
theorem proved : Rows.FnExactReplaySaid := over
#print axioms proved
end Go.Proofs.Ytogabpledkjioaa.fnExactReplay
namespace Go.Proofs.Ytogabpledkjioaa
/-- The row, under a short name, for the claim. -/
theorem fnExactReplay_holds : Rows.FnExactReplaySaid := fnExactReplay.proved
end Go.Proofs.Ytogabpledkjioaa
