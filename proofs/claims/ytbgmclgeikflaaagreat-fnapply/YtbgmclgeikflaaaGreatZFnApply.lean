/- FnApply: at every input the law returns true, and each argument reads as it did. No condition. -/
import Derived.Test.YtbgmclgeikflaaaGreatRows
import Derived.WalkKit
import Derived.ProofKit
import Derived.OpenShut
import Derived.ShutString
import Derived.ChangeOld
import Derived.Below
import Derived.SizedLaws
import Derived.Test.YtbgmclgeikflaaaGreatM1
import Derived.Test.YtbgmclgeikflaaaGreatM2
import Derived.Test.YtbgmclgeikflaaaGreatM3
import Derived.Test.YtbgmclgeikflaaaGreatM4
import Derived.Test.YtbgmclgeikflaaaGreatM5
import Derived.Test.YtbgmclgeikflaaaGreatM6
namespace Go.Proofs.YtbgmclgeikflaaaGreat.fnApply
open Go.ChangeShapes Go.WideShapes Go.ChangeAt Go.RowKit Go.Eng KV
open Go.ChangeMaps (open_string shut_string)
set_option linter.unusedVariables false
theorem own : ownKnob Tryz.prog.godebug = none := by kernel_rfl
theorem laidOut : laidOutB Tryz.prog = true := by kernel_rfl
theorem pts : Tryz.f13.params.toList.flatMap (kinds Tryz.prog 8) = [.sl 5] := by kernel_rfl
theorem pu8 : kinds Tryz.prog 8 5 = [.i .u8] := by kernel_rfl
theorem code {B : Nat} {xs : List C} (h : F2 (Ty Tryz.prog B) (Tryz.f13.params.toList.flatMap (kinds Tryz.prog 8)) xs) : ∃ c : Rw, xs.map lfOf = [.l c] ∧ ∀ i, 0 ≤ (rd c i 0).int ∧ (rd c i 0).int ≤ 255 := by
  rw [pts] at h
  cases h with
  | cons h t =>
  cases t
  cases h with
  | l e xs hl hn h =>
  refine ⟨xs, rfl, fun i => ?_⟩
  unfold rd
  rw [List.getD_eq_getElem?_getD, List.getD_eq_getElem?_getD]
  cases hr : xs[i]? with
  | none => exact ⟨Int.le_refl _, by show (0 : Int) ≤ 255; omega⟩
  | some r =>
    rw [Option.getD_some]
    have hm := List.mem_of_getElem? hr
    cases r with
    | nil => exact ⟨Int.le_refl _, by show (0 : Int) ≤ 255; omega⟩
    | cons x r =>
      have h0 := h _ hm 0 (.i .u8) x (by rw [pu8]; rfl) rfl
      cases h0 with
      | i k n wf =>
        have : IntKind.u8.min ≤ n ∧ n ≤ IntKind.u8.max := by simpa [Lit.wf] using wf
        exact this
set_option maxRecDepth 100000 in
set_option maxHeartbeats 20000000 in
theorem lifted (os : Os) (started : os.Started) (H : Type) (enc : TypeId × Value → H) :
    ReturnsInHanded {} Tryz.checked os 13 .any (Rows.fnApplySpec.pre6 enc Tryz.prog Tryz.f13 Rows.fnApplyRow.domain false) (Rows.fnApplySpec.post enc Tryz.prog Tryz.f13 false true false false) := by
  refine returnsInHanded_of_change_sized (C := Tryz.checked) own started (by kernel_rfl) Tryz.func13
    (ChangeSpec.witness6 (enc := enc) (C := Tryz.checked) false ⟨#[], #[.slice none 0 0], []⟩ 8 (by kernel_rfl) (by kernel_rfl) (by kernel_rfl) (by kernel_rfl)) ?_
  intro W base args ds gs before hval0 hW hcnd hsz0 _
  have hsz : (DataW.weightsEach Tryz.prog (Tryz.f13.params.toList ++ Rows.fnApplySpec.plain.varTypes Tryz.prog) (ds ++ gs)).all (· ≤ reachBytes) = true := hsz0
  have hval : ∀ (j : Nat) t v, Tryz.f13.params[j]? = some t → args[j]? = some v → Value.okWide Tryz.prog W .any base t v := hval0
  have hW' := hW
  obtain ⟨p, q, hA0, hV, rfl, hfz, hnd⟩ := hW
  have hA : DataW.TrodAll enc Tryz.prog W 0 (fun _ => true) true Tryz.f13.params.toList args.toList ds p := hA0
  obtain ⟨rfl, rfl⟩ := trodVars_none hV
  have hvars : Rows.fnApplySpec.plain.varTypes Tryz.prog = [] := rfl
  rw [hvars, List.append_nil, List.append_nil] at hsz
  obtain ⟨xs, a1, a4⟩ := ziv (P := Tryz.prog) (w := W) (B := 140737488351232) (ts := Tryz.f13.params.toList) (vs := args.toList) (List.all_eq_true.1 (show Tryz.f13.params.toList.all (okT Tryz.prog 8) = true by kernel_rfl)) (fun j t v h1 h2 => hval j t v (by simpa using h1) (by simpa using h2)) hA
    (fun m hm => by have := List.all_eq_true.1 hsz m hm; have := of_decide_eq_true this; unfold reachBytes at this; omega)
  obtain ⟨d1, rfl⟩ : ∃ d1, ds = [d1] := by
    rw [Tryz.params13] at hA
    obtain ⟨_, _, d1, _, _, _, _, rfl, _, _, r1⟩ := trodAll_cons hA
    obtain ⟨_, rfl, _⟩ := trodAll_nil r1
    exact ⟨d1, rfl⟩
  obtain ⟨c, hc1, hc2⟩ := code a1
  have hc := zp9 (w := W) kqca.1 rfl rfl a4 (by rw [hc1]; exact zs9 hc2)
  refine hc.mono fun e W' ⟨he, bel⟩ => ?_
  subst he
  exact ⟨_, rfl, _, _, _, [], _, [], hW', trodAll_mk1 (shut_bool Tryz.underlying4 _), zhx laidOut bel (fun t ht => by
    have := List.all_eq_true.1 (show Tryz.f13.params.toList.all (fun t => Tryz.prog.readableRec t && decide (t < Tryz.prog.types.size)) = true by kernel_rfl) t ht
    simp only [Bool.and_eq_true, decide_eq_true_eq] at this; exact this) hA, rfl, bel.frame _, fun h => by cases h⟩
set_option maxHeartbeats 20000000 in
theorem over : Rows.fnApplyRow.holds Tryz.pinned (OpenSpec.ofChange Rows.fnApplySpec) :=
  OpenClaim.holds_of_wide 13 Tryz.f13 rfl rfl rfl rfl rfl rfl rfl ⟨rfl, rfl, rfl, rfl, rfl⟩ rfl rfl rfl rfl rfl (by as_aux_lemma => kernel_rfl) Tryz.func13 (by as_aux_lemma => kernel_rfl)
    (of_decide_eq_true (by as_aux_lemma => kernel_rfl)) (by unfold Func.isWrapper; first | (rw [if_pos (by decide +kernel)]; kernel_rfl) | (rw [if_neg (by decide +kernel)]; exact ⟨rfl, rfl⟩))
    (fun os started H enc _ => lifted os started H enc)
theorem proved : Rows.FnApplySaid := over
#print axioms proved
end Go.Proofs.YtbgmclgeikflaaaGreat.fnApply
namespace Go.Proofs.YtbgmclgeikflaaaGreat
/-- The row, under a short name, for the claim. -/
theorem fnApply_holds : Rows.FnApplySaid := fnApply.proved
end Go.Proofs.YtbgmclgeikflaaaGreat
