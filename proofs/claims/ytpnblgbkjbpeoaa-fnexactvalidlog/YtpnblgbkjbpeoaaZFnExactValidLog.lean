/- The law FnExactValidLog returns true at every input, and each argument reads as it did. The plain theorem is validLog_pure_all; here: the arguments opened, the walk joined. No condition. -/
import Derived.Test.YtpnblgbkjbpeoaaRows
import Derived.Test.YtpnblgbkjbpeoaaM3
import Derived.Test.YtpnblgbkjbpeoaaM5
import Derived.WalkKit
import Derived.ProofKit
import Derived.OpenShut
import Derived.ShutString
import Derived.ChangeOld
import Derived.Below
import Derived.SizedLaws
namespace Go.Proofs.Ytpnblgbkjbpeoaa.fnExactValidLog
open Go.ChangeShapes Go.WideShapes Go.ChangeAt Go.RowKit Go.Proofs.Ytpnblgbkjbpeoaa.P Go.Proofs.Ytpnblgbkjbpeoaa.Q Go.Proofs.YtpnblgbkjbpeoaaW.PrintWords
open Go.ChangeMaps (open_string shut_string)
set_option linter.unusedVariables false
theorem own : ownKnob Try.prog.godebug = none := by kernel_rfl
theorem laidOut : laidOutB Try.prog = true := by kernel_rfl
set_option maxRecDepth 100000 in
theorem lifted (os : Os) (started : os.Started) (H : Type) (enc : TypeId × Value → H) :
    ReturnsInHanded {} Try.checked os 5 .any (Rows.fnExactValidLogSpec.pre6 enc Try.prog Try.f5 Rows.fnExactValidLogRow.domain false) (Rows.fnExactValidLogSpec.post enc Try.prog Try.f5 false true false false) := by
  refine returnsInHanded_of_change_sized (C := Try.checked) own started (by kernel_rfl) Try.func5
    (ChangeSpec.witness6 (enc := enc) (C := Try.checked) false ⟨#[], #[.agg #[.slice none 0 0, .slice none 0 0]], []⟩ 8 (by kernel_rfl) (by kernel_rfl) (by kernel_rfl) (by kernel_rfl)) ?_
  intro W base args ds gs before hval0 hW hcnd hsz0 _
  have hsz : (DataW.weightsEach Try.prog (Try.f5.params.toList ++ Rows.fnExactValidLogSpec.plain.varTypes Try.prog) (ds ++ gs)).all (· ≤ reachBytes) = true := hsz0
  have hval : ∀ (j : Nat) t v, Try.f5.params[j]? = some t → args[j]? = some v → Value.okWide Try.prog W .any base t v := hval0
  have hW' := hW
  obtain ⟨p, q, hA0, hV, rfl, hfz, hnd⟩ := hW
  have hA : DataW.TrodAll enc Try.prog W 0 (fun _ => true) true Try.f5.params.toList args.toList ds p := hA0
  rw [Try.params5] at hA hval hsz
  obtain ⟨v0, vs0, d0, ds0, p0, q0, hargs, rfl, rfl, h0, r0⟩ := trodAll_cons hA
  obtain ⟨rfl, rfl, rfl⟩ := trodAll_nil r0
  obtain rfl : args = #[v0] := by cases args; simp_all
  obtain ⟨rfl, rfl⟩ := trodVars_none hV
  obtain ⟨cs0, rfl, _⟩ := okWide_struct Try.underlying27 (hval 0 27 v0 rfl rfl)
  have k0 := h0
  have lt0 : ∀ x ∈ p0, x.block < W.heap.size := by obtain ⟨m, hm⟩ := k0; exact DataW.trod_lt m _ _ _ hm
  obtain ⟨fuel0, hf0⟩ := h0
  obtain ⟨x0, hk0, hz00⟩ := (Rd.struct Try.underlying27 (by kernel_rfl) (RdL.cons (Rd.slice Try.underlying25 (by kernel_rfl) (Rd.string Try.underlying9)) rfl (by kernel_rfl) (RdL.one (Rd.slice Try.underlying25 (by kernel_rfl) (Rd.string Try.underlying9)) rfl (by kernel_rfl)))).out hf0
  have hz0 := sized_rd hsz (j := 0) (t := 27) rfl rfl hz00
  obtain ⟨m0_0, n0_0, e0_0, ⟨A0_0, c0_0, g0_0, hc0_0, hr0_0⟩, ⟨A0_1, c0_1, g0_1, hc0_1, hr0_1⟩⟩ := hk0
  obtain rfl : cs0 = #[.slice A0_0 (x0.1).length c0_0, .slice A0_1 (x0.2).length c0_1] := by
    apply Array.ext'
    have e_ : cs0.toList = (Value.agg cs0).cells.toList := rfl
    rw [e_, e0_0, g0_0, g0_1]; rfl
  clear hA0 hval0 hsz0 hsz
  obtain ⟨k_, hP⟩ := (validLog_pure_all (x0.1) (x0.2) hz0).rounds
  refine (P.laws_FnExactValidLog.calls k_ A0_0 c0_0 (x0.1) A0_1 c0_1 (x0.2) true W hr0_0 hc0_0 hr0_1 hc0_1 hP).mono fun e W' ⟨he, hb⟩ => ?_
  have bel : Below W.heap.size W W' := by first | exact hb | exact hb.below
  subst he
  exact ⟨_, rfl, _, _, _, [], _, [], hW', trodAll_mk1 (shut_bool Try.underlying4 _), (trodAll_cons_mk (Below.trod laidOut (by kernel_rfl) (of_decide_eq_true (by kernel_rfl)) k0 bel lt0) trodAll_mk0), rfl, bel.frame _, fun h => by cases h⟩
theorem over : Rows.fnExactValidLogRow.holds Try.pinned (OpenSpec.ofChange Rows.fnExactValidLogSpec) :=
  OpenClaim.holds_of_wide 5 Try.f5 rfl rfl rfl rfl rfl rfl rfl ⟨rfl, rfl, rfl, rfl, rfl⟩ rfl rfl rfl rfl rfl (by kernel_rfl) Try.func5 (by kernel_rfl)
    (of_decide_eq_true (by kernel_rfl)) (by unfold Func.isWrapper; first | (rw [if_pos (by decide +kernel)]; kernel_rfl) | (rw [if_neg (by decide +kernel)]; exact ⟨rfl, rfl⟩))
    (fun os started H enc _ => lifted os started H enc)
theorem proved : Rows.FnExactValidLogSaid := over
#print axioms proved
end Go.Proofs.Ytpnblgbkjbpeoaa.fnExactValidLog
namespace Go.Proofs.Ytpnblgbkjbpeoaa
/-- The row, under a short name, for the claim. -/
theorem fnExactValidLog_holds : Rows.FnExactValidLogSaid := fnExactValidLog.proved
end Go.Proofs.Ytpnblgbkjbpeoaa
