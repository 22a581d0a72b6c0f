/- The law FnExactValidRound returns true at every input, and each argument reads as it did. The plain theorem is validRound_all; here: the arguments opened, the walk joined. No condition. -/
import Derived.Test.YtcijlemojododaaRows
import Derived.Test.YtcijlemojododaaM9
import Derived.Test.YtcijlemojododaaM10
import Derived.WalkKit
import Derived.ProofKit
import Derived.OpenShut
import Derived.ShutString
import Derived.ChangeOld
import Derived.Below
import Derived.SizedLaws
namespace Go.Proofs.Ytcijlemojododaa.fnExactValidRound
open Go.ChangeShapes Go.WideShapes Go.ChangeAt Go.RowKit Go.Proofs.Ytcijlemojododaa.P Go.Proofs.Ytcijlemojododaa.Q Go.Proofs.YtcijlemojododaaW.PrintWords
open Go.ChangeMaps (open_string shut_string)
set_option linter.unusedVariables false
theorem own : ownKnob Try.prog.godebug = none := by kernel_rfl
theorem laidOut : laidOutB Try.prog = true := by kernel_rfl
set_option maxRecDepth 100000 in
theorem lifted (os : Os) (started : os.Started) (H : Type) (enc : TypeId × Value → H) :
    ReturnsInHanded {} Try.checked os 5 .any (Rows.fnExactValidRoundSpec.pre6 enc Try.prog Try.f5 Rows.fnExactValidRoundRow.domain false) (Rows.fnExactValidRoundSpec.post enc Try.prog Try.f5 false true false false) := by
  refine returnsInHanded_of_change_sized (C := Try.checked) own started (by kernel_rfl) Try.func5
    (ChangeSpec.witness6 (enc := enc) (C := Try.checked) false ⟨#[], #[.agg #[.int .i64 0, .int .i64 0, .int .i64 0, .int .i64 0, .slice none 0 0, .slice none 0 0, .slice none 0 0], .agg #[.int .i64 0, .slice none 0 0, .slice none 0 0, .int .i64 0, .int .i64 0, .int .i64 0]], []⟩ 8 (by kernel_rfl) (by kernel_rfl) (by kernel_rfl) (by kernel_rfl)) ?_
  intro W base args ds gs before hval0 hW hcnd hsz0 _
  have hsz : (DataW.weightsEach Try.prog (Try.f5.params.toList ++ Rows.fnExactValidRoundSpec.plain.varTypes Try.prog) (ds ++ gs)).all (· ≤ reachBytes) = true := hsz0
  have hval : ∀ (j : Nat) t v, Try.f5.params[j]? = some t → args[j]? = some v → Value.okWide Try.prog W .any base t v := hval0
  have hW' := hW
  obtain ⟨p, q, hA0, hV, rfl, hfz, hnd⟩ := hW
  have hA : DataW.TrodAll enc Try.prog W 0 (fun _ => true) true Try.f5.params.toList args.toList ds p := hA0
  rw [Try.params5] at hA hval hsz
  obtain ⟨v0, vs0, d0, ds0, p0, q0, hargs, rfl, rfl, h0, r0⟩ := trodAll_cons hA
  obtain ⟨v1, vs1, d1, ds1, p1, q1, rfl, rfl, rfl, h1, r1⟩ := trodAll_cons r0
  obtain ⟨rfl, rfl, rfl⟩ := trodAll_nil r1
  obtain rfl : args = #[v0, v1] := by cases args; simp_all
  obtain ⟨rfl, rfl⟩ := trodVars_none hV
  obtain ⟨cs0, rfl, _⟩ := okWide_struct Try.underlying26 (hval 0 26 v0 rfl rfl)
  have k0 := h0
  have lt0 : ∀ x ∈ p0, x.block < W.heap.size := by obtain ⟨m, hm⟩ := k0; exact DataW.trod_lt m _ _ _ hm
  obtain ⟨fuel0, hf0⟩ := h0
  obtain ⟨x0, hk0, hz00⟩ := (Rd.struct Try.underlying26 (by kernel_rfl) (RdL.cons (Rd.int Try.underlying3) rfl (by kernel_rfl) (RdL.cons (Rd.int Try.underlying3) rfl (by kernel_rfl) (RdL.cons (Rd.int Try.underlying3) rfl (by kernel_rfl) (RdL.cons (Rd.int Try.underlying3) rfl (by kernel_rfl) (RdL.cons (Rd.slice Try.underlying22 (by kernel_rfl) (Rd.iso (Rd.struct Try.underlying130 (by kernel_rfl) (RdL.cons (Rd.string Try.underlying9) rfl (by kernel_rfl) (RdL.cons (Rd.int Try.underlying3) rfl (by kernel_rfl) (RdL.one (Rd.iso (Rd.struct Try.underlying128 (by kernel_rfl) (RdL.cons (Rd.string Try.underlying9) rfl (by kernel_rfl) (RdL.one (Rd.slice Try.underlying38 (by kernel_rfl) (Rd.string Try.underlying9)) rfl (by kernel_rfl)))) (fun x : S128 => (x.f0, x.f1)) (fun y => ⟨y.1, y.2⟩) (fun _ => rfl)) rfl (by kernel_rfl))))) (fun x : S130 => (x.f0, x.f1, x.f2)) (fun y => ⟨y.1, y.2.1, y.2.2⟩) (fun _ => rfl))) rfl (by kernel_rfl) (RdL.cons (Rd.slice Try.underlying23 (by kernel_rfl) (Rd.iso (Rd.struct Try.underlying132 (by kernel_rfl) (RdL.cons (Rd.string Try.underlying9) rfl (by kernel_rfl) (RdL.one (Rd.string Try.underlying9) rfl (by kernel_rfl)))) (fun x : S132 => (x.f0, x.f1)) (fun y => ⟨y.1, y.2⟩) (fun _ => rfl))) rfl (by kernel_rfl) (RdL.one (Rd.slice Try.underlying24 (by kernel_rfl) (Rd.iso (Rd.struct Try.underlying134 (by kernel_rfl) (RdL.cons (Rd.int Try.underlying3) rfl (by kernel_rfl) (RdL.cons (Rd.string Try.underlying9) rfl (by kernel_rfl) (RdL.one (Rd.int Try.underlying3) rfl (by kernel_rfl))))) (fun x : S134 => (x.f0, x.f1, x.f2)) (fun y => ⟨y.1, y.2.1, y.2.2⟩) (fun _ => rfl))) rfl (by kernel_rfl))))))))).out hf0
  have hz0 := sized_rd hsz (j := 0) (t := 26) rfl rfl hz00
  obtain ⟨m0_0, n0_0, e0_0, g0_0, ⟨m0_1, n0_1, e0_1, g0_1, ⟨m0_2, n0_2, e0_2, g0_2, ⟨m0_3, n0_3, e0_3, g0_3, ⟨m0_4, n0_4, e0_4, ⟨A0_4, c0_4, g0_4, hc0_4, hr0_4⟩, ⟨m0_5, n0_5, e0_5, ⟨A0_5, c0_5, g0_5, hc0_5, hr0_5⟩, ⟨A0_6, c0_6, g0_6, hc0_6, hr0_6⟩⟩⟩⟩⟩⟩⟩ := hk0
  obtain rfl : cs0 = #[.int .i64 (x0.1), .int .i64 (x0.2.1), .int .i64 (x0.2.2.1), .int .i64 (x0.2.2.2.1), .slice A0_4 (x0.2.2.2.2.1).length c0_4, .slice A0_5 (x0.2.2.2.2.2.1).length c0_5, .slice A0_6 (x0.2.2.2.2.2.2).length c0_6] := by
    apply Array.ext'
    have e_ : cs0.toList = (Value.agg cs0).cells.toList := rfl
    rw [e_, e0_0, g0_0, e0_1, g0_1, e0_2, g0_2, e0_3, g0_3, e0_4, g0_4, e0_5, g0_5, g0_6]; rfl
  obtain ⟨cs1, rfl, _⟩ := okWide_struct Try.underlying40 (hval 1 40 v1 rfl rfl)
  have k1 := h1
  have lt1 : ∀ x ∈ p1, x.block < W.heap.size := by obtain ⟨m, hm⟩ := k1; exact DataW.trod_lt m _ _ _ hm
  obtain ⟨fuel1, hf1⟩ := h1
  obtain ⟨x1, hk1, hz01⟩ := (Rd.struct Try.underlying40 (by kernel_rfl) (RdL.cons (Rd.int Try.underlying3) rfl (by kernel_rfl) (RdL.cons (Rd.slice Try.underlying38 (by kernel_rfl) (Rd.string Try.underlying9)) rfl (by kernel_rfl) (RdL.cons (Rd.slice Try.underlying38 (by kernel_rfl) (Rd.string Try.underlying9)) rfl (by kernel_rfl) (RdL.cons (Rd.int Try.underlying3) rfl (by kernel_rfl) (RdL.cons (Rd.int Try.underlying3) rfl (by kernel_rfl) (RdL.one (Rd.int Try.underlying3) rfl (by kernel_rfl)))))))).out hf1
  have hz1 := sized_rd hsz (j := 1) (t := 40) rfl rfl hz01
  obtain ⟨m1_0, n1_0, e1_0, g1_0, ⟨m1_1, n1_1, e1_1, ⟨A1_1, c1_1, g1_1, hc1_1, hr1_1⟩, ⟨m1_2, n1_2, e1_2, ⟨A1_2, c1_2, g1_2, hc1_2, hr1_2⟩, ⟨m1_3, n1_3, e1_3, g1_3, ⟨m1_4, n1_4, e1_4, g1_4, g1_5⟩⟩⟩⟩⟩ := hk1
  obtain rfl : cs1 = #[.int .i64 (x1.1), .slice A1_1 (x1.2.1).length c1_1, .slice A1_2 (x1.2.2.1).length c1_2, .int .i64 (x1.2.2.2.1), .int .i64 (x1.2.2.2.2.1), .int .i64 (x1.2.2.2.2.2)] := by
    apply Array.ext'
    have e_ : cs1.toList = (Value.agg cs1).cells.toList := rfl
    rw [e_, e1_0, g1_0, e1_1, g1_1, e1_2, g1_2, e1_3, g1_3, e1_4, g1_4, g1_5]; rfl
  clear hA0 hval0 hsz0 hsz
  obtain ⟨k_, hP⟩ := (validRound_all (x0.1) (x0.2.1) (x0.2.2.1) (x0.2.2.2.1) (x0.2.2.2.2.1) (x0.2.2.2.2.2.1) (x0.2.2.2.2.2.2) (x1.1) (x1.2.1) (x1.2.2.1) (x1.2.2.2.1) (x1.2.2.2.2.1) (x1.2.2.2.2.2) hz0 hz1).rounds
  refine (P.laws_FnExactValidRound.calls k_ (x0.1) (x0.2.1) (x0.2.2.1) (x0.2.2.2.1) A0_4 c0_4 (x0.2.2.2.2.1) A0_5 c0_5 (x0.2.2.2.2.2.1) A0_6 c0_6 (x0.2.2.2.2.2.2) (x1.1) A1_1 c1_1 (x1.2.1) A1_2 c1_2 (x1.2.2.1) (x1.2.2.2.1) (x1.2.2.2.2.1) (x1.2.2.2.2.2) true W hr0_4 hc0_4 hr0_5 hc0_5 hr0_6 hc0_6 hr1_1 hc1_1 hr1_2 hc1_2 hP).mono fun e W' ⟨he, hb⟩ => ?_
  have bel : Below W.heap.size W W' := by first | exact hb | exact hb.below
  subst he
  exact ⟨_, rfl, _, _, _, [], _, [], hW', trodAll_mk1 (shut_bool Try.underlying4 _), (trodAll_cons_mk (Below.trod laidOut (by kernel_rfl) (of_decide_eq_true (by kernel_rfl)) k0 bel lt0) (trodAll_cons_mk (Below.trod laidOut (by kernel_rfl) (of_decide_eq_true (by kernel_rfl)) k1 bel lt1) trodAll_mk0)), rfl, bel.frame _, fun h => by cases h⟩
theorem over : Rows.fnExactValidRoundRow.holds Try.pinned (OpenSpec.ofChange Rows.fnExactValidRoundSpec) :=
  OpenClaim.holds_of_wide 5 Try.f5 rfl rfl rfl rfl rfl rfl rfl ⟨rfl, rfl, rfl, rfl, rfl⟩ rfl rfl rfl rfl rfl (by kernel_rfl) Try.func5 (by kernel_rfl)
    (of_decide_eq_true (by kernel_rfl)) (by unfold Func.isWrapper; first | (rw [if_pos (by decide +kernel)]; kernel_rfl) | (rw [if_neg (by decide +kernel)]; exact ⟨rfl, rfl⟩))
    (fun os started H enc _ => lifted os started H enc)
theorem proved : Rows.FnExactValidRoundSaid := over
#print axioms proved
end Go.Proofs.Ytcijlemojododaa.fnExactValidRound
namespace Go.Proofs.Ytcijlemojododaa
/-- The row, under a short name, for the claim. -/
theorem fnExactValidRound_holds : Rows.FnExactValidRoundSaid := fnExactValidRound.proved
end Go.Proofs.Ytcijlemojododaa
