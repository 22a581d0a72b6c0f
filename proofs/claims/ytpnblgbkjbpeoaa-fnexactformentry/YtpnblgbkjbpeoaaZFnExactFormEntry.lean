/- The law FnExactFormEntry returns true at every input, and each argument reads as it did. The plain theorem is formEntry_all; here: the arguments opened, the walk joined. No condition. -/
import Derived.Test.YtpnblgbkjbpeoaaRows
import Derived.Test.YtpnblgbkjbpeoaaM5
import Derived.Test.YtpnblgbkjbpeoaaM6
import Derived.WalkKit
import Derived.ProofKit
import Derived.OpenShut
import Derived.ShutString
import Derived.ChangeOld
import Derived.Below
import Derived.SizedLaws
namespace Go.Proofs.Ytpnblgbkjbpeoaa.fnExactFormEntry
open Go.ChangeShapes Go.WideShapes Go.ChangeAt Go.RowKit Go.Proofs.Ytpnblgbkjbpeoaa.P Go.Proofs.Ytpnblgbkjbpeoaa.Q Go.Proofs.YtpnblgbkjbpeoaaW.PrintWords
open Go.ChangeMaps (open_string shut_string)
set_option linter.unusedVariables false
theorem own : ownKnob Try.prog.godebug = none := by kernel_rfl
theorem laidOut : laidOutB Try.prog = true := by kernel_rfl
set_option maxRecDepth 100000 in
theorem lifted (os : Os) (started : os.Started) (H : Type) (enc : TypeId × Value → H) :
    ReturnsInHanded {} Try.checked os 12 .any (Rows.fnExactFormEntrySpec.pre6 enc Try.prog Try.f12 Rows.fnExactFormEntryRow.domain false) (Rows.fnExactFormEntrySpec.post enc Try.prog Try.f12 false true false false) := by
  refine returnsInHanded_of_change_sized (C := Try.checked) own started (by kernel_rfl) Try.func12
    (ChangeSpec.witness6 (enc := enc) (C := Try.checked) false ⟨#[], #[.agg #[.int .i64 0, .string ByteArray.empty, .string ByteArray.empty, .int .i64 0, .string ByteArray.empty, .slice none 0 0], .int .i64 0], []⟩ 8 (by kernel_rfl) (by kernel_rfl) (by kernel_rfl) (by kernel_rfl)) ?_
  intro W base args ds gs before hval0 hW hcnd hsz0 _
  have hsz : (DataW.weightsEach Try.prog (Try.f12.params.toList ++ Rows.fnExactFormEntrySpec.plain.varTypes Try.prog) (ds ++ gs)).all (· ≤ reachBytes) = true := hsz0
  have hval : ∀ (j : Nat) t v, Try.f12.params[j]? = some t → args[j]? = some v → Value.okWide Try.prog W .any base t v := hval0
  have hW' := hW
  obtain ⟨p, q, hA0, hV, rfl, hfz, hnd⟩ := hW
  have hA : DataW.TrodAll enc Try.prog W 0 (fun _ => true) true Try.f12.params.toList args.toList ds p := hA0
  rw [Try.params12] at hA hval hsz
  obtain ⟨v0, vs0, d0, ds0, p0, q0, hargs, rfl, rfl, h0, r0⟩ := trodAll_cons hA
  obtain ⟨v1, vs1, d1, ds1, p1, q1, rfl, rfl, rfl, h1, r1⟩ := trodAll_cons r0
  obtain ⟨rfl, rfl, rfl⟩ := trodAll_nil r1
  obtain rfl : args = #[v0, v1] := by cases args; simp_all
  obtain ⟨rfl, rfl⟩ := trodVars_none hV
  obtain ⟨cs0, rfl, _⟩ := okWide_struct Try.underlying59 (hval 0 59 v0 rfl rfl)
  have k0 := h0
  have lt0 : ∀ x ∈ p0, x.block < W.heap.size := by obtain ⟨m, hm⟩ := k0; exact DataW.trod_lt m _ _ _ hm
  obtain ⟨fuel0, hf0⟩ := h0
  obtain ⟨x0, hk0, hz00⟩ := (Rd.struct Try.underlying59 (by kernel_rfl) (RdL.cons (Rd.int Try.underlying3) rfl (by kernel_rfl) (RdL.cons (Rd.string Try.underlying9) rfl (by kernel_rfl) (RdL.cons (Rd.string Try.underlying9) rfl (by kernel_rfl) (RdL.cons (Rd.int Try.underlying3) rfl (by kernel_rfl) (RdL.one (Rd.struct Try.underlying35 (by kernel_rfl) (RdL.cons (Rd.string Try.underlying9) rfl (by kernel_rfl) (RdL.one (Rd.slice Try.underlying25 (by kernel_rfl) (Rd.string Try.underlying9)) rfl (by kernel_rfl)))) rfl (by kernel_rfl))))))).out hf0
  have hz0 := sized_rd hsz (j := 0) (t := 59) rfl rfl hz00
  obtain ⟨m0_0, n0_0, e0_0, g0_0, ⟨m0_1, n0_1, e0_1, g0_1, ⟨m0_2, n0_2, e0_2, g0_2, ⟨m0_3, n0_3, e0_3, g0_3, ⟨m0_4, n0_4, e0_4, g0_4, ⟨A0_5, c0_5, g0_5, hc0_5, hr0_5⟩⟩⟩⟩⟩⟩ := hk0
  obtain rfl : cs0 = #[.int .i64 (x0.1), .string (x0.2.1), .string (x0.2.2.1), .int .i64 (x0.2.2.2.1), .string (x0.2.2.2.2.1), .slice A0_5 (x0.2.2.2.2.2).length c0_5] := by
    apply Array.ext'
    have e_ : cs0.toList = (Value.agg cs0).cells.toList := rfl
    rw [e_, e0_0, g0_0, e0_1, g0_1, e0_2, g0_2, e0_3, g0_3, e0_4, g0_4, g0_5]; rfl
  obtain ⟨a1, rfl, rfl, rfl, w1⟩ := open_int Try.underlying3 (hval 1 3 v1 rfl rfl) h1
  clear hA0 hval0 hsz0 hsz
  obtain ⟨k_, hP⟩ := (formEntry_all (x0.1) (x0.2.1) (x0.2.2.1) (x0.2.2.2.1) (x0.2.2.2.2.1) (x0.2.2.2.2.2) a1 hz0).rounds
  refine (P.laws_FnExactFormEntry.calls k_ (x0.1) (x0.2.1) (x0.2.2.1) (x0.2.2.2.1) (x0.2.2.2.2.1) A0_5 c0_5 (x0.2.2.2.2.2) a1 true W hr0_5 hc0_5 hP).mono fun e W' ⟨he, hb⟩ => ?_
  have bel : Below W.heap.size W W' := by first | exact hb | exact hb.below
  subst he
  exact ⟨_, rfl, _, _, _, [], _, [], hW', trodAll_mk1 (shut_bool Try.underlying4 _), (trodAll_cons_mk (Below.trod laidOut (by kernel_rfl) (of_decide_eq_true (by kernel_rfl)) k0 bel lt0) (trodAll_cons_mk (shut_int Try.underlying3 w1) trodAll_mk0)), rfl, bel.frame _, fun h => by cases h⟩
theorem over : Rows.fnExactFormEntryRow.holds Try.pinned (OpenSpec.ofChange Rows.fnExactFormEntrySpec) :=
  OpenClaim.holds_of_wide 12 Try.f12 rfl rfl rfl rfl rfl rfl rfl ⟨rfl, rfl, rfl, rfl, rfl⟩ rfl rfl rfl rfl rfl (by kernel_rfl) Try.func12 (by kernel_rfl)
    (of_decide_eq_true (by kernel_rfl)) (by unfold Func.isWrapper; first | (rw [if_pos (by decide +kernel)]; kernel_rfl) | (rw [if_neg (by decide +kernel)]; exact ⟨rfl, rfl⟩))
    (fun os started H enc _ => lifted os started H enc)
theorem proved : Rows.FnExactFormEntrySaid := over
#print axioms proved
end Go.Proofs.Ytpnblgbkjbpeoaa.fnExactFormEntry
namespace Go.Proofs.Ytpnblgbkjbpeoaa
/-- The row, under a short name, for the claim. -/
theorem fnExactFormEntry_holds : Rows.FnExactFormEntrySaid := fnExactFormEntry.proved
end Go.Proofs.Ytpnblgbkjbpeoaa
