/- FnExactValidRound: at every input the law returns true, and each argument reads as it did. No condition. -/
import Derived.Test.YtjbndpkledccbaaRows
import Derived.WalkKit
import Derived.ProofKit
import Derived.OpenShut
import Derived.ShutString
import Derived.ChangeOld
import Derived.Below
import Derived.SizedLaws
import Derived.Test.YtjbndpkledccbaaM1
import Derived.Test.YtjbndpkledccbaaM2
import Derived.Test.YtjbndpkledccbaaM3
import Derived.Test.YtjbndpkledccbaaM4
import Derived.Test.YtjbndpkledccbaaM5
namespace Go.Proofs.Ytjbndpkledccbaa.fnExactValidRound
open Go.ChangeShapes Go.WideShapes Go.ChangeAt Go.RowKit Go.Eng KV
open Go.ChangeMaps (open_string shut_string)
set_option linter.unusedVariables false
theorem own : ownKnob Try.prog.godebug = none := by kernel_rfl
theorem laidOut : laidOutB Try.prog = true := by kernel_rfl
theorem pts : Try.f5.params.toList.flatMap (kinds Try.prog 8) = [.i .i64, .i .i64, .i .i64, .i .i64, .sl 82, .sl 84, .sl 86, .i .i64, .sl 9, .sl 9, .i .i64, .i .i64, .i .i64] := by kernel_rfl
theorem k9 : kinds Try.prog 8 9 = [.s] := by kernel_rfl
theorem kK : kinds Try.prog 8 82 = [.s, .i .i64, .s, .sl 9] := by kernel_rfl
theorem kP : kinds Try.prog 8 84 = [.s, .s] := by kernel_rfl
theorem kL : kinds Try.prog 8 86 = [.i .i64, .s, .i .i64] := by kernel_rfl
theorem code {xs : List C} (h : F2 (Ty Try.prog 140737488351232) (Try.f5.params.toList.flatMap (kinds Try.prog 8)) xs) : ∃ (s0 : State) (r1 : Round), xs.map lfOf = [.i s0.width, .i s0.now, .i s0.given, .i s0.births, .l (encK s0.things), .l (encP s0.pins), .l (encL s0.leases), .i r1.phase, .l (encS r1.queue), .l (encS r1.marked), .i r1.top, .i r1.at_, .i r1.rounds] ∧ BigS s0 ∧ (BigL r1.queue ∧ BigL r1.marked) := by
  rw [pts] at h
  obtain ⟨s0, _, rfl, b0, y1⟩ := decSt kK k9 kP kL h
  obtain ⟨r1, _, rfl, b1, y2⟩ := decRd k9 y1
  obtain rfl := zmo y2
  exact ⟨s0, r1, rfl, b0, b1⟩
set_option maxRecDepth 100000 in
set_option maxHeartbeats 20000000 in
theorem lifted (os : Os) (started : os.Started) (H : Type) (enc : TypeId × Value → H) :
    ReturnsInHanded {} Try.checked os 5 .any (Rows.fnExactValidRoundSpec.pre6 enc Try.prog Try.f5 Rows.fnExactValidRoundRow.domain false) (Rows.fnExactValidRoundSpec.post enc Try.prog Try.f5 false true false false) := by
  refine returnsInHanded_of_change_sized (C := Try.checked) own started (by kernel_rfl) Try.func5
    (ChangeSpec.witness6 (enc := enc) (C := Try.checked) false ⟨#[], #[.agg #[.int .i64 0, .int .i64 0, .int .i64 0, .int .i64 0, .slice none 0 0, .slice none 0 0, .slice none 0 0], .agg #[.int .i64 0, .slice none 0 0, .slice none 0 0, .int .i64 0, .int .i64 0, .int .i64 0]], []⟩ 8 (by kernel_rfl) (by kernel_rfl) (by kernel_rfl) (by kernel_rfl)) ?_
  intro W base args ds gs before hval0 hW hcnd hsz0 _
  have hsz : (DataW.weightsEach Try.prog (Try.f5.params.toList ++ Rows.fnExactValidRoundSpec.plain.varTypes Try.prog) (ds ++ gs)).all (· ≤ reachBytes) = true := hsz0
  have hval : ∀ (j : Nat) t v, Try.f5.params[j]? = some t → args[j]? = some v → Value.okWide Try.prog W .any base t v := hval0
  have hW' := hW
  obtain ⟨p, q, hA0, hV, rfl, hfz, hnd⟩ := hW
  have hA : DataW.TrodAll enc Try.prog W 0 (fun _ => true) true Try.f5.params.toList args.toList ds p := hA0
  obtain ⟨rfl, rfl⟩ := trodVars_none hV
  have hvars : Rows.fnExactValidRoundSpec.plain.varTypes Try.prog = [] := rfl
  rw [hvars, List.append_nil, List.append_nil] at hsz
  obtain ⟨xs, a1, a4⟩ := zg3 (P := Try.prog) (w := W) (B := 140737488351232) (ts := Try.f5.params.toList) (vs := args.toList) (List.all_eq_true.1 (show Try.f5.params.toList.all (okT Try.prog 8) = true by kernel_rfl)) (fun j t v h1 h2 => hval j t v (by simpa using h1) (by simpa using h2)) hA
    (fun m hm => by have := List.all_eq_true.1 hsz m hm; have := of_decide_eq_true this; unfold reachBytes at this; omega)
  obtain ⟨d1, d2, rfl⟩ : ∃ d1 d2, ds = [d1, d2] := by
    rw [Try.params5] at hA
    obtain ⟨_, _, d1, _, _, _, _, rfl, _, _, r1⟩ := trodAll_cons hA
    obtain ⟨_, _, d2, _, _, _, _, rfl, _, _, r2⟩ := trodAll_cons r1
    obtain ⟨_, rfl, _⟩ := trodAll_nil r2
    exact ⟨d1, d2, rfl⟩
  obtain ⟨s0, r1, hc1, h0, h1⟩ := code a1
  have hc := zk3 (w := W) kqbt.1 rfl rfl a4 (by rw [hc1]; exact zis s0 r1 h0 h1)
  refine hc.mono fun e W' ⟨he, bel⟩ => ?_
  subst he
  exact ⟨_, rfl, _, _, _, [], _, [], hW', trodAll_mk1 (shut_bool Try.underlying4 _), zgh laidOut bel (fun t ht => by
    have := List.all_eq_true.1 (show Try.f5.params.toList.all (fun t => Try.prog.readableRec t && decide (t < Try.prog.types.size)) = true by kernel_rfl) t ht
    simp only [Bool.and_eq_true, decide_eq_true_eq] at this; exact this) hA, rfl, bel.frame _, fun h => by cases h⟩
set_option maxHeartbeats 20000000 in
theorem over : Rows.fnExactValidRoundRow.holds Try.pinned (OpenSpec.ofChange Rows.fnExactValidRoundSpec) :=
  OpenClaim.holds_of_wide 5 Try.f5 rfl rfl rfl rfl rfl rfl rfl ⟨rfl, rfl, rfl, rfl, rfl⟩ rfl rfl rfl rfl rfl (by as_aux_lemma => kernel_rfl) Try.func5 (by as_aux_lemma => kernel_rfl)
    (of_decide_eq_true (by as_aux_lemma => kernel_rfl)) (by unfold Func.isWrapper; first | (rw [if_pos (by decide +kernel)]; kernel_rfl) | (rw [if_neg (by decide +kernel)]; exact ⟨rfl, rfl⟩))
    (fun os started H enc _ => lifted os started H enc)
theorem proved : Rows.FnExactValidRoundSaid := over
#print axioms proved
end Go.Proofs.Ytjbndpkledccbaa.fnExactValidRound
namespace Go.Proofs.Ytjbndpkledccbaa
/-- The row, under a short name, for the claim. -/
theorem fnExactValidRound_holds : Rows.FnExactValidRoundSaid := fnExactValidRound.proved
end Go.Proofs.Ytjbndpkledccbaa
