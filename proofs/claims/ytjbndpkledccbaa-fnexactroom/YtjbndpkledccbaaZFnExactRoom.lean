/- FnExactRoom: at every input the law returns true, and each argument reads as it did. No condition. -/
import Derived.Test.YtjbndpkledccbaaRows
import Derived.WalkKit
import Derived.ProofKit
import Derived.OpenShut
import Derived.ShutString
import Derived.ChangeOld
import Derived.Below
import Derived.SizedLaws
import Derived.Test.YtjbndpkledccbaaM1
import Derived.Test.YtjbndpkledccbaaM2
import Derived.Test.YtjbndpkledccbaaM3
import Derived.Test.YtjbndpkledccbaaM4
import Derived.Test.YtjbndpkledccbaaM5
namespace Go.Proofs.Ytjbndpkledccbaa.fnExactRoom
open Go.ChangeShapes Go.WideShapes Go.ChangeAt Go.RowKit Go.Eng KV
open Go.ChangeMaps (open_string shut_string)
set_option linter.unusedVariables false
theorem own : ownKnob Try.prog.godebug = none := by kernel_rfl
theorem laidOut : laidOutB Try.prog = true := by kernel_rfl
theorem pts : Try.f4.params.toList.flatMap (kinds Try.prog 8) = [.i .i64, .i .i64, .i .i64, .i .i64, .sl 82, .sl 84, .sl 86] := by kernel_rfl
theorem k9 : kinds Try.prog 8 9 = [.s] := by kernel_rfl
theorem kK : kinds Try.prog 8 82 = [.s, .i .i64, .s, .sl 9] := by kernel_rfl
theorem kP : kinds Try.prog 8 84 = [.s, .s] := by kernel_rfl
theorem kL : kinds Try.prog 8 86 = [.i .i64, .s, .i .i64] := by kernel_rfl
theorem code {xs : List C} (h : F2 (Ty Try.prog 140737488351232) (Try.f4.params.toList.flatMap (kinds Try.prog 8)) xs) : ∃ (s0 : State), xs.map lfOf = [.i s0.width, .i s0.now, .i s0.given, .i s0.births, .l (encK s0.things), .l (encP s0.pins), .l (encL s0.leases)] ∧ BigS s0 := by
  rw [pts] at h
  obtain ⟨s0, _, rfl, b0, y1⟩ := decSt kK k9 kP kL h
  obtain rfl := zkh y1
  exact ⟨s0, rfl, b0⟩
set_option maxRecDepth 100000 in
set_option maxHeartbeats 20000000 in
theorem lifted (os : Os) (started : os.Started) (H : Type) (enc : TypeId × Value → H) :
    ReturnsInHanded {} Try.checked os 4 .any (Rows.fnExactRoomSpec.pre6 enc Try.prog Try.f4 Rows.fnExactRoomRow.domain false) (Rows.fnExactRoomSpec.post enc Try.prog Try.f4 false true false false) := by
  refine returnsInHanded_of_change_sized (C := Try.checked) own started (by kernel_rfl) Try.func4
    (ChangeSpec.witness6 (enc := enc) (C := Try.checked) false ⟨#[], #[.agg #[.int .i64 0, .int .i64 0, .int .i64 0, .int .i64 0, .slice none 0 0, .slice none 0 0, .slice none 0 0]], []⟩ 8 (by kernel_rfl) (by kernel_rfl) (by kernel_rfl) (by kernel_rfl)) ?_
  intro W base args ds gs before hval0 hW hcnd hsz0 _
  have hsz : (DataW.weightsEach Try.prog (Try.f4.params.toList ++ Rows.fnExactRoomSpec.plain.varTypes Try.prog) (ds ++ gs)).all (· ≤ reachBytes) = true := hsz0
  have hval : ∀ (j : Nat) t v, Try.f4.params[j]? = some t → args[j]? = some v → Value.okWide Try.prog W .any base t v := hval0
  have hW' := hW
  obtain ⟨p, q, hA0, hV, rfl, hfz, hnd⟩ := hW
  have hA : DataW.TrodAll enc Try.prog W 0 (fun _ => true) true Try.f4.params.toList args.toList ds p := hA0
  obtain ⟨rfl, rfl⟩ := trodVars_none hV
  have hvars : Rows.fnExactRoomSpec.plain.varTypes Try.prog = [] := rfl
  rw [hvars, List.append_nil, List.append_nil] at hsz
  obtain ⟨xs, a1, a4⟩ := zf4 (P := Try.prog) (w := W) (B := 140737488351232) (ts := Try.f4.params.toList) (vs := args.toList) (List.all_eq_true.1 (show Try.f4.params.toList.all (okT Try.prog 8) = true by kernel_rfl)) (fun j t v h1 h2 => hval j t v (by simpa using h1) (by simpa using h2)) hA
    (fun m hm => by have := List.all_eq_true.1 hsz m hm; have := of_decide_eq_true this; unfold reachBytes at this; omega)
  obtain ⟨d1, rfl⟩ : ∃ d1, ds = [d1] := by
    rw [Try.params4] at hA
    obtain ⟨_, _, d1, _, _, _, _, rfl, _, _, r1⟩ := trodAll_cons hA
    obtain ⟨_, rfl, _⟩ := trodAll_nil r1
    exact ⟨d1, rfl⟩
  obtain ⟨s0, hc1, h0⟩ := code a1
  have hc := zjb (w := W) kqbo.1 rfl rfl a4 (by rw [hc1]; exact zmh s0 h0)
  refine hc.mono fun e W' ⟨he, bel⟩ => ?_
  subst he
  exact ⟨_, rfl, _, _, _, [], _, [], hW', trodAll_mk1 (shut_bool Try.underlying4 _), zfm laidOut bel (fun t ht => by
    have := List.all_eq_true.1 (show Try.f4.params.toList.all (fun t => Try.prog.readableRec t && decide (t < Try.prog.types.size)) = true by kernel_rfl) t ht
    simp only [Bool.and_eq_true, decide_eq_true_eq] at this; exact this) hA, rfl, bel.frame _, fun h => by cases h⟩
set_option maxHeartbeats 20000000 in
theorem over : Rows.fnExactRoomRow.holds Try.pinned (OpenSpec.ofChange Rows.fnExactRoomSpec) :=
  OpenClaim.holds_of_wide 4 Try.f4 rfl rfl rfl rfl rfl rfl rfl ⟨rfl, rfl, rfl, rfl, rfl⟩ rfl rfl rfl rfl rfl (by as_aux_lemma => kernel_rfl) Try.func4 (by as_aux_lemma => kernel_rfl)
    (of_decide_eq_true (by as_aux_lemma => kernel_rfl)) (by unfold Func.isWrapper; first | (rw [if_pos (by decide +kernel)]; kernel_rfl) | (rw [if_neg (by decide +kernel)]; exact ⟨rfl, rfl⟩))
    (fun os started H enc _ => lifted os started H enc)
theorem proved : Rows.FnExactRoomSaid := over
#print axioms proved
end Go.Proofs.Ytjbndpkledccbaa.fnExactRoom
namespace Go.Proofs.Ytjbndpkledccbaa
/-- The row, under a short name, for the claim. -/
theorem fnExactRoom_holds : Rows.FnExactRoomSaid := fnExactRoom.proved
end Go.Proofs.Ytjbndpkledccbaa
