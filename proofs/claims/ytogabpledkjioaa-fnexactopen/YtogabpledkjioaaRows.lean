/-
  No cell of these rows narrows 'for every input' (looked for: loops, veiled, ifaces, maps, wideKeys, modest, calm, conditions, laid).
  DERIVED. THE GIVEN ROWS OF THIS SEAT. 8 by the template 'for every input the law returns true; each argument reads behind the call as it read before'; 0 by the template 'total and deterministic' (their statements: YtogabpledkjioaaTotals.lean).
  GIVEN WITH THE SEED: the statements are not yours to turn. If you find one false, say at which input.
  Laid BY PROGRAM, IN A SANDBOX (cutbox-rows.mjs): the forced cells as the released guide's own fill.sh prints them over the translation 74d9f61407fe26d0… (all of the seat's roots in one cut). By AI agents, Wed Nov 11 2026. No macro, syntax, notation, axiom, sorry.
-/
import Derived.Test.YtogabpledkjioaaChecked
import GoSem.Claim
import GoSem.ClaimJoined
import GoSem.ClaimMapViews
import Derived.JoinedTies
import Derived.KernelRfl
namespace Go.Proofs.Ytogabpledkjioaa
/- THE CELL 'sum', in the pinned program and in every row, IS THE sha256 OF THE DUMP (.gsa) THAT YtogabpledkjioaaProg.lean LOADS. Nothing in Lean hashes anything: it is a label: what it is worth is what the hold of that sum in a sandbox is worth. -/
noncomputable def Try.pinned : Pinned := { name := "ytogabpledkjioaa", sum := "74d9f61407fe26d0a77c551cb884d2059d65a1b62d57a6a93d13bd5994870271", checked := Try.checked }
namespace Rows
def none {H : Type} : Left H := { results := [], args := [] }

/-- 'laws.FnExactLive': WHATEVER THE INPUT: true; the input reads as it did. -/
def fnExactLiveSpec : ChangeSpec := { name := "fnExactLive", fn := fun _ => fun
  | [d] => { results := [.lit (.bool true)], args := [d] }
  | _ => none }
def fnExactLiveRow : OpenClaim := { program := "ytogabpledkjioaa", sum := "74d9f61407fe26d0a77c551cb884d2059d65a1b62d57a6a93d13bd5994870271", func := "loop.example/kilnvault/laws.FnExactLive", spec := "fnExactLive", unfollowed := true, recurses := true, apart := false }
def FnExactLiveSaid : Prop := fnExactLiveRow.holds Try.pinned (OpenSpec.ofChange fnExactLiveSpec)

/-- ITS FALSE NEIGHBOUR: 'it returns false'. Refute it at one input. -/
def fnExactLiveWrong : ChangeSpec := { name := "fnExactLive", fn := fun _ => fun
  | [d] => { results := [.lit (.bool false)], args := [d] }
  | _ => none }
def FnExactLiveWrongFalsely : Prop := fnExactLiveRow.holds Try.pinned (OpenSpec.ofChange fnExactLiveWrong)

/-- 'laws.FnExactWaste': WHATEVER THE INPUT: true; the input reads as it did. -/
def fnExactWasteSpec : ChangeSpec := { name := "fnExactWaste", fn := fun _ => fun
  | [d] => { results := [.lit (.bool true)], args := [d] }
  | _ => none }
def fnExactWasteRow : OpenClaim := { program := "ytogabpledkjioaa", sum := "74d9f61407fe26d0a77c551cb884d2059d65a1b62d57a6a93d13bd5994870271", func := "loop.example/kilnvault/laws.FnExactWaste", spec := "fnExactWaste", unfollowed := true, recurses := true, apart := false }
def FnExactWasteSaid : Prop := fnExactWasteRow.holds Try.pinned (OpenSpec.ofChange fnExactWasteSpec)

/-- ITS FALSE NEIGHBOUR: 'it returns false'. Refute it at one input. -/
def fnExactWasteWrong : ChangeSpec := { name := "fnExactWaste", fn := fun _ => fun
  | [d] => { results := [.lit (.bool false)], args := [d] }
  | _ => none }
def FnExactWasteWrongFalsely : Prop := fnExactWasteRow.holds Try.pinned (OpenSpec.ofChange fnExactWasteWrong)

/-- 'laws.FnExactShade': WHATEVER THE INPUT: true; the input reads as it did. -/
def fnExactShadeSpec : ChangeSpec := { name := "fnExactShade", fn := fun _ => fun
  | [d1, d2, d3] => { results := [.lit (.bool true)], args := [d1, d2, d3] }
  | _ => none }
def fnExactShadeRow : OpenClaim := { program := "ytogabpledkjioaa", sum := "74d9f61407fe26d0a77c551cb884d2059d65a1b62d57a6a93d13bd5994870271", func := "loop.example/kilnvault/laws.FnExactShade", spec := "fnExactShade", unfollowed := true, recurses := true, apart := false }
def FnExactShadeSaid : Prop := fnExactShadeRow.holds Try.pinned (OpenSpec.ofChange fnExactShadeSpec)

/-- ITS FALSE NEIGHBOUR: 'it returns false'. Refute it at one input. -/
def fnExactShadeWrong : ChangeSpec := { name := "fnExactShade", fn := fun _ => fun
  | [d1, d2, d3] => { results := [.lit (.bool false)], args := [d1, d2, d3] }
  | _ => none }
def FnExactShadeWrongFalsely : Prop := fnExactShadeRow.holds Try.pinned (OpenSpec.ofChange fnExactShadeWrong)

/-- 'laws.FnExactReplay': WHATEVER THE INPUT: true; the input reads as it did. -/
def fnExactReplaySpec : ChangeSpec := { name := "fnExactReplay", fn := fun _ => fun
  | [d1, d2] => { results := [.lit (.bool true)], args := [d1, d2] }
  | _ => none }
def fnExactReplayRow : OpenClaim := { program := "ytogabpledkjioaa", sum := "74d9f61407fe26d0a77c551cb884d2059d65a1b62d57a6a93d13bd5994870271", func := "loop.example/kilnvault/laws.FnExactReplay", spec := "fnExactReplay", unfollowed := true, recurses := true, named := ["encoding/binary.BigEndian"], apart := false }
def FnExactReplaySaid : Prop := fnExactReplayRow.holds Try.pinned (OpenSpec.ofChange fnExactReplaySpec)

/-- ITS FALSE NEIGHBOUR: 'it returns false'. Refute it at one input. -/
def fnExactReplayWrong : ChangeSpec := { name := "fnExactReplay", fn := fun _ => fun
  | [d1, d2] => { results := [.lit (.bool false)], args := [d1, d2] }
  | _ => none }
def FnExactReplayWrongFalsely : Prop := fnExactReplayRow.holds Try.pinned (OpenSpec.ofChange fnExactReplayWrong)

/-- 'laws.FnExactHolders': WHATEVER THE INPUT: true; the input reads as it did. -/
def fnExactHoldersSpec : ChangeSpec := { name := "fnExactHolders", fn := fun _ => fun
  | [d1, d2] => { results := [.lit (.bool true)], args := [d1, d2] }
  | _ => none }
def fnExactHoldersRow : OpenClaim := { program := "ytogabpledkjioaa", sum := "74d9f61407fe26d0a77c551cb884d2059d65a1b62d57a6a93d13bd5994870271", func := "loop.example/kilnvault/laws.FnExactHolders", spec := "fnExactHolders", unfollowed := true, recurses := true, apart := false }
def FnExactHoldersSaid : Prop := fnExactHoldersRow.holds Try.pinned (OpenSpec.ofChange fnExactHoldersSpec)

/-- ITS FALSE NEIGHBOUR: 'it returns false'. Refute it at one input. -/
def fnExactHoldersWrong : ChangeSpec := { name := "fnExactHolders", fn := fun _ => fun
  | [d1, d2] => { results := [.lit (.bool false)], args := [d1, d2] }
  | _ => none }
def FnExactHoldersWrongFalsely : Prop := fnExactHoldersRow.holds Try.pinned (OpenSpec.ofChange fnExactHoldersWrong)

/-- 'laws.FnExactOpen': WHATEVER THE INPUT: true; the input reads as it did. -/
def fnExactOpenSpec : ChangeSpec := { name := "fnExactOpen", fn := fun _ => fun
  | [d1, d2, d3] => { results := [.lit (.bool true)], args := [d1, d2, d3] }
  | _ => none }
def fnExactOpenRow : OpenClaim := { program := "ytogabpledkjioaa", sum := "74d9f61407fe26d0a77c551cb884d2059d65a1b62d57a6a93d13bd5994870271", func := "loop.example/kilnvault/laws.FnExactOpen", spec := "fnExactOpen", unfollowed := true, recurses := true, named := ["encoding/binary.BigEndian"], apart := false }
def FnExactOpenSaid : Prop := fnExactOpenRow.holds Try.pinned (OpenSpec.ofChange fnExactOpenSpec)

/-- ITS FALSE NEIGHBOUR: 'it returns false'. Refute it at one input. -/
def fnExactOpenWrong : ChangeSpec := { name := "fnExactOpen", fn := fun _ => fun
  | [d1, d2, d3] => { results := [.lit (.bool false)], args := [d1, d2, d3] }
  | _ => none }
def FnExactOpenWrongFalsely : Prop := fnExactOpenRow.holds Try.pinned (OpenSpec.ofChange fnExactOpenWrong)

/-- 'laws.FnExactUnit': WHATEVER THE INPUT: true; the input reads as it did. -/
def fnExactUnitSpec : ChangeSpec := { name := "fnExactUnit", fn := fun _ => fun
  | [d1, d2] => { results := [.lit (.bool true)], args := [d1, d2] }
  | _ => none }
def fnExactUnitRow : OpenClaim := { program := "ytogabpledkjioaa", sum := "74d9f61407fe26d0a77c551cb884d2059d65a1b62d57a6a93d13bd5994870271", func := "loop.example/kilnvault/laws.FnExactUnit", spec := "fnExactUnit", unfollowed := true, recurses := true, apart := false }
def FnExactUnitSaid : Prop := fnExactUnitRow.holds Try.pinned (OpenSpec.ofChange fnExactUnitSpec)

/-- ITS FALSE NEIGHBOUR: 'it returns false'. Refute it at one input. -/
def fnExactUnitWrong : ChangeSpec := { name := "fnExactUnit", fn := fun _ => fun
  | [d1, d2] => { results := [.lit (.bool false)], args := [d1, d2] }
  | _ => none }
def FnExactUnitWrongFalsely : Prop := fnExactUnitRow.holds Try.pinned (OpenSpec.ofChange fnExactUnitWrong)

/-- 'laws.FnExactApply': WHATEVER THE INPUT: true; the input reads as it did. -/
def fnExactApplySpec : ChangeSpec := { name := "fnExactApply", fn := fun _ => fun
  | [d1, d2] => { results := [.lit (.bool true)], args := [d1, d2] }
  | _ => none }
def fnExactApplyRow : OpenClaim := { program := "ytogabpledkjioaa", sum := "74d9f61407fe26d0a77c551cb884d2059d65a1b62d57a6a93d13bd5994870271", func := "loop.example/kilnvault/laws.FnExactApply", spec := "fnExactApply", unfollowed := true, recurses := true, apart := false }
def FnExactApplySaid : Prop := fnExactApplyRow.holds Try.pinned (OpenSpec.ofChange fnExactApplySpec)

/-- ITS FALSE NEIGHBOUR: 'it returns false'. Refute it at one input. -/
def fnExactApplyWrong : ChangeSpec := { name := "fnExactApply", fn := fun _ => fun
  | [d1, d2] => { results := [.lit (.bool false)], args := [d1, d2] }
  | _ => none }
def FnExactApplyWrongFalsely : Prop := fnExactApplyRow.holds Try.pinned (OpenSpec.ofChange fnExactApplyWrong)

/- THE SECOND FORM. 'bulk': how many values and letters a reading holds, each counted each time it is reached (what is shared counts as often as it is met; a slice's spare places count too). A statement '..UptoSaid' is the law's where the arguments, and the package variables that the reading takes, are together of bulk at most 1048576: NARROWER than '..Said'. Prove '..Said' where nothing that the law and all that it calls make is longer than what came in: it says more and counts as full. Else prove '..UptoSaid'. A law counts once. -/
mutual
def uptoBulk {H : Type} : DataW H → Nat
  | .lit (.string bytes) => bytes.length + 1
  | .lit _ => 1
  | .nil => 1
  | .ptr d => uptoBulk d + 1
  | .slice elems spare => uptoBulkAll elems + uptoBulkAll spare + 1
  | .agg parts => uptoBulkAll parts + 1
  | .iface _ d => uptoBulk d + 1
  | .map entries => uptoBulkEntries entries + 1
  | .held _ => 1
def uptoBulkAll {H : Type} : List (DataW H) → Nat
  | [] => 0
  | d :: r => uptoBulk d + uptoBulkAll r
def uptoBulkEntries {H : Type} : List (Lit × DataW H) → Nat
  | [] => 0
  | x :: r => uptoBulkEntry x + uptoBulkEntries r
def uptoBulkEntry {H : Type} : Lit × DataW H → Nat
  | (.string bytes, d) => bytes.length + uptoBulk d + 1
  | (_, d) => uptoBulk d + 1
 end
def uptoSmall : (H : Type) → List (DataW H) → Bool := fun _ ds => decide (uptoBulkAll ds ≤ 1048576)
def OpenSpec.upto (s : _root_.Go.ChangeSpec) : _root_.Go.OpenSpec := { _root_.Go.OpenSpec.ofChange s with cond := some uptoSmall }

/-- 'laws.FnExactLive', WHERE WHAT IT READS IS OF BULK AT MOST 1048576: true; the input reads as it did. -/
def fnExactLiveUptoRow : OpenClaim := { program := "ytogabpledkjioaa", sum := "74d9f61407fe26d0a77c551cb884d2059d65a1b62d57a6a93d13bd5994870271", func := "loop.example/kilnvault/laws.FnExactLive", spec := "fnExactLive", unfollowed := true, recurses := true, apart := false, narrowed := true }
def FnExactLiveUptoSaid : Prop := fnExactLiveUptoRow.holds Try.pinned (OpenSpec.upto fnExactLiveSpec)

/-- 'laws.FnExactWaste', WHERE WHAT IT READS IS OF BULK AT MOST 1048576: true; the input reads as it did. -/
def fnExactWasteUptoRow : OpenClaim := { program := "ytogabpledkjioaa", sum := "74d9f61407fe26d0a77c551cb884d2059d65a1b62d57a6a93d13bd5994870271", func := "loop.example/kilnvault/laws.FnExactWaste", spec := "fnExactWaste", unfollowed := true, recurses := true, apart := false, narrowed := true }
def FnExactWasteUptoSaid : Prop := fnExactWasteUptoRow.holds Try.pinned (OpenSpec.upto fnExactWasteSpec)

/-- 'laws.FnExactShade', WHERE WHAT IT READS IS OF BULK AT MOST 1048576: true; the input reads as it did. -/
def fnExactShadeUptoRow : OpenClaim := { program := "ytogabpledkjioaa", sum := "74d9f61407fe26d0a77c551cb884d2059d65a1b62d57a6a93d13bd5994870271", func := "loop.example/kilnvault/laws.FnExactShade", spec := "fnExactShade", unfollowed := true, recurses := true, apart := false, narrowed := true }
def FnExactShadeUptoSaid : Prop := fnExactShadeUptoRow.holds Try.pinned (OpenSpec.upto fnExactShadeSpec)

/-- 'laws.FnExactReplay', WHERE WHAT IT READS IS OF BULK AT MOST 1048576: true; the input reads as it did. -/
def fnExactReplayUptoRow : OpenClaim := { program := "ytogabpledkjioaa", sum := "74d9f61407fe26d0a77c551cb884d2059d65a1b62d57a6a93d13bd5994870271", func := "loop.example/kilnvault/laws.FnExactReplay", spec := "fnExactReplay", unfollowed := true, recurses := true, named := ["encoding/binary.BigEndian"], apart := false, narrowed := true }
def FnExactReplayUptoSaid : Prop := fnExactReplayUptoRow.holds Try.pinned (OpenSpec.upto fnExactReplaySpec)

/-- 'laws.FnExactHolders', WHERE WHAT IT READS IS OF BULK AT MOST 1048576: true; the input reads as it did. -/
def fnExactHoldersUptoRow : OpenClaim := { program := "ytogabpledkjioaa", sum := "74d9f61407fe26d0a77c551cb884d2059d65a1b62d57a6a93d13bd5994870271", func := "loop.example/kilnvault/laws.FnExactHolders", spec := "fnExactHolders", unfollowed := true, recurses := true, apart := false, narrowed := true }
def FnExactHoldersUptoSaid : Prop := fnExactHoldersUptoRow.holds Try.pinned (OpenSpec.upto fnExactHoldersSpec)

/-- 'laws.FnExactOpen', WHERE WHAT IT READS IS OF BULK AT MOST 1048576: true; the input reads as it did. -/
def fnExactOpenUptoRow : OpenClaim := { program := "ytogabpledkjioaa", sum := "74d9f61407fe26d0a77c551cb884d2059d65a1b62d57a6a93d13bd5994870271", func := "loop.example/kilnvault/laws.FnExactOpen", spec := "fnExactOpen", unfollowed := true, recurses := true, named := ["encoding/binary.BigEndian"], apart := false, narrowed := true }
def FnExactOpenUptoSaid : Prop := fnExactOpenUptoRow.holds Try.pinned (OpenSpec.upto fnExactOpenSpec)

/-- 'laws.FnExactUnit', WHERE WHAT IT READS IS OF BULK AT MOST 1048576: true; the input reads as it did. -/
def fnExactUnitUptoRow : OpenClaim := { program := "ytogabpledkjioaa", sum := "74d9f61407fe26d0a77c551cb884d2059d65a1b62d57a6a93d13bd5994870271", func := "loop.example/kilnvault/laws.FnExactUnit", spec := "fnExactUnit", unfollowed := true, recurses := true, apart := false, narrowed := true }
def FnExactUnitUptoSaid : Prop := fnExactUnitUptoRow.holds Try.pinned (OpenSpec.upto fnExactUnitSpec)

/-- 'laws.FnExactApply', WHERE WHAT IT READS IS OF BULK AT MOST 1048576: true; the input reads as it did. -/
def fnExactApplyUptoRow : OpenClaim := { program := "ytogabpledkjioaa", sum := "74d9f61407fe26d0a77c551cb884d2059d65a1b62d57a6a93d13bd5994870271", func := "loop.example/kilnvault/laws.FnExactApply", spec := "fnExactApply", unfollowed := true, recurses := true, apart := false, narrowed := true }
def FnExactApplyUptoSaid : Prop := fnExactApplyUptoRow.holds Try.pinned (OpenSpec.upto fnExactApplySpec)

end Rows
end Go.Proofs.Ytogabpledkjioaa
