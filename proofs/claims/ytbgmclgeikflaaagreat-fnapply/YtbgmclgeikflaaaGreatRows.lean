/-
  No cell of these rows narrows 'for every input' (looked for: loops, veiled, ifaces, maps, wideKeys, modest, calm, conditions, laid).
  DERIVED. THE GIVEN ROWS OF THIS SEAT. 11 by the template 'for every input the law returns true; each argument reads behind the call as it read before'; 0 by the template 'total and deterministic' (their statements: YtbgmclgeikflaaaGreatTotals.lean).
  GIVEN WITH THE SEED: the statements are not yours to turn. If you find one false, say at which input.
  Laid BY PROGRAM, IN A SANDBOX (cutbox-rows.mjs): the forced cells as the released guide's own fill.sh prints them over the translation d47650c989e1d503… (all of the seat's roots in one cut). By AI agents, Wed Nov 11 2026. No macro, syntax, notation, axiom, sorry.
-/
import Derived.Test.YtbgmclgeikflaaaGreatChecked
import GoSem.Claim
import GoSem.ClaimJoined
import GoSem.ClaimMapViews
import Derived.JoinedTies
import Derived.KernelRfl
namespace Go.Proofs.YtbgmclgeikflaaaGreat
/- THE CELL 'sum', in the pinned program and in every row, IS THE sha256 OF THE DUMP (.gsa) THAT YtbgmclgeikflaaaGreatProg.lean LOADS. Nothing in Lean hashes anything: it is a label: what it is worth is what the hold of that sum in a sandbox is worth. -/
noncomputable def Tryz.pinned : Pinned := { name := "ytbgmclgeikflaaagreat", sum := "d47650c989e1d503856300598adc06f077b7232b46548a6e88146052e5822f11", checked := Tryz.checked }
namespace Rows
def none {H : Type} : Left H := { results := [], args := [] }

/-- 'laws.FnTop': WHATEVER THE INPUT: true; the input reads as it did. -/
def fnTopSpec : ChangeSpec := { name := "fnTop", fn := fun _ => fun
  | [d] => { results := [.lit (.bool true)], args := [d] }
  | _ => none }
def fnTopRow : OpenClaim := { program := "ytbgmclgeikflaaagreat", sum := "d47650c989e1d503856300598adc06f077b7232b46548a6e88146052e5822f11", func := "loop.example/kilnvault/laws.FnTop", spec := "fnTop", unfollowed := true, recurses := true, named := ["encoding/binary.BigEndian"], apart := false }
def FnTopSaid : Prop := fnTopRow.holds Tryz.pinned (OpenSpec.ofChange fnTopSpec)

/-- ITS FALSE NEIGHBOUR: 'it returns false'. Refute it at one input. -/
def fnTopWrong : ChangeSpec := { name := "fnTop", fn := fun _ => fun
  | [d] => { results := [.lit (.bool false)], args := [d] }
  | _ => none }
def FnTopWrongFalsely : Prop := fnTopRow.holds Tryz.pinned (OpenSpec.ofChange fnTopWrong)

/-- 'laws.FnExactValidVault': WHATEVER THE INPUT: true; the input reads as it did. -/
def fnExactValidVaultSpec : ChangeSpec := { name := "fnExactValidVault", fn := fun _ => fun
  | [d] => { results := [.lit (.bool true)], args := [d] }
  | _ => none }
def fnExactValidVaultRow : OpenClaim := { program := "ytbgmclgeikflaaagreat", sum := "d47650c989e1d503856300598adc06f077b7232b46548a6e88146052e5822f11", func := "loop.example/kilnvault/laws.FnExactValidVault", spec := "fnExactValidVault", unfollowed := true, recurses := true, named := ["encoding/binary.BigEndian"], apart := false }
def FnExactValidVaultSaid : Prop := fnExactValidVaultRow.holds Tryz.pinned (OpenSpec.ofChange fnExactValidVaultSpec)

/-- ITS FALSE NEIGHBOUR: 'it returns false'. Refute it at one input. -/
def fnExactValidVaultWrong : ChangeSpec := { name := "fnExactValidVault", fn := fun _ => fun
  | [d] => { results := [.lit (.bool false)], args := [d] }
  | _ => none }
def FnExactValidVaultWrongFalsely : Prop := fnExactValidVaultRow.holds Tryz.pinned (OpenSpec.ofChange fnExactValidVaultWrong)

/-- 'laws.FnReplay': WHATEVER THE INPUT: true; the input reads as it did. -/
def fnReplaySpec : ChangeSpec := { name := "fnReplay", fn := fun _ => fun
  | [d] => { results := [.lit (.bool true)], args := [d] }
  | _ => none }
def fnReplayRow : OpenClaim := { program := "ytbgmclgeikflaaagreat", sum := "d47650c989e1d503856300598adc06f077b7232b46548a6e88146052e5822f11", func := "loop.example/kilnvault/laws.FnReplay", spec := "fnReplay", unfollowed := true, recurses := true, named := ["encoding/binary.BigEndian"], apart := false }
def FnReplaySaid : Prop := fnReplayRow.holds Tryz.pinned (OpenSpec.ofChange fnReplaySpec)

/-- ITS FALSE NEIGHBOUR: 'it returns false'. Refute it at one input. -/
def fnReplayWrong : ChangeSpec := { name := "fnReplay", fn := fun _ => fun
  | [d] => { results := [.lit (.bool false)], args := [d] }
  | _ => none }
def FnReplayWrongFalsely : Prop := fnReplayRow.holds Tryz.pinned (OpenSpec.ofChange fnReplayWrong)

/-- 'laws.FnNever': WHATEVER THE INPUT: true; the input reads as it did. -/
def fnNeverSpec : ChangeSpec := { name := "fnNever", fn := fun _ => fun
  | [d] => { results := [.lit (.bool true)], args := [d] }
  | _ => none }
def fnNeverRow : OpenClaim := { program := "ytbgmclgeikflaaagreat", sum := "d47650c989e1d503856300598adc06f077b7232b46548a6e88146052e5822f11", func := "loop.example/kilnvault/laws.FnNever", spec := "fnNever", unfollowed := true, recurses := true, named := ["encoding/binary.BigEndian"], apart := false }
def FnNeverSaid : Prop := fnNeverRow.holds Tryz.pinned (OpenSpec.ofChange fnNeverSpec)

/-- ITS FALSE NEIGHBOUR: 'it returns false'. Refute it at one input. -/
def fnNeverWrong : ChangeSpec := { name := "fnNever", fn := fun _ => fun
  | [d] => { results := [.lit (.bool false)], args := [d] }
  | _ => none }
def FnNeverWrongFalsely : Prop := fnNeverRow.holds Tryz.pinned (OpenSpec.ofChange fnNeverWrong)

/-- 'laws.FnUnits': WHATEVER THE INPUT: true; the input reads as it did. -/
def fnUnitsSpec : ChangeSpec := { name := "fnUnits", fn := fun _ => fun
  | [d] => { results := [.lit (.bool true)], args := [d] }
  | _ => none }
def fnUnitsRow : OpenClaim := { program := "ytbgmclgeikflaaagreat", sum := "d47650c989e1d503856300598adc06f077b7232b46548a6e88146052e5822f11", func := "loop.example/kilnvault/laws.FnUnits", spec := "fnUnits", unfollowed := true, recurses := true, apart := false }
def FnUnitsSaid : Prop := fnUnitsRow.holds Tryz.pinned (OpenSpec.ofChange fnUnitsSpec)

/-- ITS FALSE NEIGHBOUR: 'it returns false'. Refute it at one input. -/
def fnUnitsWrong : ChangeSpec := { name := "fnUnits", fn := fun _ => fun
  | [d] => { results := [.lit (.bool false)], args := [d] }
  | _ => none }
def FnUnitsWrongFalsely : Prop := fnUnitsRow.holds Tryz.pinned (OpenSpec.ofChange fnUnitsWrong)

/-- 'laws.FnCrash': WHATEVER THE INPUT: true; the input reads as it did. -/
def fnCrashSpec : ChangeSpec := { name := "fnCrash", fn := fun _ => fun
  | [d] => { results := [.lit (.bool true)], args := [d] }
  | _ => none }
def fnCrashRow : OpenClaim := { program := "ytbgmclgeikflaaagreat", sum := "d47650c989e1d503856300598adc06f077b7232b46548a6e88146052e5822f11", func := "loop.example/kilnvault/laws.FnCrash", spec := "fnCrash", unfollowed := true, recurses := true, named := ["encoding/binary.BigEndian"], apart := false }
def FnCrashSaid : Prop := fnCrashRow.holds Tryz.pinned (OpenSpec.ofChange fnCrashSpec)

/-- ITS FALSE NEIGHBOUR: 'it returns false'. Refute it at one input. -/
def fnCrashWrong : ChangeSpec := { name := "fnCrash", fn := fun _ => fun
  | [d] => { results := [.lit (.bool false)], args := [d] }
  | _ => none }
def FnCrashWrongFalsely : Prop := fnCrashRow.holds Tryz.pinned (OpenSpec.ofChange fnCrashWrong)

/-- 'laws.FnReach': WHATEVER THE INPUT: true; the input reads as it did. -/
def fnReachSpec : ChangeSpec := { name := "fnReach", fn := fun _ => fun
  | [d] => { results := [.lit (.bool true)], args := [d] }
  | _ => none }
def fnReachRow : OpenClaim := { program := "ytbgmclgeikflaaagreat", sum := "d47650c989e1d503856300598adc06f077b7232b46548a6e88146052e5822f11", func := "loop.example/kilnvault/laws.FnReach", spec := "fnReach", unfollowed := true, recurses := true, apart := false }
def FnReachSaid : Prop := fnReachRow.holds Tryz.pinned (OpenSpec.ofChange fnReachSpec)

/-- ITS FALSE NEIGHBOUR: 'it returns false'. Refute it at one input. -/
def fnReachWrong : ChangeSpec := { name := "fnReach", fn := fun _ => fun
  | [d] => { results := [.lit (.bool false)], args := [d] }
  | _ => none }
def FnReachWrongFalsely : Prop := fnReachRow.holds Tryz.pinned (OpenSpec.ofChange fnReachWrong)

/-- 'laws.FnRefused': WHATEVER THE INPUT: true; the input reads as it did. -/
def fnRefusedSpec : ChangeSpec := { name := "fnRefused", fn := fun _ => fun
  | [d] => { results := [.lit (.bool true)], args := [d] }
  | _ => none }
def fnRefusedRow : OpenClaim := { program := "ytbgmclgeikflaaagreat", sum := "d47650c989e1d503856300598adc06f077b7232b46548a6e88146052e5822f11", func := "loop.example/kilnvault/laws.FnRefused", spec := "fnRefused", unfollowed := true, recurses := true, named := ["encoding/binary.BigEndian"], apart := false }
def FnRefusedSaid : Prop := fnRefusedRow.holds Tryz.pinned (OpenSpec.ofChange fnRefusedSpec)

/-- ITS FALSE NEIGHBOUR: 'it returns false'. Refute it at one input. -/
def fnRefusedWrong : ChangeSpec := { name := "fnRefused", fn := fun _ => fun
  | [d] => { results := [.lit (.bool false)], args := [d] }
  | _ => none }
def FnRefusedWrongFalsely : Prop := fnRefusedRow.holds Tryz.pinned (OpenSpec.ofChange fnRefusedWrong)

/-- 'laws.FnLiveness': WHATEVER THE INPUT: true; the input reads as it did. -/
def fnLivenessSpec : ChangeSpec := { name := "fnLiveness", fn := fun _ => fun
  | [d] => { results := [.lit (.bool true)], args := [d] }
  | _ => none }
def fnLivenessRow : OpenClaim := { program := "ytbgmclgeikflaaagreat", sum := "d47650c989e1d503856300598adc06f077b7232b46548a6e88146052e5822f11", func := "loop.example/kilnvault/laws.FnLiveness", spec := "fnLiveness", unfollowed := true, recurses := true, named := ["encoding/binary.BigEndian"], apart := false }
def FnLivenessSaid : Prop := fnLivenessRow.holds Tryz.pinned (OpenSpec.ofChange fnLivenessSpec)

/-- ITS FALSE NEIGHBOUR: 'it returns false'. Refute it at one input. -/
def fnLivenessWrong : ChangeSpec := { name := "fnLiveness", fn := fun _ => fun
  | [d] => { results := [.lit (.bool false)], args := [d] }
  | _ => none }
def FnLivenessWrongFalsely : Prop := fnLivenessRow.holds Tryz.pinned (OpenSpec.ofChange fnLivenessWrong)

/-- 'laws.FnBorrowed': WHATEVER THE INPUT: true; the input reads as it did. -/
def fnBorrowedSpec : ChangeSpec := { name := "fnBorrowed", fn := fun _ => fun
  | [d] => { results := [.lit (.bool true)], args := [d] }
  | _ => none }
def fnBorrowedRow : OpenClaim := { program := "ytbgmclgeikflaaagreat", sum := "d47650c989e1d503856300598adc06f077b7232b46548a6e88146052e5822f11", func := "loop.example/kilnvault/laws.FnBorrowed", spec := "fnBorrowed", unfollowed := true, recurses := true, named := ["encoding/binary.BigEndian"], apart := false }
def FnBorrowedSaid : Prop := fnBorrowedRow.holds Tryz.pinned (OpenSpec.ofChange fnBorrowedSpec)

/-- ITS FALSE NEIGHBOUR: 'it returns false'. Refute it at one input. -/
def fnBorrowedWrong : ChangeSpec := { name := "fnBorrowed", fn := fun _ => fun
  | [d] => { results := [.lit (.bool false)], args := [d] }
  | _ => none }
def FnBorrowedWrongFalsely : Prop := fnBorrowedRow.holds Tryz.pinned (OpenSpec.ofChange fnBorrowedWrong)

/-- 'laws.FnApply': WHATEVER THE INPUT: true; the input reads as it did. -/
def fnApplySpec : ChangeSpec := { name := "fnApply", fn := fun _ => fun
  | [d] => { results := [.lit (.bool true)], args := [d] }
  | _ => none }
def fnApplyRow : OpenClaim := { program := "ytbgmclgeikflaaagreat", sum := "d47650c989e1d503856300598adc06f077b7232b46548a6e88146052e5822f11", func := "loop.example/kilnvault/laws.FnApply", spec := "fnApply", unfollowed := true, recurses := true, apart := false }
def FnApplySaid : Prop := fnApplyRow.holds Tryz.pinned (OpenSpec.ofChange fnApplySpec)

/-- ITS FALSE NEIGHBOUR: 'it returns false'. Refute it at one input. -/
def fnApplyWrong : ChangeSpec := { name := "fnApply", fn := fun _ => fun
  | [d] => { results := [.lit (.bool false)], args := [d] }
  | _ => none }
def FnApplyWrongFalsely : Prop := fnApplyRow.holds Tryz.pinned (OpenSpec.ofChange fnApplyWrong)

/- THE SECOND FORM. 'bulk': how many values and letters a reading holds, each counted each time it is reached (what is shared counts as often as it is met; a slice's spare places count too). A statement '..UptoSaid' is the law's where the arguments, and the package variables that the reading takes, are together of bulk at most 1048576: NARROWER than '..Said'. Prove '..Said' where nothing that the law and all that it calls make is longer than what came in: it says more and counts as full. Else prove '..UptoSaid'. A law counts once. -/
mutual
def uptoBulk {H : Type} : DataW H → Nat
  | .lit (.string bytes) => bytes.length + 1
  | .lit _ => 1
  | .nil => 1
  | .ptr d => uptoBulk d + 1
  | .slice elems spare => uptoBulkAll elems + uptoBulkAll spare + 1
  | .agg parts => uptoBulkAll parts + 1
  | .iface _ d => uptoBulk d + 1
  | .map entries => uptoBulkEntries entries + 1
  | .held _ => 1
def uptoBulkAll {H : Type} : List (DataW H) → Nat
  | [] => 0
  | d :: r => uptoBulk d + uptoBulkAll r
def uptoBulkEntries {H : Type} : List (Lit × DataW H) → Nat
  | [] => 0
  | x :: r => uptoBulkEntry x + uptoBulkEntries r
def uptoBulkEntry {H : Type} : Lit × DataW H → Nat
  | (.string bytes, d) => bytes.length + uptoBulk d + 1
  | (_, d) => uptoBulk d + 1
 end
def uptoSmall : (H : Type) → List (DataW H) → Bool := fun _ ds => decide (uptoBulkAll ds ≤ 1048576)
def OpenSpec.upto (s : _root_.Go.ChangeSpec) : _root_.Go.OpenSpec := { _root_.Go.OpenSpec.ofChange s with cond := some uptoSmall }

/-- 'laws.FnTop', WHERE WHAT IT READS IS OF BULK AT MOST 1048576: true; the input reads as it did. -/
def fnTopUptoRow : OpenClaim := { program := "ytbgmclgeikflaaagreat", sum := "d47650c989e1d503856300598adc06f077b7232b46548a6e88146052e5822f11", func := "loop.example/kilnvault/laws.FnTop", spec := "fnTop", unfollowed := true, recurses := true, named := ["encoding/binary.BigEndian"], apart := false, narrowed := true }
def FnTopUptoSaid : Prop := fnTopUptoRow.holds Tryz.pinned (OpenSpec.upto fnTopSpec)

/-- 'laws.FnExactValidVault', WHERE WHAT IT READS IS OF BULK AT MOST 1048576: true; the input reads as it did. -/
def fnExactValidVaultUptoRow : OpenClaim := { program := "ytbgmclgeikflaaagreat", sum := "d47650c989e1d503856300598adc06f077b7232b46548a6e88146052e5822f11", func := "loop.example/kilnvault/laws.FnExactValidVault", spec := "fnExactValidVault", unfollowed := true, recurses := true, named := ["encoding/binary.BigEndian"], apart := false, narrowed := true }
def FnExactValidVaultUptoSaid : Prop := fnExactValidVaultUptoRow.holds Tryz.pinned (OpenSpec.upto fnExactValidVaultSpec)

/-- 'laws.FnReplay', WHERE WHAT IT READS IS OF BULK AT MOST 1048576: true; the input reads as it did. -/
def fnReplayUptoRow : OpenClaim := { program := "ytbgmclgeikflaaagreat", sum := "d47650c989e1d503856300598adc06f077b7232b46548a6e88146052e5822f11", func := "loop.example/kilnvault/laws.FnReplay", spec := "fnReplay", unfollowed := true, recurses := true, named := ["encoding/binary.BigEndian"], apart := false, narrowed := true }
def FnReplayUptoSaid : Prop := fnReplayUptoRow.holds Tryz.pinned (OpenSpec.upto fnReplaySpec)

/-- 'laws.FnNever', WHERE WHAT IT READS IS OF BULK AT MOST 1048576: true; the input reads as it did. -/
def fnNeverUptoRow : OpenClaim := { program := "ytbgmclgeikflaaagreat", sum := "d47650c989e1d503856300598adc06f077b7232b46548a6e88146052e5822f11", func := "loop.example/kilnvault/laws.FnNever", spec := "fnNever", unfollowed := true, recurses := true, named := ["encoding/binary.BigEndian"], apart := false, narrowed := true }
def FnNeverUptoSaid : Prop := fnNeverUptoRow.holds Tryz.pinned (OpenSpec.upto fnNeverSpec)

/-- 'laws.FnUnits', WHERE WHAT IT READS IS OF BULK AT MOST 1048576: true; the input reads as it did. -/
def fnUnitsUptoRow : OpenClaim := { program := "ytbgmclgeikflaaagreat", sum := "d47650c989e1d503856300598adc06f077b7232b46548a6e88146052e5822f11", func := "loop.example/kilnvault/laws.FnUnits", spec := "fnUnits", unfollowed := true, recurses := true, apart := false, narrowed := true }
def FnUnitsUptoSaid : Prop := fnUnitsUptoRow.holds Tryz.pinned (OpenSpec.upto fnUnitsSpec)

/-- 'laws.FnCrash', WHERE WHAT IT READS IS OF BULK AT MOST 1048576: true; the input reads as it did. -/
def fnCrashUptoRow : OpenClaim := { program := "ytbgmclgeikflaaagreat", sum := "d47650c989e1d503856300598adc06f077b7232b46548a6e88146052e5822f11", func := "loop.example/kilnvault/laws.FnCrash", spec := "fnCrash", unfollowed := true, recurses := true, named := ["encoding/binary.BigEndian"], apart := false, narrowed := true }
def FnCrashUptoSaid : Prop := fnCrashUptoRow.holds Tryz.pinned (OpenSpec.upto fnCrashSpec)

/-- 'laws.FnReach', WHERE WHAT IT READS IS OF BULK AT MOST 1048576: true; the input reads as it did. -/
def fnReachUptoRow : OpenClaim := { program := "ytbgmclgeikflaaagreat", sum := "d47650c989e1d503856300598adc06f077b7232b46548a6e88146052e5822f11", func := "loop.example/kilnvault/laws.FnReach", spec := "fnReach", unfollowed := true, recurses := true, apart := false, narrowed := true }
def FnReachUptoSaid : Prop := fnReachUptoRow.holds Tryz.pinned (OpenSpec.upto fnReachSpec)

/-- 'laws.FnRefused', WHERE WHAT IT READS IS OF BULK AT MOST 1048576: true; the input reads as it did. -/
def fnRefusedUptoRow : OpenClaim := { program := "ytbgmclgeikflaaagreat", sum := "d47650c989e1d503856300598adc06f077b7232b46548a6e88146052e5822f11", func := "loop.example/kilnvault/laws.FnRefused", spec := "fnRefused", unfollowed := true, recurses := true, named := ["encoding/binary.BigEndian"], apart := false, narrowed := true }
def FnRefusedUptoSaid : Prop := fnRefusedUptoRow.holds Tryz.pinned (OpenSpec.upto fnRefusedSpec)

/-- 'laws.FnLiveness', WHERE WHAT IT READS IS OF BULK AT MOST 1048576: true; the input reads as it did. -/
def fnLivenessUptoRow : OpenClaim := { program := "ytbgmclgeikflaaagreat", sum := "d47650c989e1d503856300598adc06f077b7232b46548a6e88146052e5822f11", func := "loop.example/kilnvault/laws.FnLiveness", spec := "fnLiveness", unfollowed := true, recurses := true, named := ["encoding/binary.BigEndian"], apart := false, narrowed := true }
def FnLivenessUptoSaid : Prop := fnLivenessUptoRow.holds Tryz.pinned (OpenSpec.upto fnLivenessSpec)

/-- 'laws.FnBorrowed', WHERE WHAT IT READS IS OF BULK AT MOST 1048576: true; the input reads as it did. -/
def fnBorrowedUptoRow : OpenClaim := { program := "ytbgmclgeikflaaagreat", sum := "d47650c989e1d503856300598adc06f077b7232b46548a6e88146052e5822f11", func := "loop.example/kilnvault/laws.FnBorrowed", spec := "fnBorrowed", unfollowed := true, recurses := true, named := ["encoding/binary.BigEndian"], apart := false, narrowed := true }
def FnBorrowedUptoSaid : Prop := fnBorrowedUptoRow.holds Tryz.pinned (OpenSpec.upto fnBorrowedSpec)

/-- 'laws.FnApply', WHERE WHAT IT READS IS OF BULK AT MOST 1048576: true; the input reads as it did. -/
def fnApplyUptoRow : OpenClaim := { program := "ytbgmclgeikflaaagreat", sum := "d47650c989e1d503856300598adc06f077b7232b46548a6e88146052e5822f11", func := "loop.example/kilnvault/laws.FnApply", spec := "fnApply", unfollowed := true, recurses := true, apart := false, narrowed := true }
def FnApplyUptoSaid : Prop := fnApplyUptoRow.holds Tryz.pinned (OpenSpec.upto fnApplySpec)

end Rows
end Go.Proofs.YtbgmclgeikflaaaGreat
