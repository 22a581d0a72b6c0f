/-
  No cell of these rows narrows 'for every input' (looked for: loops, veiled, ifaces, maps, wideKeys, modest, calm, conditions, laid).
  DERIVED. THE GIVEN ROWS OF THIS SEAT. 12 by the template 'for every input the law returns true; each argument reads behind the call as it read before'; 0 by the template 'total and deterministic' (their statements: YtpnblgbkjbpeoaaTotals.lean).
  GIVEN WITH THE SEED: the statements are not yours to turn. If you find one false, say at which input.
  Laid BY PROGRAM, IN A SANDBOX (cutbox-rows.mjs): the forced cells as the released guide's own fill.sh prints them over the translation 2d017312bf834e35… (all of the seat's roots in one cut). By AI agents, Wed Nov 11 2026. No macro, syntax, notation, axiom, sorry.
-/
import Derived.Test.YtpnblgbkjbpeoaaChecked
import GoSem.Claim
import GoSem.ClaimJoined
import GoSem.ClaimMapViews
import Derived.JoinedTies
import Derived.KernelRfl
namespace Go.Proofs.Ytpnblgbkjbpeoaa
/- THE CELL 'sum', in the pinned program and in every row, IS THE sha256 OF THE DUMP (.gsa) THAT YtpnblgbkjbpeoaaProg.lean LOADS. Nothing in Lean hashes anything: it is a label: what it is worth is what the hold of that sum in a sandbox is worth. -/
noncomputable def Try.pinned : Pinned := { name := "ytpnblgbkjbpeoaa", sum := "2d017312bf834e35dd6da9118378f419f95a4ef7c4d369d69a659e8e999d6454", checked := Try.checked }
namespace Rows
def none {H : Type} : Left H := { results := [], args := [] }

/-- 'laws.FnExactConstants': WHATEVER THE INPUT: true; the input reads as it did. -/
def fnExactConstantsSpec : ChangeSpec := { name := "fnExactConstants", fn := fun _ => fun
  | [] => { results := [.lit (.bool true)], args := [] }
  | _ => none }
def fnExactConstantsRow : OpenClaim := { program := "ytpnblgbkjbpeoaa", sum := "2d017312bf834e35dd6da9118378f419f95a4ef7c4d369d69a659e8e999d6454", func := "loop.example/kilnvault/laws.FnExactConstants", spec := "fnExactConstants", apart := false }
def FnExactConstantsSaid : Prop := fnExactConstantsRow.holds Try.pinned (OpenSpec.ofChange fnExactConstantsSpec)

/-- ITS FALSE NEIGHBOUR: 'it returns false'. Refute it at one input. -/
def fnExactConstantsWrong : ChangeSpec := { name := "fnExactConstants", fn := fun _ => fun
  | [] => { results := [.lit (.bool false)], args := [] }
  | _ => none }
def FnExactConstantsWrongFalsely : Prop := fnExactConstantsRow.holds Try.pinned (OpenSpec.ofChange fnExactConstantsWrong)

/-- 'laws.FnExactSum': WHATEVER THE INPUT: true; the input reads as it did. -/
def fnExactSumSpec : ChangeSpec := { name := "fnExactSum", fn := fun _ => fun
  | [d1, d2] => { results := [.lit (.bool true)], args := [d1, d2] }
  | _ => none }
def fnExactSumRow : OpenClaim := { program := "ytpnblgbkjbpeoaa", sum := "2d017312bf834e35dd6da9118378f419f95a4ef7c4d369d69a659e8e999d6454", func := "loop.example/kilnvault/laws.FnExactSum", spec := "fnExactSum", apart := false }
def FnExactSumSaid : Prop := fnExactSumRow.holds Try.pinned (OpenSpec.ofChange fnExactSumSpec)

/-- ITS FALSE NEIGHBOUR: 'it returns false'. Refute it at one input. -/
def fnExactSumWrong : ChangeSpec := { name := "fnExactSum", fn := fun _ => fun
  | [d1, d2] => { results := [.lit (.bool false)], args := [d1, d2] }
  | _ => none }
def FnExactSumWrongFalsely : Prop := fnExactSumRow.holds Try.pinned (OpenSpec.ofChange fnExactSumWrong)

/-- 'laws.FnExactValidLog': WHATEVER THE INPUT: true; the input reads as it did. -/
def fnExactValidLogSpec : ChangeSpec := { name := "fnExactValidLog", fn := fun _ => fun
  | [d] => { results := [.lit (.bool true)], args := [d] }
  | _ => none }
def fnExactValidLogRow : OpenClaim := { program := "ytpnblgbkjbpeoaa", sum := "2d017312bf834e35dd6da9118378f419f95a4ef7c4d369d69a659e8e999d6454", func := "loop.example/kilnvault/laws.FnExactValidLog", spec := "fnExactValidLog", apart := false }
def FnExactValidLogSaid : Prop := fnExactValidLogRow.holds Try.pinned (OpenSpec.ofChange fnExactValidLogSpec)

/-- ITS FALSE NEIGHBOUR: 'it returns false'. Refute it at one input. -/
def fnExactValidLogWrong : ChangeSpec := { name := "fnExactValidLog", fn := fun _ => fun
  | [d] => { results := [.lit (.bool false)], args := [d] }
  | _ => none }
def FnExactValidLogWrongFalsely : Prop := fnExactValidLogRow.holds Try.pinned (OpenSpec.ofChange fnExactValidLogWrong)

/-- 'laws.FnExactFormThing': WHATEVER THE INPUT: true; the input reads as it did. -/
def fnExactFormThingSpec : ChangeSpec := { name := "fnExactFormThing", fn := fun _ => fun
  | [d1, d2] => { results := [.lit (.bool true)], args := [d1, d2] }
  | _ => none }
def fnExactFormThingRow : OpenClaim := { program := "ytpnblgbkjbpeoaa", sum := "2d017312bf834e35dd6da9118378f419f95a4ef7c4d369d69a659e8e999d6454", func := "loop.example/kilnvault/laws.FnExactFormThing", spec := "fnExactFormThing", apart := false }
def FnExactFormThingSaid : Prop := fnExactFormThingRow.holds Try.pinned (OpenSpec.ofChange fnExactFormThingSpec)

/-- ITS FALSE NEIGHBOUR: 'it returns false'. Refute it at one input. -/
def fnExactFormThingWrong : ChangeSpec := { name := "fnExactFormThing", fn := fun _ => fun
  | [d1, d2] => { results := [.lit (.bool false)], args := [d1, d2] }
  | _ => none }
def FnExactFormThingWrongFalsely : Prop := fnExactFormThingRow.holds Try.pinned (OpenSpec.ofChange fnExactFormThingWrong)

/-- 'laws.FnExactReadThing': WHATEVER THE INPUT: true; the input reads as it did. -/
def fnExactReadThingSpec : ChangeSpec := { name := "fnExactReadThing", fn := fun _ => fun
  | [d1, d2] => { results := [.lit (.bool true)], args := [d1, d2] }
  | _ => none }
def fnExactReadThingRow : OpenClaim := { program := "ytpnblgbkjbpeoaa", sum := "2d017312bf834e35dd6da9118378f419f95a4ef7c4d369d69a659e8e999d6454", func := "loop.example/kilnvault/laws.FnExactReadThing", spec := "fnExactReadThing", apart := false }
def FnExactReadThingSaid : Prop := fnExactReadThingRow.holds Try.pinned (OpenSpec.ofChange fnExactReadThingSpec)

/-- ITS FALSE NEIGHBOUR: 'it returns false'. Refute it at one input. -/
def fnExactReadThingWrong : ChangeSpec := { name := "fnExactReadThing", fn := fun _ => fun
  | [d1, d2] => { results := [.lit (.bool false)], args := [d1, d2] }
  | _ => none }
def FnExactReadThingWrongFalsely : Prop := fnExactReadThingRow.holds Try.pinned (OpenSpec.ofChange fnExactReadThingWrong)

/-- 'laws.FnExactSync': WHATEVER THE INPUT: true; the input reads as it did. -/
def fnExactSyncSpec : ChangeSpec := { name := "fnExactSync", fn := fun _ => fun
  | [d] => { results := [.lit (.bool true)], args := [d] }
  | _ => none }
def fnExactSyncRow : OpenClaim := { program := "ytpnblgbkjbpeoaa", sum := "2d017312bf834e35dd6da9118378f419f95a4ef7c4d369d69a659e8e999d6454", func := "loop.example/kilnvault/laws.FnExactSync", spec := "fnExactSync", apart := false }
def FnExactSyncSaid : Prop := fnExactSyncRow.holds Try.pinned (OpenSpec.ofChange fnExactSyncSpec)

/-- ITS FALSE NEIGHBOUR: 'it returns false'. Refute it at one input. -/
def fnExactSyncWrong : ChangeSpec := { name := "fnExactSync", fn := fun _ => fun
  | [d] => { results := [.lit (.bool false)], args := [d] }
  | _ => none }
def FnExactSyncWrongFalsely : Prop := fnExactSyncRow.holds Try.pinned (OpenSpec.ofChange fnExactSyncWrong)

/-- 'laws.FnExactCrash': WHATEVER THE INPUT: true; the input reads as it did. -/
def fnExactCrashSpec : ChangeSpec := { name := "fnExactCrash", fn := fun _ => fun
  | [d1, d2] => { results := [.lit (.bool true)], args := [d1, d2] }
  | _ => none }
def fnExactCrashRow : OpenClaim := { program := "ytpnblgbkjbpeoaa", sum := "2d017312bf834e35dd6da9118378f419f95a4ef7c4d369d69a659e8e999d6454", func := "loop.example/kilnvault/laws.FnExactCrash", spec := "fnExactCrash", apart := false }
def FnExactCrashSaid : Prop := fnExactCrashRow.holds Try.pinned (OpenSpec.ofChange fnExactCrashSpec)

/-- ITS FALSE NEIGHBOUR: 'it returns false'. Refute it at one input. -/
def fnExactCrashWrong : ChangeSpec := { name := "fnExactCrash", fn := fun _ => fun
  | [d1, d2] => { results := [.lit (.bool false)], args := [d1, d2] }
  | _ => none }
def FnExactCrashWrongFalsely : Prop := fnExactCrashRow.holds Try.pinned (OpenSpec.ofChange fnExactCrashWrong)

/-- 'laws.FnExactAppend': WHATEVER THE INPUT: true; the input reads as it did. -/
def fnExactAppendSpec : ChangeSpec := { name := "fnExactAppend", fn := fun _ => fun
  | [d1, d2] => { results := [.lit (.bool true)], args := [d1, d2] }
  | _ => none }
def fnExactAppendRow : OpenClaim := { program := "ytpnblgbkjbpeoaa", sum := "2d017312bf834e35dd6da9118378f419f95a4ef7c4d369d69a659e8e999d6454", func := "loop.example/kilnvault/laws.FnExactAppend", spec := "fnExactAppend", apart := false }
def FnExactAppendSaid : Prop := fnExactAppendRow.holds Try.pinned (OpenSpec.ofChange fnExactAppendSpec)

/-- ITS FALSE NEIGHBOUR: 'it returns false'. Refute it at one input. -/
def fnExactAppendWrong : ChangeSpec := { name := "fnExactAppend", fn := fun _ => fun
  | [d1, d2] => { results := [.lit (.bool false)], args := [d1, d2] }
  | _ => none }
def FnExactAppendWrongFalsely : Prop := fnExactAppendRow.holds Try.pinned (OpenSpec.ofChange fnExactAppendWrong)

/-- 'laws.FnLog': WHATEVER THE INPUT: true; the input reads as it did. -/
def fnLogSpec : ChangeSpec := { name := "fnLog", fn := fun _ => fun
  | [d] => { results := [.lit (.bool true)], args := [d] }
  | _ => none }
def fnLogRow : OpenClaim := { program := "ytpnblgbkjbpeoaa", sum := "2d017312bf834e35dd6da9118378f419f95a4ef7c4d369d69a659e8e999d6454", func := "loop.example/kilnvault/laws.FnLog", spec := "fnLog", apart := false }
def FnLogSaid : Prop := fnLogRow.holds Try.pinned (OpenSpec.ofChange fnLogSpec)

/-- ITS FALSE NEIGHBOUR: 'it returns false'. Refute it at one input. -/
def fnLogWrong : ChangeSpec := { name := "fnLog", fn := fun _ => fun
  | [d] => { results := [.lit (.bool false)], args := [d] }
  | _ => none }
def FnLogWrongFalsely : Prop := fnLogRow.holds Try.pinned (OpenSpec.ofChange fnLogWrong)

/-- 'laws.FnExactFormEntry': WHATEVER THE INPUT: true; the input reads as it did. -/
def fnExactFormEntrySpec : ChangeSpec := { name := "fnExactFormEntry", fn := fun _ => fun
  | [d1, d2] => { results := [.lit (.bool true)], args := [d1, d2] }
  | _ => none }
def fnExactFormEntryRow : OpenClaim := { program := "ytpnblgbkjbpeoaa", sum := "2d017312bf834e35dd6da9118378f419f95a4ef7c4d369d69a659e8e999d6454", func := "loop.example/kilnvault/laws.FnExactFormEntry", spec := "fnExactFormEntry", named := ["encoding/binary.BigEndian"], apart := false }
def FnExactFormEntrySaid : Prop := fnExactFormEntryRow.holds Try.pinned (OpenSpec.ofChange fnExactFormEntrySpec)

/-- ITS FALSE NEIGHBOUR: 'it returns false'. Refute it at one input. -/
def fnExactFormEntryWrong : ChangeSpec := { name := "fnExactFormEntry", fn := fun _ => fun
  | [d1, d2] => { results := [.lit (.bool false)], args := [d1, d2] }
  | _ => none }
def FnExactFormEntryWrongFalsely : Prop := fnExactFormEntryRow.holds Try.pinned (OpenSpec.ofChange fnExactFormEntryWrong)

/-- 'laws.FnExactReadEntry': WHATEVER THE INPUT: true; the input reads as it did. -/
def fnExactReadEntrySpec : ChangeSpec := { name := "fnExactReadEntry", fn := fun _ => fun
  | [d1, d2] => { results := [.lit (.bool true)], args := [d1, d2] }
  | _ => none }
def fnExactReadEntryRow : OpenClaim := { program := "ytpnblgbkjbpeoaa", sum := "2d017312bf834e35dd6da9118378f419f95a4ef7c4d369d69a659e8e999d6454", func := "loop.example/kilnvault/laws.FnExactReadEntry", spec := "fnExactReadEntry", named := ["encoding/binary.BigEndian"], apart := false }
def FnExactReadEntrySaid : Prop := fnExactReadEntryRow.holds Try.pinned (OpenSpec.ofChange fnExactReadEntrySpec)

/-- ITS FALSE NEIGHBOUR: 'it returns false'. Refute it at one input. -/
def fnExactReadEntryWrong : ChangeSpec := { name := "fnExactReadEntry", fn := fun _ => fun
  | [d1, d2] => { results := [.lit (.bool false)], args := [d1, d2] }
  | _ => none }
def FnExactReadEntryWrongFalsely : Prop := fnExactReadEntryRow.holds Try.pinned (OpenSpec.ofChange fnExactReadEntryWrong)

/-- 'laws.FnForms': WHATEVER THE INPUT: true; the input reads as it did. -/
def fnFormsSpec : ChangeSpec := { name := "fnForms", fn := fun _ => fun
  | [d] => { results := [.lit (.bool true)], args := [d] }
  | _ => none }
def fnFormsRow : OpenClaim := { program := "ytpnblgbkjbpeoaa", sum := "2d017312bf834e35dd6da9118378f419f95a4ef7c4d369d69a659e8e999d6454", func := "loop.example/kilnvault/laws.FnForms", spec := "fnForms", named := ["encoding/binary.BigEndian"], apart := false }
def FnFormsSaid : Prop := fnFormsRow.holds Try.pinned (OpenSpec.ofChange fnFormsSpec)

/-- ITS FALSE NEIGHBOUR: 'it returns false'. Refute it at one input. -/
def fnFormsWrong : ChangeSpec := { name := "fnForms", fn := fun _ => fun
  | [d] => { results := [.lit (.bool false)], args := [d] }
  | _ => none }
def FnFormsWrongFalsely : Prop := fnFormsRow.holds Try.pinned (OpenSpec.ofChange fnFormsWrong)

/- THE SECOND FORM. 'bulk': how many values and letters a reading holds, each counted each time it is reached (what is shared counts as often as it is met; a slice's spare places count too). A statement '..UptoSaid' is the law's where the arguments, and the package variables that the reading takes, are together of bulk at most 1048576: NARROWER than '..Said'. Prove '..Said' where nothing that the law and all that it calls make is longer than what came in: it says more and counts as full. Else prove '..UptoSaid'. A law counts once. -/
mutual
def uptoBulk {H : Type} : DataW H → Nat
  | .lit (.string bytes) => bytes.length + 1
  | .lit _ => 1
  | .nil => 1
  | .ptr d => uptoBulk d + 1
  | .slice elems spare => uptoBulkAll elems + uptoBulkAll spare + 1
  | .agg parts => uptoBulkAll parts + 1
  | .iface _ d => uptoBulk d + 1
  | .map entries => uptoBulkEntries entries + 1
  | .held _ => 1
def uptoBulkAll {H : Type} : List (DataW H) → Nat
  | [] => 0
  | d :: r => uptoBulk d + uptoBulkAll r
def uptoBulkEntries {H : Type} : List (Lit × DataW H) → Nat
  | [] => 0
  | x :: r => uptoBulkEntry x + uptoBulkEntries r
def uptoBulkEntry {H : Type} : Lit × DataW H → Nat
  | (.string bytes, d) => bytes.length + uptoBulk d + 1
  | (_, d) => uptoBulk d + 1
 end
def uptoSmall : (H : Type) → List (DataW H) → Bool := fun _ ds => decide (uptoBulkAll ds ≤ 1048576)
def OpenSpec.upto (s : _root_.Go.ChangeSpec) : _root_.Go.OpenSpec := { _root_.Go.OpenSpec.ofChange s with cond := some uptoSmall }

/-- 'laws.FnExactConstants', WHERE WHAT IT READS IS OF BULK AT MOST 1048576: true; the input reads as it did. -/
def fnExactConstantsUptoRow : OpenClaim := { program := "ytpnblgbkjbpeoaa", sum := "2d017312bf834e35dd6da9118378f419f95a4ef7c4d369d69a659e8e999d6454", func := "loop.example/kilnvault/laws.FnExactConstants", spec := "fnExactConstants", apart := false, narrowed := true }
def FnExactConstantsUptoSaid : Prop := fnExactConstantsUptoRow.holds Try.pinned (OpenSpec.upto fnExactConstantsSpec)

/-- 'laws.FnExactSum', WHERE WHAT IT READS IS OF BULK AT MOST 1048576: true; the input reads as it did. -/
def fnExactSumUptoRow : OpenClaim := { program := "ytpnblgbkjbpeoaa", sum := "2d017312bf834e35dd6da9118378f419f95a4ef7c4d369d69a659e8e999d6454", func := "loop.example/kilnvault/laws.FnExactSum", spec := "fnExactSum", apart := false, narrowed := true }
def FnExactSumUptoSaid : Prop := fnExactSumUptoRow.holds Try.pinned (OpenSpec.upto fnExactSumSpec)

/-- 'laws.FnExactValidLog', WHERE WHAT IT READS IS OF BULK AT MOST 1048576: true; the input reads as it did. -/
def fnExactValidLogUptoRow : OpenClaim := { program := "ytpnblgbkjbpeoaa", sum := "2d017312bf834e35dd6da9118378f419f95a4ef7c4d369d69a659e8e999d6454", func := "loop.example/kilnvault/laws.FnExactValidLog", spec := "fnExactValidLog", apart := false, narrowed := true }
def FnExactValidLogUptoSaid : Prop := fnExactValidLogUptoRow.holds Try.pinned (OpenSpec.upto fnExactValidLogSpec)

/-- 'laws.FnExactFormThing', WHERE WHAT IT READS IS OF BULK AT MOST 1048576: true; the input reads as it did. -/
def fnExactFormThingUptoRow : OpenClaim := { program := "ytpnblgbkjbpeoaa", sum := "2d017312bf834e35dd6da9118378f419f95a4ef7c4d369d69a659e8e999d6454", func := "loop.example/kilnvault/laws.FnExactFormThing", spec := "fnExactFormThing", apart := false, narrowed := true }
def FnExactFormThingUptoSaid : Prop := fnExactFormThingUptoRow.holds Try.pinned (OpenSpec.upto fnExactFormThingSpec)

/-- 'laws.FnExactReadThing', WHERE WHAT IT READS IS OF BULK AT MOST 1048576: true; the input reads as it did. -/
def fnExactReadThingUptoRow : OpenClaim := { program := "ytpnblgbkjbpeoaa", sum := "2d017312bf834e35dd6da9118378f419f95a4ef7c4d369d69a659e8e999d6454", func := "loop.example/kilnvault/laws.FnExactReadThing", spec := "fnExactReadThing", apart := false, narrowed := true }
def FnExactReadThingUptoSaid : Prop := fnExactReadThingUptoRow.holds Try.pinned (OpenSpec.upto fnExactReadThingSpec)

/-- 'laws.FnExactSync', WHERE WHAT IT READS IS OF BULK AT MOST 1048576: true; the input reads as it did. -/
def fnExactSyncUptoRow : OpenClaim := { program := "ytpnblgbkjbpeoaa", sum := "2d017312bf834e35dd6da9118378f419f95a4ef7c4d369d69a659e8e999d6454", func := "loop.example/kilnvault/laws.FnExactSync", spec := "fnExactSync", apart := false, narrowed := true }
def FnExactSyncUptoSaid : Prop := fnExactSyncUptoRow.holds Try.pinned (OpenSpec.upto fnExactSyncSpec)

/-- 'laws.FnExactCrash', WHERE WHAT IT READS IS OF BULK AT MOST 1048576: true; the input reads as it did. -/
def fnExactCrashUptoRow : OpenClaim := { program := "ytpnblgbkjbpeoaa", sum := "2d017312bf834e35dd6da9118378f419f95a4ef7c4d369d69a659e8e999d6454", func := "loop.example/kilnvault/laws.FnExactCrash", spec := "fnExactCrash", apart := false, narrowed := true }
def FnExactCrashUptoSaid : Prop := fnExactCrashUptoRow.holds Try.pinned (OpenSpec.upto fnExactCrashSpec)

/-- 'laws.FnExactAppend', WHERE WHAT IT READS IS OF BULK AT MOST 1048576: true; the input reads as it did. -/
def fnExactAppendUptoRow : OpenClaim := { program := "ytpnblgbkjbpeoaa", sum := "2d017312bf834e35dd6da9118378f419f95a4ef7c4d369d69a659e8e999d6454", func := "loop.example/kilnvault/laws.FnExactAppend", spec := "fnExactAppend", apart := false, narrowed := true }
def FnExactAppendUptoSaid : Prop := fnExactAppendUptoRow.holds Try.pinned (OpenSpec.upto fnExactAppendSpec)

/-- 'laws.FnLog', WHERE WHAT IT READS IS OF BULK AT MOST 1048576: true; the input reads as it did. -/
def fnLogUptoRow : OpenClaim := { program := "ytpnblgbkjbpeoaa", sum := "2d017312bf834e35dd6da9118378f419f95a4ef7c4d369d69a659e8e999d6454", func := "loop.example/kilnvault/laws.FnLog", spec := "fnLog", apart := false, narrowed := true }
def FnLogUptoSaid : Prop := fnLogUptoRow.holds Try.pinned (OpenSpec.upto fnLogSpec)

/-- 'laws.FnExactFormEntry', WHERE WHAT IT READS IS OF BULK AT MOST 1048576: true; the input reads as it did. -/
def fnExactFormEntryUptoRow : OpenClaim := { program := "ytpnblgbkjbpeoaa", sum := "2d017312bf834e35dd6da9118378f419f95a4ef7c4d369d69a659e8e999d6454", func := "loop.example/kilnvault/laws.FnExactFormEntry", spec := "fnExactFormEntry", named := ["encoding/binary.BigEndian"], apart := false, narrowed := true }
def FnExactFormEntryUptoSaid : Prop := fnExactFormEntryUptoRow.holds Try.pinned (OpenSpec.upto fnExactFormEntrySpec)

/-- 'laws.FnExactReadEntry', WHERE WHAT IT READS IS OF BULK AT MOST 1048576: true; the input reads as it did. -/
def fnExactReadEntryUptoRow : OpenClaim := { program := "ytpnblgbkjbpeoaa", sum := "2d017312bf834e35dd6da9118378f419f95a4ef7c4d369d69a659e8e999d6454", func := "loop.example/kilnvault/laws.FnExactReadEntry", spec := "fnExactReadEntry", named := ["encoding/binary.BigEndian"], apart := false, narrowed := true }
def FnExactReadEntryUptoSaid : Prop := fnExactReadEntryUptoRow.holds Try.pinned (OpenSpec.upto fnExactReadEntrySpec)

/-- 'laws.FnForms', WHERE WHAT IT READS IS OF BULK AT MOST 1048576: true; the input reads as it did. -/
def fnFormsUptoRow : OpenClaim := { program := "ytpnblgbkjbpeoaa", sum := "2d017312bf834e35dd6da9118378f419f95a4ef7c4d369d69a659e8e999d6454", func := "loop.example/kilnvault/laws.FnForms", spec := "fnForms", named := ["encoding/binary.BigEndian"], apart := false, narrowed := true }
def FnFormsUptoSaid : Prop := fnFormsUptoRow.holds Try.pinned (OpenSpec.upto fnFormsSpec)

end Rows
end Go.Proofs.Ytpnblgbkjbpeoaa
