/-
  No cell of these rows narrows 'for every input' (looked for: loops, veiled, ifaces, maps, wideKeys, modest, calm, conditions, laid).
  DERIVED. THE GIVEN ROWS OF THIS SEAT. 12 by the template 'for every input the law returns true; each argument reads behind the call as it read before'; 0 by the template 'total and deterministic' (their statements: YtebgehgkmadppaaTotals.lean).
  GIVEN WITH THE SEED: the statements are not yours to turn. If you find one false, say at which input.
  Laid BY PROGRAM, IN A SANDBOX (cutbox-rows.mjs): the forced cells as the released guide's own fill.sh prints them over the translation 8f34161c2e93f026… (all of the seat's roots in one cut). By AI agents, Wed Nov 11 2026. No macro, syntax, notation, axiom, sorry.
-/
import Derived.Test.YtebgehgkmadppaaChecked
import GoSem.Claim
import GoSem.ClaimJoined
import GoSem.ClaimMapViews
import Derived.JoinedTies
import Derived.KernelRfl
namespace Go.Proofs.Ytebgehgkmadppaa
/- THE CELL 'sum', in the pinned program and in every row, IS THE sha256 OF THE DUMP (.gsa) THAT YtebgehgkmadppaaProg.lean LOADS. Nothing in Lean hashes anything: it is a label: what it is worth is what the hold of that sum in a sandbox is worth. -/
noncomputable def Try.pinned : Pinned := { name := "ytebgehgkmadppaa", sum := "8f34161c2e93f026c4e33ae56162f5a660c45a0e641a653108dcd493c6c570e8", checked := Try.checked }
namespace Rows
def none {H : Type} : Left H := { results := [], args := [] }

/-- 'laws.FnExactBoxOK': WHATEVER THE INPUT: true; the input reads as it did. -/
def fnExactBoxOKSpec : ChangeSpec := { name := "fnExactBoxOK", fn := fun _ => fun
  | [d] => { results := [.lit (.bool true)], args := [d] }
  | _ => none }
def fnExactBoxOKRow : OpenClaim := { program := "ytebgehgkmadppaa", sum := "8f34161c2e93f026c4e33ae56162f5a660c45a0e641a653108dcd493c6c570e8", func := "loop.example/g00268/laws.FnExactBoxOK", spec := "fnExactBoxOK", apart := false }
def FnExactBoxOKSaid : Prop := fnExactBoxOKRow.holds Try.pinned (OpenSpec.ofChange fnExactBoxOKSpec)

/-- ITS FALSE NEIGHBOUR: 'it returns false'. Refute it at one input. -/
def fnExactBoxOKWrong : ChangeSpec := { name := "fnExactBoxOK", fn := fun _ => fun
  | [d] => { results := [.lit (.bool false)], args := [d] }
  | _ => none }
def FnExactBoxOKWrongFalsely : Prop := fnExactBoxOKRow.holds Try.pinned (OpenSpec.ofChange fnExactBoxOKWrong)

/-- 'laws.FnExactCountFlag': WHATEVER THE INPUT: true; the input reads as it did. -/
def fnExactCountFlagSpec : ChangeSpec := { name := "fnExactCountFlag", fn := fun _ => fun
  | [d1, d2] => { results := [.lit (.bool true)], args := [d1, d2] }
  | _ => none }
def fnExactCountFlagRow : OpenClaim := { program := "ytebgehgkmadppaa", sum := "8f34161c2e93f026c4e33ae56162f5a660c45a0e641a653108dcd493c6c570e8", func := "loop.example/g00268/laws.FnExactCountFlag", spec := "fnExactCountFlag", apart := false }
def FnExactCountFlagSaid : Prop := fnExactCountFlagRow.holds Try.pinned (OpenSpec.ofChange fnExactCountFlagSpec)

/-- ITS FALSE NEIGHBOUR: 'it returns false'. Refute it at one input. -/
def fnExactCountFlagWrong : ChangeSpec := { name := "fnExactCountFlag", fn := fun _ => fun
  | [d1, d2] => { results := [.lit (.bool false)], args := [d1, d2] }
  | _ => none }
def FnExactCountFlagWrongFalsely : Prop := fnExactCountFlagRow.holds Try.pinned (OpenSpec.ofChange fnExactCountFlagWrong)

/-- 'laws.FnExactStoredAt': WHATEVER THE INPUT: true; the input reads as it did. -/
def fnExactStoredAtSpec : ChangeSpec := { name := "fnExactStoredAt", fn := fun _ => fun
  | [d1, d2] => { results := [.lit (.bool true)], args := [d1, d2] }
  | _ => none }
def fnExactStoredAtRow : OpenClaim := { program := "ytebgehgkmadppaa", sum := "8f34161c2e93f026c4e33ae56162f5a660c45a0e641a653108dcd493c6c570e8", func := "loop.example/g00268/laws.FnExactStoredAt", spec := "fnExactStoredAt", unfollowed := true, recurses := true, apart := false }
def FnExactStoredAtSaid : Prop := fnExactStoredAtRow.holds Try.pinned (OpenSpec.ofChange fnExactStoredAtSpec)

/-- ITS FALSE NEIGHBOUR: 'it returns false'. Refute it at one input. -/
def fnExactStoredAtWrong : ChangeSpec := { name := "fnExactStoredAt", fn := fun _ => fun
  | [d1, d2] => { results := [.lit (.bool false)], args := [d1, d2] }
  | _ => none }
def FnExactStoredAtWrongFalsely : Prop := fnExactStoredAtRow.holds Try.pinned (OpenSpec.ofChange fnExactStoredAtWrong)

/-- 'laws.FnExactReadMutation': WHATEVER THE INPUT: true; the input reads as it did. -/
def fnExactReadMutationSpec : ChangeSpec := { name := "fnExactReadMutation", fn := fun _ => fun
  | [d] => { results := [.lit (.bool true)], args := [d] }
  | _ => none }
def fnExactReadMutationRow : OpenClaim := { program := "ytebgehgkmadppaa", sum := "8f34161c2e93f026c4e33ae56162f5a660c45a0e641a653108dcd493c6c570e8", func := "loop.example/g00268/laws.FnExactReadMutation", spec := "fnExactReadMutation", unfollowed := true, recurses := true, apart := false }
def FnExactReadMutationSaid : Prop := fnExactReadMutationRow.holds Try.pinned (OpenSpec.ofChange fnExactReadMutationSpec)

/-- ITS FALSE NEIGHBOUR: 'it returns false'. Refute it at one input. -/
def fnExactReadMutationWrong : ChangeSpec := { name := "fnExactReadMutation", fn := fun _ => fun
  | [d] => { results := [.lit (.bool false)], args := [d] }
  | _ => none }
def FnExactReadMutationWrongFalsely : Prop := fnExactReadMutationRow.holds Try.pinned (OpenSpec.ofChange fnExactReadMutationWrong)

/-- 'laws.FnExactStoreOK': WHATEVER THE INPUT: true; the input reads as it did. -/
def fnExactStoreOKSpec : ChangeSpec := { name := "fnExactStoreOK", fn := fun _ => fun
  | [d] => { results := [.lit (.bool true)], args := [d] }
  | _ => none }
def fnExactStoreOKRow : OpenClaim := { program := "ytebgehgkmadppaa", sum := "8f34161c2e93f026c4e33ae56162f5a660c45a0e641a653108dcd493c6c570e8", func := "loop.example/g00268/laws.FnExactStoreOK", spec := "fnExactStoreOK", unfollowed := true, recurses := true, apart := false }
def FnExactStoreOKSaid : Prop := fnExactStoreOKRow.holds Try.pinned (OpenSpec.ofChange fnExactStoreOKSpec)

/-- ITS FALSE NEIGHBOUR: 'it returns false'. Refute it at one input. -/
def fnExactStoreOKWrong : ChangeSpec := { name := "fnExactStoreOK", fn := fun _ => fun
  | [d] => { results := [.lit (.bool false)], args := [d] }
  | _ => none }
def FnExactStoreOKWrongFalsely : Prop := fnExactStoreOKRow.holds Try.pinned (OpenSpec.ofChange fnExactStoreOKWrong)

/-- 'laws.FnExactMutationBytes': WHATEVER THE INPUT: true; the input reads as it did. -/
def fnExactMutationBytesSpec : ChangeSpec := { name := "fnExactMutationBytes", fn := fun _ => fun
  | [d] => { results := [.lit (.bool true)], args := [d] }
  | _ => none }
def fnExactMutationBytesRow : OpenClaim := { program := "ytebgehgkmadppaa", sum := "8f34161c2e93f026c4e33ae56162f5a660c45a0e641a653108dcd493c6c570e8", func := "loop.example/g00268/laws.FnExactMutationBytes", spec := "fnExactMutationBytes", inPlace := ["internal/abi.NoEscape"], unfollowed := true, recurses := true, apart := false }
def FnExactMutationBytesSaid : Prop := fnExactMutationBytesRow.holds Try.pinned (OpenSpec.ofChange fnExactMutationBytesSpec)

/-- ITS FALSE NEIGHBOUR: 'it returns false'. Refute it at one input. -/
def fnExactMutationBytesWrong : ChangeSpec := { name := "fnExactMutationBytes", fn := fun _ => fun
  | [d] => { results := [.lit (.bool false)], args := [d] }
  | _ => none }
def FnExactMutationBytesWrongFalsely : Prop := fnExactMutationBytesRow.holds Try.pinned (OpenSpec.ofChange fnExactMutationBytesWrong)

/-- 'laws.FnExactSameStore': WHATEVER THE INPUT: true; the input reads as it did. -/
def fnExactSameStoreSpec : ChangeSpec := { name := "fnExactSameStore", fn := fun _ => fun
  | [d1, d2] => { results := [.lit (.bool true)], args := [d1, d2] }
  | _ => none }
def fnExactSameStoreRow : OpenClaim := { program := "ytebgehgkmadppaa", sum := "8f34161c2e93f026c4e33ae56162f5a660c45a0e641a653108dcd493c6c570e8", func := "loop.example/g00268/laws.FnExactSameStore", spec := "fnExactSameStore", unfollowed := true, recurses := true, apart := false }
def FnExactSameStoreSaid : Prop := fnExactSameStoreRow.holds Try.pinned (OpenSpec.ofChange fnExactSameStoreSpec)

/-- ITS FALSE NEIGHBOUR: 'it returns false'. Refute it at one input. -/
def fnExactSameStoreWrong : ChangeSpec := { name := "fnExactSameStore", fn := fun _ => fun
  | [d1, d2] => { results := [.lit (.bool false)], args := [d1, d2] }
  | _ => none }
def FnExactSameStoreWrongFalsely : Prop := fnExactSameStoreRow.holds Try.pinned (OpenSpec.ofChange fnExactSameStoreWrong)

/-- 'laws.FnExactBoxAt': WHATEVER THE INPUT: true; the input reads as it did. -/
def fnExactBoxAtSpec : ChangeSpec := { name := "fnExactBoxAt", fn := fun _ => fun
  | [d1, d2] => { results := [.lit (.bool true)], args := [d1, d2] }
  | _ => none }
def fnExactBoxAtRow : OpenClaim := { program := "ytebgehgkmadppaa", sum := "8f34161c2e93f026c4e33ae56162f5a660c45a0e641a653108dcd493c6c570e8", func := "loop.example/g00268/laws.FnExactBoxAt", spec := "fnExactBoxAt", unfollowed := true, recurses := true, apart := false }
def FnExactBoxAtSaid : Prop := fnExactBoxAtRow.holds Try.pinned (OpenSpec.ofChange fnExactBoxAtSpec)

/-- ITS FALSE NEIGHBOUR: 'it returns false'. Refute it at one input. -/
def fnExactBoxAtWrong : ChangeSpec := { name := "fnExactBoxAt", fn := fun _ => fun
  | [d1, d2] => { results := [.lit (.bool false)], args := [d1, d2] }
  | _ => none }
def FnExactBoxAtWrongFalsely : Prop := fnExactBoxAtRow.holds Try.pinned (OpenSpec.ofChange fnExactBoxAtWrong)

/-- 'laws.FnMutations': WHATEVER THE INPUT: true; the input reads as it did. -/
def fnMutationsSpec : ChangeSpec := { name := "fnMutations", fn := fun _ => fun
  | [d1, d2] => { results := [.lit (.bool true)], args := [d1, d2] }
  | _ => none }
def fnMutationsRow : OpenClaim := { program := "ytebgehgkmadppaa", sum := "8f34161c2e93f026c4e33ae56162f5a660c45a0e641a653108dcd493c6c570e8", func := "loop.example/g00268/laws.FnMutations", spec := "fnMutations", inPlace := ["internal/abi.NoEscape"], unfollowed := true, recurses := true, apart := false }
def FnMutationsSaid : Prop := fnMutationsRow.holds Try.pinned (OpenSpec.ofChange fnMutationsSpec)

/-- ITS FALSE NEIGHBOUR: 'it returns false'. Refute it at one input. -/
def fnMutationsWrong : ChangeSpec := { name := "fnMutations", fn := fun _ => fun
  | [d1, d2] => { results := [.lit (.bool false)], args := [d1, d2] }
  | _ => none }
def FnMutationsWrongFalsely : Prop := fnMutationsRow.holds Try.pinned (OpenSpec.ofChange fnMutationsWrong)

/-- 'laws.FnExactReplayLog': WHATEVER THE INPUT: true; the input reads as it did. -/
def fnExactReplayLogSpec : ChangeSpec := { name := "fnExactReplayLog", fn := fun _ => fun
  | [d] => { results := [.lit (.bool true)], args := [d] }
  | _ => none }
def fnExactReplayLogRow : OpenClaim := { program := "ytebgehgkmadppaa", sum := "8f34161c2e93f026c4e33ae56162f5a660c45a0e641a653108dcd493c6c570e8", func := "loop.example/g00268/laws.FnExactReplayLog", spec := "fnExactReplayLog", unfollowed := true, recurses := true, apart := false }
def FnExactReplayLogSaid : Prop := fnExactReplayLogRow.holds Try.pinned (OpenSpec.ofChange fnExactReplayLogSpec)

/-- ITS FALSE NEIGHBOUR: 'it returns false'. Refute it at one input. -/
def fnExactReplayLogWrong : ChangeSpec := { name := "fnExactReplayLog", fn := fun _ => fun
  | [d] => { results := [.lit (.bool false)], args := [d] }
  | _ => none }
def FnExactReplayLogWrongFalsely : Prop := fnExactReplayLogRow.holds Try.pinned (OpenSpec.ofChange fnExactReplayLogWrong)

/-- 'laws.FnExactApplyMutation': WHATEVER THE INPUT: true; the input reads as it did. -/
def fnExactApplyMutationSpec : ChangeSpec := { name := "fnExactApplyMutation", fn := fun _ => fun
  | [d1, d2] => { results := [.lit (.bool true)], args := [d1, d2] }
  | _ => none }
def fnExactApplyMutationRow : OpenClaim := { program := "ytebgehgkmadppaa", sum := "8f34161c2e93f026c4e33ae56162f5a660c45a0e641a653108dcd493c6c570e8", func := "loop.example/g00268/laws.FnExactApplyMutation", spec := "fnExactApplyMutation", unfollowed := true, recurses := true, apart := false }
def FnExactApplyMutationSaid : Prop := fnExactApplyMutationRow.holds Try.pinned (OpenSpec.ofChange fnExactApplyMutationSpec)

/-- ITS FALSE NEIGHBOUR: 'it returns false'. Refute it at one input. -/
def fnExactApplyMutationWrong : ChangeSpec := { name := "fnExactApplyMutation", fn := fun _ => fun
  | [d1, d2] => { results := [.lit (.bool false)], args := [d1, d2] }
  | _ => none }
def FnExactApplyMutationWrongFalsely : Prop := fnExactApplyMutationRow.holds Try.pinned (OpenSpec.ofChange fnExactApplyMutationWrong)

/-- 'laws.FnStore': WHATEVER THE INPUT: true; the input reads as it did. -/
def fnStoreSpec : ChangeSpec := { name := "fnStore", fn := fun _ => fun
  | [d] => { results := [.lit (.bool true)], args := [d] }
  | _ => none }
def fnStoreRow : OpenClaim := { program := "ytebgehgkmadppaa", sum := "8f34161c2e93f026c4e33ae56162f5a660c45a0e641a653108dcd493c6c570e8", func := "loop.example/g00268/laws.FnStore", spec := "fnStore", unfollowed := true, recurses := true, apart := false }
def FnStoreSaid : Prop := fnStoreRow.holds Try.pinned (OpenSpec.ofChange fnStoreSpec)

/-- ITS FALSE NEIGHBOUR: 'it returns false'. Refute it at one input. -/
def fnStoreWrong : ChangeSpec := { name := "fnStore", fn := fun _ => fun
  | [d] => { results := [.lit (.bool false)], args := [d] }
  | _ => none }
def FnStoreWrongFalsely : Prop := fnStoreRow.holds Try.pinned (OpenSpec.ofChange fnStoreWrong)

/- THE SECOND FORM. 'bulk': how many values and letters a reading holds, each counted each time it is reached (what is shared counts as often as it is met; a slice's spare places count too). A statement '..UptoSaid' is the law's where the arguments, and the package variables that the reading takes, are together of bulk at most 1048576: NARROWER than '..Said'. Prove '..Said' where nothing that the law and all that it calls make is longer than what came in: it says more and counts as full. Else prove '..UptoSaid'. A law counts once. -/
mutual
def uptoBulk {H : Type} : DataW H → Nat
  | .lit (.string bytes) => bytes.length + 1
  | .lit _ => 1
  | .nil => 1
  | .ptr d => uptoBulk d + 1
  | .slice elems spare => uptoBulkAll elems + uptoBulkAll spare + 1
  | .agg parts => uptoBulkAll parts + 1
  | .iface _ d => uptoBulk d + 1
  | .map entries => uptoBulkEntries entries + 1
  | .held _ => 1
def uptoBulkAll {H : Type} : List (DataW H) → Nat
  | [] => 0
  | d :: r => uptoBulk d + uptoBulkAll r
def uptoBulkEntries {H : Type} : List (Lit × DataW H) → Nat
  | [] => 0
  | x :: r => uptoBulkEntry x + uptoBulkEntries r
def uptoBulkEntry {H : Type} : Lit × DataW H → Nat
  | (.string bytes, d) => bytes.length + uptoBulk d + 1
  | (_, d) => uptoBulk d + 1
 end
def uptoSmall : (H : Type) → List (DataW H) → Bool := fun _ ds => decide (uptoBulkAll ds ≤ 1048576)
def OpenSpec.upto (s : _root_.Go.ChangeSpec) : _root_.Go.OpenSpec := { _root_.Go.OpenSpec.ofChange s with cond := some uptoSmall }

/-- 'laws.FnExactBoxOK', WHERE WHAT IT READS IS OF BULK AT MOST 1048576: true; the input reads as it did. -/
def fnExactBoxOKUptoRow : OpenClaim := { program := "ytebgehgkmadppaa", sum := "8f34161c2e93f026c4e33ae56162f5a660c45a0e641a653108dcd493c6c570e8", func := "loop.example/g00268/laws.FnExactBoxOK", spec := "fnExactBoxOK", apart := false, narrowed := true }
def FnExactBoxOKUptoSaid : Prop := fnExactBoxOKUptoRow.holds Try.pinned (OpenSpec.upto fnExactBoxOKSpec)

/-- 'laws.FnExactCountFlag', WHERE WHAT IT READS IS OF BULK AT MOST 1048576: true; the input reads as it did. -/
def fnExactCountFlagUptoRow : OpenClaim := { program := "ytebgehgkmadppaa", sum := "8f34161c2e93f026c4e33ae56162f5a660c45a0e641a653108dcd493c6c570e8", func := "loop.example/g00268/laws.FnExactCountFlag", spec := "fnExactCountFlag", apart := false, narrowed := true }
def FnExactCountFlagUptoSaid : Prop := fnExactCountFlagUptoRow.holds Try.pinned (OpenSpec.upto fnExactCountFlagSpec)

/-- 'laws.FnExactStoredAt', WHERE WHAT IT READS IS OF BULK AT MOST 1048576: true; the input reads as it did. -/
def fnExactStoredAtUptoRow : OpenClaim := { program := "ytebgehgkmadppaa", sum := "8f34161c2e93f026c4e33ae56162f5a660c45a0e641a653108dcd493c6c570e8", func := "loop.example/g00268/laws.FnExactStoredAt", spec := "fnExactStoredAt", unfollowed := true, recurses := true, apart := false, narrowed := true }
def FnExactStoredAtUptoSaid : Prop := fnExactStoredAtUptoRow.holds Try.pinned (OpenSpec.upto fnExactStoredAtSpec)

/-- 'laws.FnExactReadMutation', WHERE WHAT IT READS IS OF BULK AT MOST 1048576: true; the input reads as it did. -/
def fnExactReadMutationUptoRow : OpenClaim := { program := "ytebgehgkmadppaa", sum := "8f34161c2e93f026c4e33ae56162f5a660c45a0e641a653108dcd493c6c570e8", func := "loop.example/g00268/laws.FnExactReadMutation", spec := "fnExactReadMutation", unfollowed := true, recurses := true, apart := false, narrowed := true }
def FnExactReadMutationUptoSaid : Prop := fnExactReadMutationUptoRow.holds Try.pinned (OpenSpec.upto fnExactReadMutationSpec)

/-- 'laws.FnExactStoreOK', WHERE WHAT IT READS IS OF BULK AT MOST 1048576: true; the input reads as it did. -/
def fnExactStoreOKUptoRow : OpenClaim := { program := "ytebgehgkmadppaa", sum := "8f34161c2e93f026c4e33ae56162f5a660c45a0e641a653108dcd493c6c570e8", func := "loop.example/g00268/laws.FnExactStoreOK", spec := "fnExactStoreOK", unfollowed := true, recurses := true, apart := false, narrowed := true }
def FnExactStoreOKUptoSaid : Prop := fnExactStoreOKUptoRow.holds Try.pinned (OpenSpec.upto fnExactStoreOKSpec)

/-- 'laws.FnExactMutationBytes', WHERE WHAT IT READS IS OF BULK AT MOST 1048576: true; the input reads as it did. -/
def fnExactMutationBytesUptoRow : OpenClaim := { program := "ytebgehgkmadppaa", sum := "8f34161c2e93f026c4e33ae56162f5a660c45a0e641a653108dcd493c6c570e8", func := "loop.example/g00268/laws.FnExactMutationBytes", spec := "fnExactMutationBytes", inPlace := ["internal/abi.NoEscape"], unfollowed := true, recurses := true, apart := false, narrowed := true }
def FnExactMutationBytesUptoSaid : Prop := fnExactMutationBytesUptoRow.holds Try.pinned (OpenSpec.upto fnExactMutationBytesSpec)

/-- 'laws.FnExactSameStore', WHERE WHAT IT READS IS OF BULK AT MOST 1048576: true; the input reads as it did. -/
def fnExactSameStoreUptoRow : OpenClaim := { program := "ytebgehgkmadppaa", sum := "8f34161c2e93f026c4e33ae56162f5a660c45a0e641a653108dcd493c6c570e8", func := "loop.example/g00268/laws.FnExactSameStore", spec := "fnExactSameStore", unfollowed := true, recurses := true, apart := false, narrowed := true }
def FnExactSameStoreUptoSaid : Prop := fnExactSameStoreUptoRow.holds Try.pinned (OpenSpec.upto fnExactSameStoreSpec)

/-- 'laws.FnExactBoxAt', WHERE WHAT IT READS IS OF BULK AT MOST 1048576: true; the input reads as it did. -/
def fnExactBoxAtUptoRow : OpenClaim := { program := "ytebgehgkmadppaa", sum := "8f34161c2e93f026c4e33ae56162f5a660c45a0e641a653108dcd493c6c570e8", func := "loop.example/g00268/laws.FnExactBoxAt", spec := "fnExactBoxAt", unfollowed := true, recurses := true, apart := false, narrowed := true }
def FnExactBoxAtUptoSaid : Prop := fnExactBoxAtUptoRow.holds Try.pinned (OpenSpec.upto fnExactBoxAtSpec)

/-- 'laws.FnMutations', WHERE WHAT IT READS IS OF BULK AT MOST 1048576: true; the input reads as it did. -/
def fnMutationsUptoRow : OpenClaim := { program := "ytebgehgkmadppaa", sum := "8f34161c2e93f026c4e33ae56162f5a660c45a0e641a653108dcd493c6c570e8", func := "loop.example/g00268/laws.FnMutations", spec := "fnMutations", inPlace := ["internal/abi.NoEscape"], unfollowed := true, recurses := true, apart := false, narrowed := true }
def FnMutationsUptoSaid : Prop := fnMutationsUptoRow.holds Try.pinned (OpenSpec.upto fnMutationsSpec)

/-- 'laws.FnExactReplayLog', WHERE WHAT IT READS IS OF BULK AT MOST 1048576: true; the input reads as it did. -/
def fnExactReplayLogUptoRow : OpenClaim := { program := "ytebgehgkmadppaa", sum := "8f34161c2e93f026c4e33ae56162f5a660c45a0e641a653108dcd493c6c570e8", func := "loop.example/g00268/laws.FnExactReplayLog", spec := "fnExactReplayLog", unfollowed := true, recurses := true, apart := false, narrowed := true }
def FnExactReplayLogUptoSaid : Prop := fnExactReplayLogUptoRow.holds Try.pinned (OpenSpec.upto fnExactReplayLogSpec)

/-- 'laws.FnExactApplyMutation', WHERE WHAT IT READS IS OF BULK AT MOST 1048576: true; the input reads as it did. -/
def fnExactApplyMutationUptoRow : OpenClaim := { program := "ytebgehgkmadppaa", sum := "8f34161c2e93f026c4e33ae56162f5a660c45a0e641a653108dcd493c6c570e8", func := "loop.example/g00268/laws.FnExactApplyMutation", spec := "fnExactApplyMutation", unfollowed := true, recurses := true, apart := false, narrowed := true }
def FnExactApplyMutationUptoSaid : Prop := fnExactApplyMutationUptoRow.holds Try.pinned (OpenSpec.upto fnExactApplyMutationSpec)

/-- 'laws.FnStore', WHERE WHAT IT READS IS OF BULK AT MOST 1048576: true; the input reads as it did. -/
def fnStoreUptoRow : OpenClaim := { program := "ytebgehgkmadppaa", sum := "8f34161c2e93f026c4e33ae56162f5a660c45a0e641a653108dcd493c6c570e8", func := "loop.example/g00268/laws.FnStore", spec := "fnStore", unfollowed := true, recurses := true, apart := false, narrowed := true }
def FnStoreUptoSaid : Prop := fnStoreUptoRow.holds Try.pinned (OpenSpec.upto fnStoreSpec)

end Rows
end Go.Proofs.Ytebgehgkmadppaa
