/-
  No cell of these rows narrows 'for every input' (looked for: loops, veiled, ifaces, maps, wideKeys, modest, calm, conditions, laid).
  DERIVED. THE GIVEN ROWS OF THIS SEAT. 12 by the template 'for every input the law returns true; each argument reads behind the call as it read before'; 0 by the template 'total and deterministic' (their statements: YtejdnbdppgakeaaTotals.lean).
  GIVEN WITH THE SEED: the statements are not yours to turn. If you find one false, say at which input.
  Laid BY PROGRAM, IN A SANDBOX (cutbox-rows.mjs): the forced cells as the released guide's own fill.sh prints them over the translation 4baabcd8b8253135… (all of the seat's roots in one cut). By AI agents, Wed Nov 11 2026. No macro, syntax, notation, axiom, sorry.
-/
import Derived.Test.YtejdnbdppgakeaaChecked
import GoSem.Claim
import GoSem.ClaimJoined
import GoSem.ClaimMapViews
import Derived.JoinedTies
import Derived.KernelRfl
namespace Go.Proofs.Ytejdnbdppgakeaa
/- THE CELL 'sum', in the pinned program and in every row, IS THE sha256 OF THE DUMP (.gsa) THAT YtejdnbdppgakeaaProg.lean LOADS. Nothing in Lean hashes anything: it is a label: what it is worth is what the hold of that sum in a sandbox is worth. -/
noncomputable def Try.pinned : Pinned := { name := "ytejdnbdppgakeaa", sum := "4baabcd8b8253135482b76b701bb21d5036c479f27067062abc009da420f0668", checked := Try.checked }
namespace Rows
def none {H : Type} : Left H := { results := [], args := [] }

/-- 'laws.FnExactLogOK': WHATEVER THE INPUT: true; the input reads as it did. -/
def fnExactLogOKSpec : ChangeSpec := { name := "fnExactLogOK", fn := fun _ => fun
  | [d] => { results := [.lit (.bool true)], args := [d] }
  | _ => none }
def fnExactLogOKRow : OpenClaim := { program := "ytejdnbdppgakeaa", sum := "4baabcd8b8253135482b76b701bb21d5036c479f27067062abc009da420f0668", func := "loop.example/g00268/laws.FnExactLogOK", spec := "fnExactLogOK", apart := false }
def FnExactLogOKSaid : Prop := fnExactLogOKRow.holds Try.pinned (OpenSpec.ofChange fnExactLogOKSpec)

/-- ITS FALSE NEIGHBOUR: 'it returns false'. Refute it at one input. -/
def fnExactLogOKWrong : ChangeSpec := { name := "fnExactLogOK", fn := fun _ => fun
  | [d] => { results := [.lit (.bool false)], args := [d] }
  | _ => none }
def FnExactLogOKWrongFalsely : Prop := fnExactLogOKRow.holds Try.pinned (OpenSpec.ofChange fnExactLogOKWrong)

/-- 'laws.FnExactNewLog': WHATEVER THE INPUT: true; the input reads as it did. -/
def fnExactNewLogSpec : ChangeSpec := { name := "fnExactNewLog", fn := fun _ => fun
  | [d] => { results := [.lit (.bool true)], args := [d] }
  | _ => none }
def fnExactNewLogRow : OpenClaim := { program := "ytejdnbdppgakeaa", sum := "4baabcd8b8253135482b76b701bb21d5036c479f27067062abc009da420f0668", func := "loop.example/g00268/laws.FnExactNewLog", spec := "fnExactNewLog", apart := false }
def FnExactNewLogSaid : Prop := fnExactNewLogRow.holds Try.pinned (OpenSpec.ofChange fnExactNewLogSpec)

/-- ITS FALSE NEIGHBOUR: 'it returns false'. Refute it at one input. -/
def fnExactNewLogWrong : ChangeSpec := { name := "fnExactNewLog", fn := fun _ => fun
  | [d] => { results := [.lit (.bool false)], args := [d] }
  | _ => none }
def FnExactNewLogWrongFalsely : Prop := fnExactNewLogRow.holds Try.pinned (OpenSpec.ofChange fnExactNewLogWrong)

/-- 'laws.FnExactLogSync': WHATEVER THE INPUT: true; the input reads as it did. -/
def fnExactLogSyncSpec : ChangeSpec := { name := "fnExactLogSync", fn := fun _ => fun
  | [d] => { results := [.lit (.bool true)], args := [d] }
  | _ => none }
def fnExactLogSyncRow : OpenClaim := { program := "ytejdnbdppgakeaa", sum := "4baabcd8b8253135482b76b701bb21d5036c479f27067062abc009da420f0668", func := "loop.example/g00268/laws.FnExactLogSync", spec := "fnExactLogSync", apart := false }
def FnExactLogSyncSaid : Prop := fnExactLogSyncRow.holds Try.pinned (OpenSpec.ofChange fnExactLogSyncSpec)

/-- ITS FALSE NEIGHBOUR: 'it returns false'. Refute it at one input. -/
def fnExactLogSyncWrong : ChangeSpec := { name := "fnExactLogSync", fn := fun _ => fun
  | [d] => { results := [.lit (.bool false)], args := [d] }
  | _ => none }
def FnExactLogSyncWrongFalsely : Prop := fnExactLogSyncRow.holds Try.pinned (OpenSpec.ofChange fnExactLogSyncWrong)

/-- 'laws.FnExactNewImap': WHATEVER THE INPUT: true; the input reads as it did. -/
def fnExactNewImapSpec : ChangeSpec := { name := "fnExactNewImap", fn := fun _ => fun
  | [] => { results := [.lit (.bool true)], args := [] }
  | _ => none }
def fnExactNewImapRow : OpenClaim := { program := "ytejdnbdppgakeaa", sum := "4baabcd8b8253135482b76b701bb21d5036c479f27067062abc009da420f0668", func := "loop.example/g00268/laws.FnExactNewImap", spec := "fnExactNewImap", apart := false }
def FnExactNewImapSaid : Prop := fnExactNewImapRow.holds Try.pinned (OpenSpec.ofChange fnExactNewImapSpec)

/-- ITS FALSE NEIGHBOUR: 'it returns false'. Refute it at one input. -/
def fnExactNewImapWrong : ChangeSpec := { name := "fnExactNewImap", fn := fun _ => fun
  | [] => { results := [.lit (.bool false)], args := [] }
  | _ => none }
def FnExactNewImapWrongFalsely : Prop := fnExactNewImapRow.holds Try.pinned (OpenSpec.ofChange fnExactNewImapWrong)

/-- 'laws.FnExactFlagsText': WHATEVER THE INPUT: true; the input reads as it did. -/
def fnExactFlagsTextSpec : ChangeSpec := { name := "fnExactFlagsText", fn := fun _ => fun
  | [d] => { results := [.lit (.bool true)], args := [d] }
  | _ => none }
def fnExactFlagsTextRow : OpenClaim := { program := "ytejdnbdppgakeaa", sum := "4baabcd8b8253135482b76b701bb21d5036c479f27067062abc009da420f0668", func := "loop.example/g00268/laws.FnExactFlagsText", spec := "fnExactFlagsText", inPlace := ["internal/abi.NoEscape", "internal/bytealg.MakeNoZero"], apart := false }
def FnExactFlagsTextSaid : Prop := fnExactFlagsTextRow.holds Try.pinned (OpenSpec.ofChange fnExactFlagsTextSpec)

/-- ITS FALSE NEIGHBOUR: 'it returns false'. Refute it at one input. -/
def fnExactFlagsTextWrong : ChangeSpec := { name := "fnExactFlagsText", fn := fun _ => fun
  | [d] => { results := [.lit (.bool false)], args := [d] }
  | _ => none }
def FnExactFlagsTextWrongFalsely : Prop := fnExactFlagsTextRow.holds Try.pinned (OpenSpec.ofChange fnExactFlagsTextWrong)

/-- 'laws.FnExactSetHas': WHATEVER THE INPUT: true; the input reads as it did. -/
def fnExactSetHasSpec : ChangeSpec := { name := "fnExactSetHas", fn := fun _ => fun
  | [d1, d2, d3] => { results := [.lit (.bool true)], args := [d1, d2, d3] }
  | _ => none }
def fnExactSetHasRow : OpenClaim := { program := "ytejdnbdppgakeaa", sum := "4baabcd8b8253135482b76b701bb21d5036c479f27067062abc009da420f0668", func := "loop.example/g00268/laws.FnExactSetHas", spec := "fnExactSetHas", unfollowed := true, recurses := true, apart := false }
def FnExactSetHasSaid : Prop := fnExactSetHasRow.holds Try.pinned (OpenSpec.ofChange fnExactSetHasSpec)

/-- ITS FALSE NEIGHBOUR: 'it returns false'. Refute it at one input. -/
def fnExactSetHasWrong : ChangeSpec := { name := "fnExactSetHas", fn := fun _ => fun
  | [d1, d2, d3] => { results := [.lit (.bool false)], args := [d1, d2, d3] }
  | _ => none }
def FnExactSetHasWrongFalsely : Prop := fnExactSetHasRow.holds Try.pinned (OpenSpec.ofChange fnExactSetHasWrong)

/-- 'laws.FnExactLogAppend': WHATEVER THE INPUT: true; the input reads as it did. -/
def fnExactLogAppendSpec : ChangeSpec := { name := "fnExactLogAppend", fn := fun _ => fun
  | [d1, d2] => { results := [.lit (.bool true)], args := [d1, d2] }
  | _ => none }
def fnExactLogAppendRow : OpenClaim := { program := "ytejdnbdppgakeaa", sum := "4baabcd8b8253135482b76b701bb21d5036c479f27067062abc009da420f0668", func := "loop.example/g00268/laws.FnExactLogAppend", spec := "fnExactLogAppend", apart := false }
def FnExactLogAppendSaid : Prop := fnExactLogAppendRow.holds Try.pinned (OpenSpec.ofChange fnExactLogAppendSpec)

/-- ITS FALSE NEIGHBOUR: 'it returns false'. Refute it at one input. -/
def fnExactLogAppendWrong : ChangeSpec := { name := "fnExactLogAppend", fn := fun _ => fun
  | [d1, d2] => { results := [.lit (.bool false)], args := [d1, d2] }
  | _ => none }
def FnExactLogAppendWrongFalsely : Prop := fnExactLogAppendRow.holds Try.pinned (OpenSpec.ofChange fnExactLogAppendWrong)

/-- 'laws.FnExactImapOK': WHATEVER THE INPUT: true; the input reads as it did. -/
def fnExactImapOKSpec : ChangeSpec := { name := "fnExactImapOK", fn := fun _ => fun
  | [d] => { results := [.lit (.bool true)], args := [d] }
  | _ => none }
def fnExactImapOKRow : OpenClaim := { program := "ytejdnbdppgakeaa", sum := "4baabcd8b8253135482b76b701bb21d5036c479f27067062abc009da420f0668", func := "loop.example/g00268/laws.FnExactImapOK", spec := "fnExactImapOK", apart := false }
def FnExactImapOKSaid : Prop := fnExactImapOKRow.holds Try.pinned (OpenSpec.ofChange fnExactImapOKSpec)

/-- ITS FALSE NEIGHBOUR: 'it returns false'. Refute it at one input. -/
def fnExactImapOKWrong : ChangeSpec := { name := "fnExactImapOK", fn := fun _ => fun
  | [d] => { results := [.lit (.bool false)], args := [d] }
  | _ => none }
def FnExactImapOKWrongFalsely : Prop := fnExactImapOKRow.holds Try.pinned (OpenSpec.ofChange fnExactImapOKWrong)

/-- 'laws.FnExactMutationOK': WHATEVER THE INPUT: true; the input reads as it did. -/
def fnExactMutationOKSpec : ChangeSpec := { name := "fnExactMutationOK", fn := fun _ => fun
  | [d] => { results := [.lit (.bool true)], args := [d] }
  | _ => none }
def fnExactMutationOKRow : OpenClaim := { program := "ytejdnbdppgakeaa", sum := "4baabcd8b8253135482b76b701bb21d5036c479f27067062abc009da420f0668", func := "loop.example/g00268/laws.FnExactMutationOK", spec := "fnExactMutationOK", unfollowed := true, recurses := true, apart := false }
def FnExactMutationOKSaid : Prop := fnExactMutationOKRow.holds Try.pinned (OpenSpec.ofChange fnExactMutationOKSpec)

/-- ITS FALSE NEIGHBOUR: 'it returns false'. Refute it at one input. -/
def fnExactMutationOKWrong : ChangeSpec := { name := "fnExactMutationOK", fn := fun _ => fun
  | [d] => { results := [.lit (.bool false)], args := [d] }
  | _ => none }
def FnExactMutationOKWrongFalsely : Prop := fnExactMutationOKRow.holds Try.pinned (OpenSpec.ofChange fnExactMutationOKWrong)

/-- 'laws.FnExactLogRepair': WHATEVER THE INPUT: true; the input reads as it did. -/
def fnExactLogRepairSpec : ChangeSpec := { name := "fnExactLogRepair", fn := fun _ => fun
  | [d] => { results := [.lit (.bool true)], args := [d] }
  | _ => none }
def fnExactLogRepairRow : OpenClaim := { program := "ytejdnbdppgakeaa", sum := "4baabcd8b8253135482b76b701bb21d5036c479f27067062abc009da420f0668", func := "loop.example/g00268/laws.FnExactLogRepair", spec := "fnExactLogRepair", apart := false }
def FnExactLogRepairSaid : Prop := fnExactLogRepairRow.holds Try.pinned (OpenSpec.ofChange fnExactLogRepairSpec)

/-- ITS FALSE NEIGHBOUR: 'it returns false'. Refute it at one input. -/
def fnExactLogRepairWrong : ChangeSpec := { name := "fnExactLogRepair", fn := fun _ => fun
  | [d] => { results := [.lit (.bool false)], args := [d] }
  | _ => none }
def FnExactLogRepairWrongFalsely : Prop := fnExactLogRepairRow.holds Try.pinned (OpenSpec.ofChange fnExactLogRepairWrong)

/-- 'laws.FnExactLogRecords': WHATEVER THE INPUT: true; the input reads as it did. -/
def fnExactLogRecordsSpec : ChangeSpec := { name := "fnExactLogRecords", fn := fun _ => fun
  | [d] => { results := [.lit (.bool true)], args := [d] }
  | _ => none }
def fnExactLogRecordsRow : OpenClaim := { program := "ytejdnbdppgakeaa", sum := "4baabcd8b8253135482b76b701bb21d5036c479f27067062abc009da420f0668", func := "loop.example/g00268/laws.FnExactLogRecords", spec := "fnExactLogRecords", apart := false }
def FnExactLogRecordsSaid : Prop := fnExactLogRecordsRow.holds Try.pinned (OpenSpec.ofChange fnExactLogRecordsSpec)

/-- ITS FALSE NEIGHBOUR: 'it returns false'. Refute it at one input. -/
def fnExactLogRecordsWrong : ChangeSpec := { name := "fnExactLogRecords", fn := fun _ => fun
  | [d] => { results := [.lit (.bool false)], args := [d] }
  | _ => none }
def FnExactLogRecordsWrongFalsely : Prop := fnExactLogRecordsRow.holds Try.pinned (OpenSpec.ofChange fnExactLogRecordsWrong)

/-- 'laws.FnLog': WHATEVER THE INPUT: true; the input reads as it did. -/
def fnLogSpec : ChangeSpec := { name := "fnLog", fn := fun _ => fun
  | [d] => { results := [.lit (.bool true)], args := [d] }
  | _ => none }
def fnLogRow : OpenClaim := { program := "ytejdnbdppgakeaa", sum := "4baabcd8b8253135482b76b701bb21d5036c479f27067062abc009da420f0668", func := "loop.example/g00268/laws.FnLog", spec := "fnLog", apart := false }
def FnLogSaid : Prop := fnLogRow.holds Try.pinned (OpenSpec.ofChange fnLogSpec)

/-- ITS FALSE NEIGHBOUR: 'it returns false'. Refute it at one input. -/
def fnLogWrong : ChangeSpec := { name := "fnLog", fn := fun _ => fun
  | [d] => { results := [.lit (.bool false)], args := [d] }
  | _ => none }
def FnLogWrongFalsely : Prop := fnLogRow.holds Try.pinned (OpenSpec.ofChange fnLogWrong)

/- THE SECOND FORM. 'bulk': how many values and letters a reading holds, each counted each time it is reached (what is shared counts as often as it is met; a slice's spare places count too). A statement '..UptoSaid' is the law's where the arguments, and the package variables that the reading takes, are together of bulk at most 1048576: NARROWER than '..Said'. Prove '..Said' where nothing that the law and all that it calls make is longer than what came in: it says more and counts as full. Else prove '..UptoSaid'. A law counts once. -/
mutual
def uptoBulk {H : Type} : DataW H → Nat
  | .lit (.string bytes) => bytes.length + 1
  | .lit _ => 1
  | .nil => 1
  | .ptr d => uptoBulk d + 1
  | .slice elems spare => uptoBulkAll elems + uptoBulkAll spare + 1
  | .agg parts => uptoBulkAll parts + 1
  | .iface _ d => uptoBulk d + 1
  | .map entries => uptoBulkEntries entries + 1
  | .held _ => 1
def uptoBulkAll {H : Type} : List (DataW H) → Nat
  | [] => 0
  | d :: r => uptoBulk d + uptoBulkAll r
def uptoBulkEntries {H : Type} : List (Lit × DataW H) → Nat
  | [] => 0
  | x :: r => uptoBulkEntry x + uptoBulkEntries r
def uptoBulkEntry {H : Type} : Lit × DataW H → Nat
  | (.string bytes, d) => bytes.length + uptoBulk d + 1
  | (_, d) => uptoBulk d + 1
 end
def uptoSmall : (H : Type) → List (DataW H) → Bool := fun _ ds => decide (uptoBulkAll ds ≤ 1048576)
def OpenSpec.upto (s : _root_.Go.ChangeSpec) : _root_.Go.OpenSpec := { _root_.Go.OpenSpec.ofChange s with cond := some uptoSmall }

/-- 'laws.FnExactLogOK', WHERE WHAT IT READS IS OF BULK AT MOST 1048576: true; the input reads as it did. -/
def fnExactLogOKUptoRow : OpenClaim := { program := "ytejdnbdppgakeaa", sum := "4baabcd8b8253135482b76b701bb21d5036c479f27067062abc009da420f0668", func := "loop.example/g00268/laws.FnExactLogOK", spec := "fnExactLogOK", apart := false, narrowed := true }
def FnExactLogOKUptoSaid : Prop := fnExactLogOKUptoRow.holds Try.pinned (OpenSpec.upto fnExactLogOKSpec)

/-- 'laws.FnExactNewLog', WHERE WHAT IT READS IS OF BULK AT MOST 1048576: true; the input reads as it did. -/
def fnExactNewLogUptoRow : OpenClaim := { program := "ytejdnbdppgakeaa", sum := "4baabcd8b8253135482b76b701bb21d5036c479f27067062abc009da420f0668", func := "loop.example/g00268/laws.FnExactNewLog", spec := "fnExactNewLog", apart := false, narrowed := true }
def FnExactNewLogUptoSaid : Prop := fnExactNewLogUptoRow.holds Try.pinned (OpenSpec.upto fnExactNewLogSpec)

/-- 'laws.FnExactLogSync', WHERE WHAT IT READS IS OF BULK AT MOST 1048576: true; the input reads as it did. -/
def fnExactLogSyncUptoRow : OpenClaim := { program := "ytejdnbdppgakeaa", sum := "4baabcd8b8253135482b76b701bb21d5036c479f27067062abc009da420f0668", func := "loop.example/g00268/laws.FnExactLogSync", spec := "fnExactLogSync", apart := false, narrowed := true }
def FnExactLogSyncUptoSaid : Prop := fnExactLogSyncUptoRow.holds Try.pinned (OpenSpec.upto fnExactLogSyncSpec)

/-- 'laws.FnExactNewImap', WHERE WHAT IT READS IS OF BULK AT MOST 1048576: true; the input reads as it did. -/
def fnExactNewImapUptoRow : OpenClaim := { program := "ytejdnbdppgakeaa", sum := "4baabcd8b8253135482b76b701bb21d5036c479f27067062abc009da420f0668", func := "loop.example/g00268/laws.FnExactNewImap", spec := "fnExactNewImap", apart := false, narrowed := true }
def FnExactNewImapUptoSaid : Prop := fnExactNewImapUptoRow.holds Try.pinned (OpenSpec.upto fnExactNewImapSpec)

/-- 'laws.FnExactFlagsText', WHERE WHAT IT READS IS OF BULK AT MOST 1048576: true; the input reads as it did. -/
def fnExactFlagsTextUptoRow : OpenClaim := { program := "ytejdnbdppgakeaa", sum := "4baabcd8b8253135482b76b701bb21d5036c479f27067062abc009da420f0668", func := "loop.example/g00268/laws.FnExactFlagsText", spec := "fnExactFlagsText", inPlace := ["internal/abi.NoEscape", "internal/bytealg.MakeNoZero"], apart := false, narrowed := true }
def FnExactFlagsTextUptoSaid : Prop := fnExactFlagsTextUptoRow.holds Try.pinned (OpenSpec.upto fnExactFlagsTextSpec)

/-- 'laws.FnExactSetHas', WHERE WHAT IT READS IS OF BULK AT MOST 1048576: true; the input reads as it did. -/
def fnExactSetHasUptoRow : OpenClaim := { program := "ytejdnbdppgakeaa", sum := "4baabcd8b8253135482b76b701bb21d5036c479f27067062abc009da420f0668", func := "loop.example/g00268/laws.FnExactSetHas", spec := "fnExactSetHas", unfollowed := true, recurses := true, apart := false, narrowed := true }
def FnExactSetHasUptoSaid : Prop := fnExactSetHasUptoRow.holds Try.pinned (OpenSpec.upto fnExactSetHasSpec)

/-- 'laws.FnExactLogAppend', WHERE WHAT IT READS IS OF BULK AT MOST 1048576: true; the input reads as it did. -/
def fnExactLogAppendUptoRow : OpenClaim := { program := "ytejdnbdppgakeaa", sum := "4baabcd8b8253135482b76b701bb21d5036c479f27067062abc009da420f0668", func := "loop.example/g00268/laws.FnExactLogAppend", spec := "fnExactLogAppend", apart := false, narrowed := true }
def FnExactLogAppendUptoSaid : Prop := fnExactLogAppendUptoRow.holds Try.pinned (OpenSpec.upto fnExactLogAppendSpec)

/-- 'laws.FnExactImapOK', WHERE WHAT IT READS IS OF BULK AT MOST 1048576: true; the input reads as it did. -/
def fnExactImapOKUptoRow : OpenClaim := { program := "ytejdnbdppgakeaa", sum := "4baabcd8b8253135482b76b701bb21d5036c479f27067062abc009da420f0668", func := "loop.example/g00268/laws.FnExactImapOK", spec := "fnExactImapOK", apart := false, narrowed := true }
def FnExactImapOKUptoSaid : Prop := fnExactImapOKUptoRow.holds Try.pinned (OpenSpec.upto fnExactImapOKSpec)

/-- 'laws.FnExactMutationOK', WHERE WHAT IT READS IS OF BULK AT MOST 1048576: true; the input reads as it did. -/
def fnExactMutationOKUptoRow : OpenClaim := { program := "ytejdnbdppgakeaa", sum := "4baabcd8b8253135482b76b701bb21d5036c479f27067062abc009da420f0668", func := "loop.example/g00268/laws.FnExactMutationOK", spec := "fnExactMutationOK", unfollowed := true, recurses := true, apart := false, narrowed := true }
def FnExactMutationOKUptoSaid : Prop := fnExactMutationOKUptoRow.holds Try.pinned (OpenSpec.upto fnExactMutationOKSpec)

/-- 'laws.FnExactLogRepair', WHERE WHAT IT READS IS OF BULK AT MOST 1048576: true; the input reads as it did. -/
def fnExactLogRepairUptoRow : OpenClaim := { program := "ytejdnbdppgakeaa", sum := "4baabcd8b8253135482b76b701bb21d5036c479f27067062abc009da420f0668", func := "loop.example/g00268/laws.FnExactLogRepair", spec := "fnExactLogRepair", apart := false, narrowed := true }
def FnExactLogRepairUptoSaid : Prop := fnExactLogRepairUptoRow.holds Try.pinned (OpenSpec.upto fnExactLogRepairSpec)

/-- 'laws.FnExactLogRecords', WHERE WHAT IT READS IS OF BULK AT MOST 1048576: true; the input reads as it did. -/
def fnExactLogRecordsUptoRow : OpenClaim := { program := "ytejdnbdppgakeaa", sum := "4baabcd8b8253135482b76b701bb21d5036c479f27067062abc009da420f0668", func := "loop.example/g00268/laws.FnExactLogRecords", spec := "fnExactLogRecords", apart := false, narrowed := true }
def FnExactLogRecordsUptoSaid : Prop := fnExactLogRecordsUptoRow.holds Try.pinned (OpenSpec.upto fnExactLogRecordsSpec)

/-- 'laws.FnLog', WHERE WHAT IT READS IS OF BULK AT MOST 1048576: true; the input reads as it did. -/
def fnLogUptoRow : OpenClaim := { program := "ytejdnbdppgakeaa", sum := "4baabcd8b8253135482b76b701bb21d5036c479f27067062abc009da420f0668", func := "loop.example/g00268/laws.FnLog", spec := "fnLog", apart := false, narrowed := true }
def FnLogUptoSaid : Prop := fnLogUptoRow.holds Try.pinned (OpenSpec.upto fnLogSpec)

end Rows
end Go.Proofs.Ytejdnbdppgakeaa
