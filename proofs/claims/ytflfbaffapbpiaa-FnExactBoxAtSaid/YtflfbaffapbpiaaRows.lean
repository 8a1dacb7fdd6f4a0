/-
  No cell of these rows narrows 'for every input' (looked for: loops, veiled, ifaces, maps, wideKeys, modest, calm, conditions, laid).
  DERIVED. THE GIVEN ROWS OF THIS SEAT. 4 by the template 'for every input the law returns true; each argument reads behind the call as it read before'; 0 by the template 'total and deterministic' (their statements: YtflfbaffapbpiaaTotals.lean).
  GIVEN WITH THE SEED: the statements are not yours to turn. If you find one false, say at which input.
  Laid BY PROGRAM, IN A SANDBOX (cutbox-rows.mjs): the forced cells as the released guide's own fill.sh prints them over the translation 2d5b0f80f49c010a… (all of the seat's roots in one cut). By AI agents, Wed Nov 11 2026. No macro, syntax, notation, axiom, sorry.
-/
import Derived.Test.YtflfbaffapbpiaaChecked
import GoSem.Claim
import GoSem.ClaimJoined
import GoSem.ClaimMapViews
import Derived.JoinedTies
import Derived.KernelRfl
namespace Go.Proofs.Ytflfbaffapbpiaa
/- THE CELL 'sum', in the pinned program and in every row, IS THE sha256 OF THE DUMP (.gsa) THAT YtflfbaffapbpiaaProg.lean LOADS. Nothing in Lean hashes anything: it is a label: what it is worth is what the hold of that sum in a sandbox is worth. -/
noncomputable def Try.pinned : Pinned := { name := "ytflfbaffapbpiaa", sum := "2d5b0f80f49c010aea86c52faedefa3b5f266637de9c22db04505781db681334", checked := Try.checked }
namespace Rows
def none {H : Type} : Left H := { results := [], args := [] }

/-- 'laws.FnExactBoxAt': WHATEVER THE INPUT: true; the input reads as it did. -/
def fnExactBoxAtSpec : ChangeSpec := { name := "fnExactBoxAt", fn := fun _ => fun
  | [d1, d2] => { results := [.lit (.bool true)], args := [d1, d2] }
  | _ => none }
def fnExactBoxAtRow : OpenClaim := { program := "ytflfbaffapbpiaa", sum := "2d5b0f80f49c010aea86c52faedefa3b5f266637de9c22db04505781db681334", func := "loop.example/g00268/laws.FnExactBoxAt", spec := "fnExactBoxAt", unfollowed := true, recurses := true, apart := false }
def FnExactBoxAtSaid : Prop := fnExactBoxAtRow.holds Try.pinned (OpenSpec.ofChange fnExactBoxAtSpec)

/-- ITS FALSE NEIGHBOUR: 'it returns false'. Refute it at one input. -/
def fnExactBoxAtWrong : ChangeSpec := { name := "fnExactBoxAt", fn := fun _ => fun
  | [d1, d2] => { results := [.lit (.bool false)], args := [d1, d2] }
  | _ => none }
def FnExactBoxAtWrongFalsely : Prop := fnExactBoxAtRow.holds Try.pinned (OpenSpec.ofChange fnExactBoxAtWrong)

/-- 'laws.FnExactReplayLog': WHATEVER THE INPUT: true; the input reads as it did. -/
def fnExactReplayLogSpec : ChangeSpec := { name := "fnExactReplayLog", fn := fun _ => fun
  | [d] => { results := [.lit (.bool true)], args := [d] }
  | _ => none }
def fnExactReplayLogRow : OpenClaim := { program := "ytflfbaffapbpiaa", sum := "2d5b0f80f49c010aea86c52faedefa3b5f266637de9c22db04505781db681334", func := "loop.example/g00268/laws.FnExactReplayLog", spec := "fnExactReplayLog", unfollowed := true, recurses := true, apart := false }
def FnExactReplayLogSaid : Prop := fnExactReplayLogRow.holds Try.pinned (OpenSpec.ofChange fnExactReplayLogSpec)

/-- ITS FALSE NEIGHBOUR: 'it returns false'. Refute it at one input. -/
def fnExactReplayLogWrong : ChangeSpec := { name := "fnExactReplayLog", fn := fun _ => fun
  | [d] => { results := [.lit (.bool false)], args := [d] }
  | _ => none }
def FnExactReplayLogWrongFalsely : Prop := fnExactReplayLogRow.holds Try.pinned (OpenSpec.ofChange fnExactReplayLogWrong)

/-- 'laws.FnExactApplyMutation': WHATEVER THE INPUT: true; the input reads as it did. -/
def fnExactApplyMutationSpec : ChangeSpec := { name := "fnExactApplyMutation", fn := fun _ => fun
  | [d1, d2] => { results := [.lit (.bool true)], args := [d1, d2] }
  | _ => none }
def fnExactApplyMutationRow : OpenClaim := { program := "ytflfbaffapbpiaa", sum := "2d5b0f80f49c010aea86c52faedefa3b5f266637de9c22db04505781db681334", func := "loop.example/g00268/laws.FnExactApplyMutation", spec := "fnExactApplyMutation", unfollowed := true, recurses := true, apart := false }
def FnExactApplyMutationSaid : Prop := fnExactApplyMutationRow.holds Try.pinned (OpenSpec.ofChange fnExactApplyMutationSpec)

/-- ITS FALSE NEIGHBOUR: 'it returns false'. Refute it at one input. -/
def fnExactApplyMutationWrong : ChangeSpec := { name := "fnExactApplyMutation", fn := fun _ => fun
  | [d1, d2] => { results := [.lit (.bool false)], args := [d1, d2] }
  | _ => none }
def FnExactApplyMutationWrongFalsely : Prop := fnExactApplyMutationRow.holds Try.pinned (OpenSpec.ofChange fnExactApplyMutationWrong)

/-- 'laws.FnStore': WHATEVER THE INPUT: true; the input reads as it did. -/
def fnStoreSpec : ChangeSpec := { name := "fnStore", fn := fun _ => fun
  | [d] => { results := [.lit (.bool true)], args := [d] }
  | _ => none }
def fnStoreRow : OpenClaim := { program := "ytflfbaffapbpiaa", sum := "2d5b0f80f49c010aea86c52faedefa3b5f266637de9c22db04505781db681334", func := "loop.example/g00268/laws.FnStore", spec := "fnStore", unfollowed := true, recurses := true, apart := false }
def FnStoreSaid : Prop := fnStoreRow.holds Try.pinned (OpenSpec.ofChange fnStoreSpec)

/-- ITS FALSE NEIGHBOUR: 'it returns false'. Refute it at one input. -/
def fnStoreWrong : ChangeSpec := { name := "fnStore", fn := fun _ => fun
  | [d] => { results := [.lit (.bool false)], args := [d] }
  | _ => none }
def FnStoreWrongFalsely : Prop := fnStoreRow.holds Try.pinned (OpenSpec.ofChange fnStoreWrong)

/- THE SECOND FORM. 'bulk': how many values and letters a reading holds, each counted each time it is reached (what is shared counts as often as it is met; a slice's spare places count too). A statement '..UptoSaid' is the law's where the arguments, and the package variables that the reading takes, are together of bulk at most 1048576: NARROWER than '..Said'. Prove '..Said' where nothing that the law and all that it calls make is longer than what came in: it says more and counts as full. Else prove '..UptoSaid'. A law counts once. -/
mutual
def uptoBulk {H : Type} : DataW H → Nat
  | .lit (.string bytes) => bytes.length + 1
  | .lit _ => 1
  | .nil => 1
  | .ptr d => uptoBulk d + 1
  | .slice elems spare => uptoBulkAll elems + uptoBulkAll spare + 1
  | .agg parts => uptoBulkAll parts + 1
  | .iface _ d => uptoBulk d + 1
  | .map entries => uptoBulkEntries entries + 1
  | .held _ => 1
def uptoBulkAll {H : Type} : List (DataW H) → Nat
  | [] => 0
  | d :: r => uptoBulk d + uptoBulkAll r
def uptoBulkEntries {H : Type} : List (Lit × DataW H) → Nat
  | [] => 0
  | x :: r => uptoBulkEntry x + uptoBulkEntries r
def uptoBulkEntry {H : Type} : Lit × DataW H → Nat
  | (.string bytes, d) => bytes.length + uptoBulk d + 1
  | (_, d) => uptoBulk d + 1
 end
def uptoSmall : (H : Type) → List (DataW H) → Bool := fun _ ds => decide (uptoBulkAll ds ≤ 1048576)
def OpenSpec.upto (s : _root_.Go.ChangeSpec) : _root_.Go.OpenSpec := { _root_.Go.OpenSpec.ofChange s with cond := some uptoSmall }

/-- 'laws.FnExactBoxAt', WHERE WHAT IT READS IS OF BULK AT MOST 1048576: true; the input reads as it did. -/
def fnExactBoxAtUptoRow : OpenClaim := { program := "ytflfbaffapbpiaa", sum := "2d5b0f80f49c010aea86c52faedefa3b5f266637de9c22db04505781db681334", func := "loop.example/g00268/laws.FnExactBoxAt", spec := "fnExactBoxAt", unfollowed := true, recurses := true, apart := false, narrowed := true }
def FnExactBoxAtUptoSaid : Prop := fnExactBoxAtUptoRow.holds Try.pinned (OpenSpec.upto fnExactBoxAtSpec)

/-- 'laws.FnExactReplayLog', WHERE WHAT IT READS IS OF BULK AT MOST 1048576: true; the input reads as it did. -/
def fnExactReplayLogUptoRow : OpenClaim := { program := "ytflfbaffapbpiaa", sum := "2d5b0f80f49c010aea86c52faedefa3b5f266637de9c22db04505781db681334", func := "loop.example/g00268/laws.FnExactReplayLog", spec := "fnExactReplayLog", unfollowed := true, recurses := true, apart := false, narrowed := true }
def FnExactReplayLogUptoSaid : Prop := fnExactReplayLogUptoRow.holds Try.pinned (OpenSpec.upto fnExactReplayLogSpec)

/-- 'laws.FnExactApplyMutation', WHERE WHAT IT READS IS OF BULK AT MOST 1048576: true; the input reads as it did. -/
def fnExactApplyMutationUptoRow : OpenClaim := { program := "ytflfbaffapbpiaa", sum := "2d5b0f80f49c010aea86c52faedefa3b5f266637de9c22db04505781db681334", func := "loop.example/g00268/laws.FnExactApplyMutation", spec := "fnExactApplyMutation", unfollowed := true, recurses := true, apart := false, narrowed := true }
def FnExactApplyMutationUptoSaid : Prop := fnExactApplyMutationUptoRow.holds Try.pinned (OpenSpec.upto fnExactApplyMutationSpec)

/-- 'laws.FnStore', WHERE WHAT IT READS IS OF BULK AT MOST 1048576: true; the input reads as it did. -/
def fnStoreUptoRow : OpenClaim := { program := "ytflfbaffapbpiaa", sum := "2d5b0f80f49c010aea86c52faedefa3b5f266637de9c22db04505781db681334", func := "loop.example/g00268/laws.FnStore", spec := "fnStore", unfollowed := true, recurses := true, apart := false, narrowed := true }
def FnStoreUptoSaid : Prop := fnStoreUptoRow.holds Try.pinned (OpenSpec.upto fnStoreSpec)

end Rows
end Go.Proofs.Ytflfbaffapbpiaa
