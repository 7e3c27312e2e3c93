/-
  No cell of these rows narrows 'for every input' (looked for: loops, veiled, ifaces, maps, wideKeys, modest, calm, conditions, laid).
  DERIVED. THE GIVEN ROWS OF THIS SEAT. 5 by the template 'for every input the law returns true; each argument reads behind the call as it read before'; 0 by the template 'total and deterministic' (their statements: YtlbekgephjlffaaTotals.lean).
  GIVEN WITH THE SEED: the statements are not yours to turn. If you find one false, say at which input.
  Laid BY PROGRAM, IN A SANDBOX (cutbox-rows.mjs): the forced cells as the released guide's own fill.sh prints them over the translation 1ac79c51077a91c7… (all of the seat's roots in one cut). By AI agents, Wed Nov 11 2026. No macro, syntax, notation, axiom, sorry.
-/
import Derived.Test.YtlbekgephjlffaaChecked
import GoSem.Claim
import GoSem.ClaimJoined
import GoSem.ClaimMapViews
import Derived.JoinedTies
import Derived.KernelRfl
namespace Go.Proofs.Ytlbekgephjlffaa
/- THE CELL 'sum', in the pinned program and in every row, IS THE sha256 OF THE DUMP (.gsa) THAT YtlbekgephjlffaaProg.lean LOADS. Nothing in Lean hashes anything: it is a label: what it is worth is what the hold of that sum in a sandbox is worth. -/
noncomputable def Try.pinned : Pinned := { name := "ytlbekgephjlffaa", sum := "1ac79c51077a91c7e5d3ebc1018be700bd59139275489bee14be534331ac6a43", checked := Try.checked }
namespace Rows
def none {H : Type} : Left H := { results := [], args := [] }

/-- 'lagleashlaw16.TxnUndone': WHATEVER THE INPUT: true; the input reads as it did. -/
def txnUndoneSpec : ChangeSpec := { name := "txnUndone", fn := fun _ => fun
  | [d1, d2, d3] => { results := [.lit (.bool true)], args := [d1, d2, d3] }
  | _ => none }
def txnUndoneRow : OpenClaim := { program := "ytlbekgephjlffaa", sum := "1ac79c51077a91c7e5d3ebc1018be700bd59139275489bee14be534331ac6a43", func := "lagleash/lagleashlaw16.TxnUndone", spec := "txnUndone", unfollowed := true, recurses := true, apart := false }
def TxnUndoneSaid : Prop := txnUndoneRow.holds Try.pinned (OpenSpec.ofChange txnUndoneSpec)

/-- ITS FALSE NEIGHBOUR: 'it returns false'. Refute it at one input. -/
def txnUndoneWrong : ChangeSpec := { name := "txnUndone", fn := fun _ => fun
  | [d1, d2, d3] => { results := [.lit (.bool false)], args := [d1, d2, d3] }
  | _ => none }
def TxnUndoneWrongFalsely : Prop := txnUndoneRow.holds Try.pinned (OpenSpec.ofChange txnUndoneWrong)

/-- 'lagleashlaw16.TxnNames': WHATEVER THE INPUT: true; the input reads as it did. -/
def txnNamesSpec : ChangeSpec := { name := "txnNames", fn := fun _ => fun
  | [] => { results := [.lit (.bool true)], args := [] }
  | _ => none }
def txnNamesRow : OpenClaim := { program := "ytlbekgephjlffaa", sum := "1ac79c51077a91c7e5d3ebc1018be700bd59139275489bee14be534331ac6a43", func := "lagleash/lagleashlaw16.TxnNames", spec := "txnNames", unfollowed := true, recurses := true, apart := false }
def TxnNamesSaid : Prop := txnNamesRow.holds Try.pinned (OpenSpec.ofChange txnNamesSpec)

/-- ITS FALSE NEIGHBOUR: 'it returns false'. Refute it at one input. -/
def txnNamesWrong : ChangeSpec := { name := "txnNames", fn := fun _ => fun
  | [] => { results := [.lit (.bool false)], args := [] }
  | _ => none }
def TxnNamesWrongFalsely : Prop := txnNamesRow.holds Try.pinned (OpenSpec.ofChange txnNamesWrong)

/-- 'lagleashlaw16.TxnScript': WHATEVER THE INPUT: true; the input reads as it did. -/
def txnScriptSpec : ChangeSpec := { name := "txnScript", fn := fun _ => fun
  | [d] => { results := [.lit (.bool true)], args := [d] }
  | _ => none }
def txnScriptRow : OpenClaim := { program := "ytlbekgephjlffaa", sum := "1ac79c51077a91c7e5d3ebc1018be700bd59139275489bee14be534331ac6a43", func := "lagleash/lagleashlaw16.TxnScript", spec := "txnScript", unfollowed := true, recurses := true, apart := false }
def TxnScriptSaid : Prop := txnScriptRow.holds Try.pinned (OpenSpec.ofChange txnScriptSpec)

/-- ITS FALSE NEIGHBOUR: 'it returns false'. Refute it at one input. -/
def txnScriptWrong : ChangeSpec := { name := "txnScript", fn := fun _ => fun
  | [d] => { results := [.lit (.bool false)], args := [d] }
  | _ => none }
def TxnScriptWrongFalsely : Prop := txnScriptRow.holds Try.pinned (OpenSpec.ofChange txnScriptWrong)

/-- 'lagleashlaw16.TxnNil': WHATEVER THE INPUT: true; the input reads as it did. -/
def txnNilSpec : ChangeSpec := { name := "txnNil", fn := fun _ => fun
  | [d] => { results := [.lit (.bool true)], args := [d] }
  | _ => none }
def txnNilRow : OpenClaim := { program := "ytlbekgephjlffaa", sum := "1ac79c51077a91c7e5d3ebc1018be700bd59139275489bee14be534331ac6a43", func := "lagleash/lagleashlaw16.TxnNil", spec := "txnNil", unfollowed := true, recurses := true, apart := false }
def TxnNilSaid : Prop := txnNilRow.holds Try.pinned (OpenSpec.ofChange txnNilSpec)

/-- ITS FALSE NEIGHBOUR: 'it returns false'. Refute it at one input. -/
def txnNilWrong : ChangeSpec := { name := "txnNil", fn := fun _ => fun
  | [d] => { results := [.lit (.bool false)], args := [d] }
  | _ => none }
def TxnNilWrongFalsely : Prop := txnNilRow.holds Try.pinned (OpenSpec.ofChange txnNilWrong)

/-- 'lagleashlaw16.TxnBatch': WHATEVER THE INPUT: true; the input reads as it did. -/
def txnBatchSpec : ChangeSpec := { name := "txnBatch", fn := fun _ => fun
  | [d] => { results := [.lit (.bool true)], args := [d] }
  | _ => none }
def txnBatchRow : OpenClaim := { program := "ytlbekgephjlffaa", sum := "1ac79c51077a91c7e5d3ebc1018be700bd59139275489bee14be534331ac6a43", func := "lagleash/lagleashlaw16.TxnBatch", spec := "txnBatch", unfollowed := true, recurses := true, apart := false }
def TxnBatchSaid : Prop := txnBatchRow.holds Try.pinned (OpenSpec.ofChange txnBatchSpec)

/-- ITS FALSE NEIGHBOUR: 'it returns false'. Refute it at one input. -/
def txnBatchWrong : ChangeSpec := { name := "txnBatch", fn := fun _ => fun
  | [d] => { results := [.lit (.bool false)], args := [d] }
  | _ => none }
def TxnBatchWrongFalsely : Prop := txnBatchRow.holds Try.pinned (OpenSpec.ofChange txnBatchWrong)

/- THE SECOND FORM. 'bulk': how many values and letters a reading holds, each counted each time it is reached (what is shared counts as often as it is met; a slice's spare places count too). A statement '..UptoSaid' is the law's where the arguments, and the package variables that the reading takes, are together of bulk at most 1048576: NARROWER than '..Said'. Prove '..Said' where nothing that the law and all that it calls make is longer than what came in: it says more and counts as full. Else prove '..UptoSaid'. A law counts once. -/
mutual
def uptoBulk {H : Type} : DataW H → Nat
  | .lit (.string bytes) => bytes.length + 1
  | .lit _ => 1
  | .nil => 1
  | .ptr d => uptoBulk d + 1
  | .slice elems spare => uptoBulkAll elems + uptoBulkAll spare + 1
  | .agg parts => uptoBulkAll parts + 1
  | .iface _ d => uptoBulk d + 1
  | .map entries => uptoBulkEntries entries + 1
  | .held _ => 1
def uptoBulkAll {H : Type} : List (DataW H) → Nat
  | [] => 0
  | d :: r => uptoBulk d + uptoBulkAll r
def uptoBulkEntries {H : Type} : List (Lit × DataW H) → Nat
  | [] => 0
  | x :: r => uptoBulkEntry x + uptoBulkEntries r
def uptoBulkEntry {H : Type} : Lit × DataW H → Nat
  | (.string bytes, d) => bytes.length + uptoBulk d + 1
  | (_, d) => uptoBulk d + 1
 end
def uptoSmall : (H : Type) → List (DataW H) → Bool := fun _ ds => decide (uptoBulkAll ds ≤ 1048576)
def OpenSpec.upto (s : _root_.Go.ChangeSpec) : _root_.Go.OpenSpec := { _root_.Go.OpenSpec.ofChange s with cond := some uptoSmall }

/-- 'lagleashlaw16.TxnUndone', WHERE WHAT IT READS IS OF BULK AT MOST 1048576: true; the input reads as it did. -/
def txnUndoneUptoRow : OpenClaim := { program := "ytlbekgephjlffaa", sum := "1ac79c51077a91c7e5d3ebc1018be700bd59139275489bee14be534331ac6a43", func := "lagleash/lagleashlaw16.TxnUndone", spec := "txnUndone", unfollowed := true, recurses := true, apart := false, narrowed := true }
def TxnUndoneUptoSaid : Prop := txnUndoneUptoRow.holds Try.pinned (OpenSpec.upto txnUndoneSpec)

/-- 'lagleashlaw16.TxnNames', WHERE WHAT IT READS IS OF BULK AT MOST 1048576: true; the input reads as it did. -/
def txnNamesUptoRow : OpenClaim := { program := "ytlbekgephjlffaa", sum := "1ac79c51077a91c7e5d3ebc1018be700bd59139275489bee14be534331ac6a43", func := "lagleash/lagleashlaw16.TxnNames", spec := "txnNames", unfollowed := true, recurses := true, apart := false, narrowed := true }
def TxnNamesUptoSaid : Prop := txnNamesUptoRow.holds Try.pinned (OpenSpec.upto txnNamesSpec)

/-- 'lagleashlaw16.TxnScript', WHERE WHAT IT READS IS OF BULK AT MOST 1048576: true; the input reads as it did. -/
def txnScriptUptoRow : OpenClaim := { program := "ytlbekgephjlffaa", sum := "1ac79c51077a91c7e5d3ebc1018be700bd59139275489bee14be534331ac6a43", func := "lagleash/lagleashlaw16.TxnScript", spec := "txnScript", unfollowed := true, recurses := true, apart := false, narrowed := true }
def TxnScriptUptoSaid : Prop := txnScriptUptoRow.holds Try.pinned (OpenSpec.upto txnScriptSpec)

/-- 'lagleashlaw16.TxnNil', WHERE WHAT IT READS IS OF BULK AT MOST 1048576: true; the input reads as it did. -/
def txnNilUptoRow : OpenClaim := { program := "ytlbekgephjlffaa", sum := "1ac79c51077a91c7e5d3ebc1018be700bd59139275489bee14be534331ac6a43", func := "lagleash/lagleashlaw16.TxnNil", spec := "txnNil", unfollowed := true, recurses := true, apart := false, narrowed := true }
def TxnNilUptoSaid : Prop := txnNilUptoRow.holds Try.pinned (OpenSpec.upto txnNilSpec)

/-- 'lagleashlaw16.TxnBatch', WHERE WHAT IT READS IS OF BULK AT MOST 1048576: true; the input reads as it did. -/
def txnBatchUptoRow : OpenClaim := { program := "ytlbekgephjlffaa", sum := "1ac79c51077a91c7e5d3ebc1018be700bd59139275489bee14be534331ac6a43", func := "lagleash/lagleashlaw16.TxnBatch", spec := "txnBatch", unfollowed := true, recurses := true, apart := false, narrowed := true }
def TxnBatchUptoSaid : Prop := txnBatchUptoRow.holds Try.pinned (OpenSpec.upto txnBatchSpec)

end Rows
end Go.Proofs.Ytlbekgephjlffaa
