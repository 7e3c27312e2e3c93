/-
  No cell of these rows narrows 'for every input' (looked for: loops, veiled, ifaces, maps, wideKeys, modest, calm, conditions, laid).
  DERIVED. THE GIVEN ROWS OF THIS SEAT. 10 by the template 'for every input the law returns true; each argument reads behind the call as it read before'; 0 by the template 'total and deterministic' (their statements: YthihhmmpkbdmnaaTotals.lean).
  GIVEN WITH THE SEED: the statements are not yours to turn. If you find one false, say at which input.
  Laid BY PROGRAM, IN A SANDBOX (cutbox-rows.mjs): the forced cells as the released guide's own fill.sh prints them over the translation e90fbee191f97fe5… (all of the seat's roots in one cut). By AI agents, Wed Nov 11 2026. No macro, syntax, notation, axiom, sorry.
-/
import Derived.Test.YthihhmmpkbdmnaaChecked
import GoSem.Claim
import GoSem.ClaimJoined
import GoSem.ClaimMapViews
import Derived.JoinedTies
import Derived.KernelRfl
namespace Go.Proofs.Ythihhmmpkbdmnaa
/- THE CELL 'sum', in the pinned program and in every row, IS THE sha256 OF THE DUMP (.gsa) THAT YthihhmmpkbdmnaaProg.lean LOADS. Nothing in Lean hashes anything: it is a label: what it is worth is what the hold of that sum in a sandbox is worth. -/
noncomputable def Try.pinned : Pinned := { name := "ythihhmmpkbdmnaa", sum := "e90fbee191f97fe57bdda1778c70e3658c81e6cac54da98434ed1e7b5aef557a", checked := Try.checked }
namespace Rows
def none {H : Type} : Left H := { results := [], args := [] }

/-- 'lagleashlaw01.VarintAppends': WHATEVER THE INPUT: true; the input reads as it did. -/
def varintAppendsSpec : ChangeSpec := { name := "varintAppends", fn := fun _ => fun
  | [d1, d2] => { results := [.lit (.bool true)], args := [d1, d2] }
  | _ => none }
def varintAppendsRow : OpenClaim := { program := "ythihhmmpkbdmnaa", sum := "e90fbee191f97fe57bdda1778c70e3658c81e6cac54da98434ed1e7b5aef557a", func := "lagleash/lagleashlaw01.VarintAppends", spec := "varintAppends", apart := false }
def VarintAppendsSaid : Prop := varintAppendsRow.holds Try.pinned (OpenSpec.ofChange varintAppendsSpec)

/-- ITS FALSE NEIGHBOUR: 'it returns false'. Refute it at one input. -/
def varintAppendsWrong : ChangeSpec := { name := "varintAppends", fn := fun _ => fun
  | [d1, d2] => { results := [.lit (.bool false)], args := [d1, d2] }
  | _ => none }
def VarintAppendsWrongFalsely : Prop := varintAppendsRow.holds Try.pinned (OpenSpec.ofChange varintAppendsWrong)

/-- 'lagleashlaw01.VarintBack': WHATEVER THE INPUT: true; the input reads as it did. -/
def varintBackSpec : ChangeSpec := { name := "varintBack", fn := fun _ => fun
  | [d1, d2, d3] => { results := [.lit (.bool true)], args := [d1, d2, d3] }
  | _ => none }
def varintBackRow : OpenClaim := { program := "ythihhmmpkbdmnaa", sum := "e90fbee191f97fe57bdda1778c70e3658c81e6cac54da98434ed1e7b5aef557a", func := "lagleash/lagleashlaw01.VarintBack", spec := "varintBack", apart := false }
def VarintBackSaid : Prop := varintBackRow.holds Try.pinned (OpenSpec.ofChange varintBackSpec)

/-- ITS FALSE NEIGHBOUR: 'it returns false'. Refute it at one input. -/
def varintBackWrong : ChangeSpec := { name := "varintBack", fn := fun _ => fun
  | [d1, d2, d3] => { results := [.lit (.bool false)], args := [d1, d2, d3] }
  | _ => none }
def VarintBackWrongFalsely : Prop := varintBackRow.holds Try.pinned (OpenSpec.ofChange varintBackWrong)

/-- 'lagleashlaw01.VarintRow': WHATEVER THE INPUT: true; the input reads as it did. -/
def varintRowSpec : ChangeSpec := { name := "varintRow", fn := fun _ => fun
  | [d1, d2] => { results := [.lit (.bool true)], args := [d1, d2] }
  | _ => none }
def varintRowRow : OpenClaim := { program := "ythihhmmpkbdmnaa", sum := "e90fbee191f97fe57bdda1778c70e3658c81e6cac54da98434ed1e7b5aef557a", func := "lagleash/lagleashlaw01.VarintRow", spec := "varintRow", apart := false }
def VarintRowSaid : Prop := varintRowRow.holds Try.pinned (OpenSpec.ofChange varintRowSpec)

/-- ITS FALSE NEIGHBOUR: 'it returns false'. Refute it at one input. -/
def varintRowWrong : ChangeSpec := { name := "varintRow", fn := fun _ => fun
  | [d1, d2] => { results := [.lit (.bool false)], args := [d1, d2] }
  | _ => none }
def VarintRowWrongFalsely : Prop := varintRowRow.holds Try.pinned (OpenSpec.ofChange varintRowWrong)

/-- 'lagleashlaw01.VarintNames': WHATEVER THE INPUT: true; the input reads as it did. -/
def varintNamesSpec : ChangeSpec := { name := "varintNames", fn := fun _ => fun
  | [] => { results := [.lit (.bool true)], args := [] }
  | _ => none }
def varintNamesRow : OpenClaim := { program := "ythihhmmpkbdmnaa", sum := "e90fbee191f97fe57bdda1778c70e3658c81e6cac54da98434ed1e7b5aef557a", func := "lagleash/lagleashlaw01.VarintNames", spec := "varintNames", apart := false }
def VarintNamesSaid : Prop := varintNamesRow.holds Try.pinned (OpenSpec.ofChange varintNamesSpec)

/-- ITS FALSE NEIGHBOUR: 'it returns false'. Refute it at one input. -/
def varintNamesWrong : ChangeSpec := { name := "varintNames", fn := fun _ => fun
  | [] => { results := [.lit (.bool false)], args := [] }
  | _ => none }
def VarintNamesWrongFalsely : Prop := varintNamesRow.holds Try.pinned (OpenSpec.ofChange varintNamesWrong)

/-- 'lagleashlaw01.VarintReads': WHATEVER THE INPUT: true; the input reads as it did. -/
def varintReadsSpec : ChangeSpec := { name := "varintReads", fn := fun _ => fun
  | [d1, d2] => { results := [.lit (.bool true)], args := [d1, d2] }
  | _ => none }
def varintReadsRow : OpenClaim := { program := "ythihhmmpkbdmnaa", sum := "e90fbee191f97fe57bdda1778c70e3658c81e6cac54da98434ed1e7b5aef557a", func := "lagleash/lagleashlaw01.VarintReads", spec := "varintReads", apart := false }
def VarintReadsSaid : Prop := varintReadsRow.holds Try.pinned (OpenSpec.ofChange varintReadsSpec)

/-- ITS FALSE NEIGHBOUR: 'it returns false'. Refute it at one input. -/
def varintReadsWrong : ChangeSpec := { name := "varintReads", fn := fun _ => fun
  | [d1, d2] => { results := [.lit (.bool false)], args := [d1, d2] }
  | _ => none }
def VarintReadsWrongFalsely : Prop := varintReadsRow.holds Try.pinned (OpenSpec.ofChange varintReadsWrong)

/-- 'lagleashlaw09.FrameNames': WHATEVER THE INPUT: true; the input reads as it did. -/
def frameNamesSpec : ChangeSpec := { name := "frameNames", fn := fun _ => fun
  | [] => { results := [.lit (.bool true)], args := [] }
  | _ => none }
def frameNamesRow : OpenClaim := { program := "ythihhmmpkbdmnaa", sum := "e90fbee191f97fe57bdda1778c70e3658c81e6cac54da98434ed1e7b5aef557a", func := "lagleash/lagleashlaw09.FrameNames", spec := "frameNames", apart := false }
def FrameNamesSaid : Prop := frameNamesRow.holds Try.pinned (OpenSpec.ofChange frameNamesSpec)

/-- ITS FALSE NEIGHBOUR: 'it returns false'. Refute it at one input. -/
def frameNamesWrong : ChangeSpec := { name := "frameNames", fn := fun _ => fun
  | [] => { results := [.lit (.bool false)], args := [] }
  | _ => none }
def FrameNamesWrongFalsely : Prop := frameNamesRow.holds Try.pinned (OpenSpec.ofChange frameNamesWrong)

/-- 'lagleashlaw09.FrameCalls': WHATEVER THE INPUT: true; the input reads as it did. -/
def frameCallsSpec : ChangeSpec := { name := "frameCalls", fn := fun _ => fun
  | [d1, d2] => { results := [.lit (.bool true)], args := [d1, d2] }
  | _ => none }
def frameCallsRow : OpenClaim := { program := "ythihhmmpkbdmnaa", sum := "e90fbee191f97fe57bdda1778c70e3658c81e6cac54da98434ed1e7b5aef557a", func := "lagleash/lagleashlaw09.FrameCalls", spec := "frameCalls", apart := false }
def FrameCallsSaid : Prop := frameCallsRow.holds Try.pinned (OpenSpec.ofChange frameCallsSpec)

/-- ITS FALSE NEIGHBOUR: 'it returns false'. Refute it at one input. -/
def frameCallsWrong : ChangeSpec := { name := "frameCalls", fn := fun _ => fun
  | [d1, d2] => { results := [.lit (.bool false)], args := [d1, d2] }
  | _ => none }
def FrameCallsWrongFalsely : Prop := frameCallsRow.holds Try.pinned (OpenSpec.ofChange frameCallsWrong)

/-- 'lagleashlaw09.FrameTorn': WHATEVER THE INPUT: true; the input reads as it did. -/
def frameTornSpec : ChangeSpec := { name := "frameTorn", fn := fun _ => fun
  | [d1, d2] => { results := [.lit (.bool true)], args := [d1, d2] }
  | _ => none }
def frameTornRow : OpenClaim := { program := "ythihhmmpkbdmnaa", sum := "e90fbee191f97fe57bdda1778c70e3658c81e6cac54da98434ed1e7b5aef557a", func := "lagleash/lagleashlaw09.FrameTorn", spec := "frameTorn", apart := false }
def FrameTornSaid : Prop := frameTornRow.holds Try.pinned (OpenSpec.ofChange frameTornSpec)

/-- ITS FALSE NEIGHBOUR: 'it returns false'. Refute it at one input. -/
def frameTornWrong : ChangeSpec := { name := "frameTorn", fn := fun _ => fun
  | [d1, d2] => { results := [.lit (.bool false)], args := [d1, d2] }
  | _ => none }
def FrameTornWrongFalsely : Prop := frameTornRow.holds Try.pinned (OpenSpec.ofChange frameTornWrong)

/-- 'lagleashlaw09.FrameBehind': WHATEVER THE INPUT: true; the input reads as it did. -/
def frameBehindSpec : ChangeSpec := { name := "frameBehind", fn := fun _ => fun
  | [d1, d2] => { results := [.lit (.bool true)], args := [d1, d2] }
  | _ => none }
def frameBehindRow : OpenClaim := { program := "ythihhmmpkbdmnaa", sum := "e90fbee191f97fe57bdda1778c70e3658c81e6cac54da98434ed1e7b5aef557a", func := "lagleash/lagleashlaw09.FrameBehind", spec := "frameBehind", apart := false }
def FrameBehindSaid : Prop := frameBehindRow.holds Try.pinned (OpenSpec.ofChange frameBehindSpec)

/-- ITS FALSE NEIGHBOUR: 'it returns false'. Refute it at one input. -/
def frameBehindWrong : ChangeSpec := { name := "frameBehind", fn := fun _ => fun
  | [d1, d2] => { results := [.lit (.bool false)], args := [d1, d2] }
  | _ => none }
def FrameBehindWrongFalsely : Prop := frameBehindRow.holds Try.pinned (OpenSpec.ofChange frameBehindWrong)

/-- 'lagleashlaw09.FrameScan': WHATEVER THE INPUT: true; the input reads as it did. -/
def frameScanSpec : ChangeSpec := { name := "frameScan", fn := fun _ => fun
  | [d1, d2] => { results := [.lit (.bool true)], args := [d1, d2] }
  | _ => none }
def frameScanRow : OpenClaim := { program := "ythihhmmpkbdmnaa", sum := "e90fbee191f97fe57bdda1778c70e3658c81e6cac54da98434ed1e7b5aef557a", func := "lagleash/lagleashlaw09.FrameScan", spec := "frameScan", unfollowed := true, recurses := true, apart := false }
def FrameScanSaid : Prop := frameScanRow.holds Try.pinned (OpenSpec.ofChange frameScanSpec)

/-- ITS FALSE NEIGHBOUR: 'it returns false'. Refute it at one input. -/
def frameScanWrong : ChangeSpec := { name := "frameScan", fn := fun _ => fun
  | [d1, d2] => { results := [.lit (.bool false)], args := [d1, d2] }
  | _ => none }
def FrameScanWrongFalsely : Prop := frameScanRow.holds Try.pinned (OpenSpec.ofChange frameScanWrong)

/- THE SECOND FORM. 'bulk': how many values and letters a reading holds, each counted each time it is reached (what is shared counts as often as it is met; a slice's spare places count too). A statement '..UptoSaid' is the law's where the arguments, and the package variables that the reading takes, are together of bulk at most 1048576: NARROWER than '..Said'. Prove '..Said' where nothing that the law and all that it calls make is longer than what came in: it says more and counts as full. Else prove '..UptoSaid'. A law counts once. -/
mutual
def uptoBulk {H : Type} : DataW H → Nat
  | .lit (.string bytes) => bytes.length + 1
  | .lit _ => 1
  | .nil => 1
  | .ptr d => uptoBulk d + 1
  | .slice elems spare => uptoBulkAll elems + uptoBulkAll spare + 1
  | .agg parts => uptoBulkAll parts + 1
  | .iface _ d => uptoBulk d + 1
  | .map entries => uptoBulkEntries entries + 1
  | .held _ => 1
def uptoBulkAll {H : Type} : List (DataW H) → Nat
  | [] => 0
  | d :: r => uptoBulk d + uptoBulkAll r
def uptoBulkEntries {H : Type} : List (Lit × DataW H) → Nat
  | [] => 0
  | x :: r => uptoBulkEntry x + uptoBulkEntries r
def uptoBulkEntry {H : Type} : Lit × DataW H → Nat
  | (.string bytes, d) => bytes.length + uptoBulk d + 1
  | (_, d) => uptoBulk d + 1
 end
def uptoSmall : (H : Type) → List (DataW H) → Bool := fun _ ds => decide (uptoBulkAll ds ≤ 1048576)
def OpenSpec.upto (s : _root_.Go.ChangeSpec) : _root_.Go.OpenSpec := { _root_.Go.OpenSpec.ofChange s with cond := some uptoSmall }

/-- 'lagleashlaw01.VarintAppends', WHERE WHAT IT READS IS OF BULK AT MOST 1048576: true; the input reads as it did. -/
def varintAppendsUptoRow : OpenClaim := { program := "ythihhmmpkbdmnaa", sum := "e90fbee191f97fe57bdda1778c70e3658c81e6cac54da98434ed1e7b5aef557a", func := "lagleash/lagleashlaw01.VarintAppends", spec := "varintAppends", apart := false, narrowed := true }
def VarintAppendsUptoSaid : Prop := varintAppendsUptoRow.holds Try.pinned (OpenSpec.upto varintAppendsSpec)

/-- 'lagleashlaw01.VarintBack', WHERE WHAT IT READS IS OF BULK AT MOST 1048576: true; the input reads as it did. -/
def varintBackUptoRow : OpenClaim := { program := "ythihhmmpkbdmnaa", sum := "e90fbee191f97fe57bdda1778c70e3658c81e6cac54da98434ed1e7b5aef557a", func := "lagleash/lagleashlaw01.VarintBack", spec := "varintBack", apart := false, narrowed := true }
def VarintBackUptoSaid : Prop := varintBackUptoRow.holds Try.pinned (OpenSpec.upto varintBackSpec)

/-- 'lagleashlaw01.VarintRow', WHERE WHAT IT READS IS OF BULK AT MOST 1048576: true; the input reads as it did. -/
def varintRowUptoRow : OpenClaim := { program := "ythihhmmpkbdmnaa", sum := "e90fbee191f97fe57bdda1778c70e3658c81e6cac54da98434ed1e7b5aef557a", func := "lagleash/lagleashlaw01.VarintRow", spec := "varintRow", apart := false, narrowed := true }
def VarintRowUptoSaid : Prop := varintRowUptoRow.holds Try.pinned (OpenSpec.upto varintRowSpec)

/-- 'lagleashlaw01.VarintNames', WHERE WHAT IT READS IS OF BULK AT MOST 1048576: true; the input reads as it did. -/
def varintNamesUptoRow : OpenClaim := { program := "ythihhmmpkbdmnaa", sum := "e90fbee191f97fe57bdda1778c70e3658c81e6cac54da98434ed1e7b5aef557a", func := "lagleash/lagleashlaw01.VarintNames", spec := "varintNames", apart := false, narrowed := true }
def VarintNamesUptoSaid : Prop := varintNamesUptoRow.holds Try.pinned (OpenSpec.upto varintNamesSpec)

/-- 'lagleashlaw01.VarintReads', WHERE WHAT IT READS IS OF BULK AT MOST 1048576: true; the input reads as it did. -/
def varintReadsUptoRow : OpenClaim := { program := "ythihhmmpkbdmnaa", sum := "e90fbee191f97fe57bdda1778c70e3658c81e6cac54da98434ed1e7b5aef557a", func := "lagleash/lagleashlaw01.VarintReads", spec := "varintReads", apart := false, narrowed := true }
def VarintReadsUptoSaid : Prop := varintReadsUptoRow.holds Try.pinned (OpenSpec.upto varintReadsSpec)

/-- 'lagleashlaw09.FrameNames', WHERE WHAT IT READS IS OF BULK AT MOST 1048576: true; the input reads as it did. -/
def frameNamesUptoRow : OpenClaim := { program := "ythihhmmpkbdmnaa", sum := "e90fbee191f97fe57bdda1778c70e3658c81e6cac54da98434ed1e7b5aef557a", func := "lagleash/lagleashlaw09.FrameNames", spec := "frameNames", apart := false, narrowed := true }
def FrameNamesUptoSaid : Prop := frameNamesUptoRow.holds Try.pinned (OpenSpec.upto frameNamesSpec)

/-- 'lagleashlaw09.FrameCalls', WHERE WHAT IT READS IS OF BULK AT MOST 1048576: true; the input reads as it did. -/
def frameCallsUptoRow : OpenClaim := { program := "ythihhmmpkbdmnaa", sum := "e90fbee191f97fe57bdda1778c70e3658c81e6cac54da98434ed1e7b5aef557a", func := "lagleash/lagleashlaw09.FrameCalls", spec := "frameCalls", apart := false, narrowed := true }
def FrameCallsUptoSaid : Prop := frameCallsUptoRow.holds Try.pinned (OpenSpec.upto frameCallsSpec)

/-- 'lagleashlaw09.FrameTorn', WHERE WHAT IT READS IS OF BULK AT MOST 1048576: true; the input reads as it did. -/
def frameTornUptoRow : OpenClaim := { program := "ythihhmmpkbdmnaa", sum := "e90fbee191f97fe57bdda1778c70e3658c81e6cac54da98434ed1e7b5aef557a", func := "lagleash/lagleashlaw09.FrameTorn", spec := "frameTorn", apart := false, narrowed := true }
def FrameTornUptoSaid : Prop := frameTornUptoRow.holds Try.pinned (OpenSpec.upto frameTornSpec)

/-- 'lagleashlaw09.FrameBehind', WHERE WHAT IT READS IS OF BULK AT MOST 1048576: true; the input reads as it did. -/
def frameBehindUptoRow : OpenClaim := { program := "ythihhmmpkbdmnaa", sum := "e90fbee191f97fe57bdda1778c70e3658c81e6cac54da98434ed1e7b5aef557a", func := "lagleash/lagleashlaw09.FrameBehind", spec := "frameBehind", apart := false, narrowed := true }
def FrameBehindUptoSaid : Prop := frameBehindUptoRow.holds Try.pinned (OpenSpec.upto frameBehindSpec)

/-- 'lagleashlaw09.FrameScan', WHERE WHAT IT READS IS OF BULK AT MOST 1048576: true; the input reads as it did. -/
def frameScanUptoRow : OpenClaim := { program := "ythihhmmpkbdmnaa", sum := "e90fbee191f97fe57bdda1778c70e3658c81e6cac54da98434ed1e7b5aef557a", func := "lagleash/lagleashlaw09.FrameScan", spec := "frameScan", unfollowed := true, recurses := true, apart := false, narrowed := true }
def FrameScanUptoSaid : Prop := frameScanUptoRow.holds Try.pinned (OpenSpec.upto frameScanSpec)

end Rows
end Go.Proofs.Ythihhmmpkbdmnaa
