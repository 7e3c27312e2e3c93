/-
  No cell of these rows narrows 'for every input' (looked for: loops, veiled, ifaces, maps, wideKeys, modest, calm, conditions, laid).
  DERIVED. THE GIVEN ROWS OF THIS SEAT. 5 by the template 'for every input the law returns true; each argument reads behind the call as it read before'; 0 by the template 'total and deterministic' (their statements: YtmlfbjcgmbdafaaTotals.lean).
  GIVEN WITH THE SEED: the statements are not yours to turn. If you find one false, say at which input.
  Laid BY PROGRAM, IN A SANDBOX (cutbox-rows.mjs): the forced cells as the released guide's own fill.sh prints them over the translation 7ad84baa836f1898… (all of the seat's roots in one cut). By AI agents, Wed Nov 11 2026. No macro, syntax, notation, axiom, sorry.
-/
import Derived.Test.YtmlfbjcgmbdafaaChecked
import GoSem.Claim
import GoSem.ClaimJoined
import GoSem.ClaimMapViews
import Derived.JoinedTies
import Derived.KernelRfl
namespace Go.Proofs.Ytmlfbjcgmbdafaa
/- THE CELL 'sum', in the pinned program and in every row, IS THE sha256 OF THE DUMP (.gsa) THAT YtmlfbjcgmbdafaaProg.lean LOADS. Nothing in Lean hashes anything: it is a label: what it is worth is what the hold of that sum in a sandbox is worth. -/
noncomputable def Try.pinned : Pinned := { name := "ytmlfbjcgmbdafaa", sum := "7ad84baa836f18982ec3632c3ac6e4b89c4420b357f6617beeb1d5887915ee47", checked := Try.checked }
namespace Rows
def none {H : Type} : Left H := { results := [], args := [] }

/-- 'lagleashlaw08.StartsNames': WHATEVER THE INPUT: true; the input reads as it did. -/
def startsNamesSpec : ChangeSpec := { name := "startsNames", fn := fun _ => fun
  | [] => { results := [.lit (.bool true)], args := [] }
  | _ => none }
def startsNamesRow : OpenClaim := { program := "ytmlfbjcgmbdafaa", sum := "7ad84baa836f18982ec3632c3ac6e4b89c4420b357f6617beeb1d5887915ee47", func := "lagleash/lagleashlaw08.StartsNames", spec := "startsNames", unfollowed := true, recurses := true, apart := false }
def StartsNamesSaid : Prop := startsNamesRow.holds Try.pinned (OpenSpec.ofChange startsNamesSpec)

/-- ITS FALSE NEIGHBOUR: 'it returns false'. Refute it at one input. -/
def startsNamesWrong : ChangeSpec := { name := "startsNames", fn := fun _ => fun
  | [] => { results := [.lit (.bool false)], args := [] }
  | _ => none }
def StartsNamesWrongFalsely : Prop := startsNamesRow.holds Try.pinned (OpenSpec.ofChange startsNamesWrong)

/-- 'lagleashlaw08.StartsCalls': WHATEVER THE INPUT: true; the input reads as it did. -/
def startsCallsSpec : ChangeSpec := { name := "startsCalls", fn := fun _ => fun
  | [d1, d2, d3, d4, d5] => { results := [.lit (.bool true)], args := [d1, d2, d3, d4, d5] }
  | _ => none }
def startsCallsRow : OpenClaim := { program := "ytmlfbjcgmbdafaa", sum := "7ad84baa836f18982ec3632c3ac6e4b89c4420b357f6617beeb1d5887915ee47", func := "lagleash/lagleashlaw08.StartsCalls", spec := "startsCalls", unfollowed := true, recurses := true, apart := false }
def StartsCallsSaid : Prop := startsCallsRow.holds Try.pinned (OpenSpec.ofChange startsCallsSpec)

/-- ITS FALSE NEIGHBOUR: 'it returns false'. Refute it at one input. -/
def startsCallsWrong : ChangeSpec := { name := "startsCalls", fn := fun _ => fun
  | [d1, d2, d3, d4, d5] => { results := [.lit (.bool false)], args := [d1, d2, d3, d4, d5] }
  | _ => none }
def StartsCallsWrongFalsely : Prop := startsCallsRow.holds Try.pinned (OpenSpec.ofChange startsCallsWrong)

/-- 'lagleashlaw08.StartsOf': WHATEVER THE INPUT: true; the input reads as it did. -/
def startsOfSpec : ChangeSpec := { name := "startsOf", fn := fun _ => fun
  | [d1, d2, d3, d4] => { results := [.lit (.bool true)], args := [d1, d2, d3, d4] }
  | _ => none }
def startsOfRow : OpenClaim := { program := "ytmlfbjcgmbdafaa", sum := "7ad84baa836f18982ec3632c3ac6e4b89c4420b357f6617beeb1d5887915ee47", func := "lagleash/lagleashlaw08.StartsOf", spec := "startsOf", unfollowed := true, recurses := true, apart := false }
def StartsOfSaid : Prop := startsOfRow.holds Try.pinned (OpenSpec.ofChange startsOfSpec)

/-- ITS FALSE NEIGHBOUR: 'it returns false'. Refute it at one input. -/
def startsOfWrong : ChangeSpec := { name := "startsOf", fn := fun _ => fun
  | [d1, d2, d3, d4] => { results := [.lit (.bool false)], args := [d1, d2, d3, d4] }
  | _ => none }
def StartsOfWrongFalsely : Prop := startsOfRow.holds Try.pinned (OpenSpec.ofChange startsOfWrong)

/-- 'lagleashlaw08.StartsFork': WHATEVER THE INPUT: true; the input reads as it did. -/
def startsForkSpec : ChangeSpec := { name := "startsFork", fn := fun _ => fun
  | [d1, d2, d3] => { results := [.lit (.bool true)], args := [d1, d2, d3] }
  | _ => none }
def startsForkRow : OpenClaim := { program := "ytmlfbjcgmbdafaa", sum := "7ad84baa836f18982ec3632c3ac6e4b89c4420b357f6617beeb1d5887915ee47", func := "lagleash/lagleashlaw08.StartsFork", spec := "startsFork", unfollowed := true, recurses := true, apart := false }
def StartsForkSaid : Prop := startsForkRow.holds Try.pinned (OpenSpec.ofChange startsForkSpec)

/-- ITS FALSE NEIGHBOUR: 'it returns false'. Refute it at one input. -/
def startsForkWrong : ChangeSpec := { name := "startsFork", fn := fun _ => fun
  | [d1, d2, d3] => { results := [.lit (.bool false)], args := [d1, d2, d3] }
  | _ => none }
def StartsForkWrongFalsely : Prop := startsForkRow.holds Try.pinned (OpenSpec.ofChange startsForkWrong)

/-- 'lagleashlaw08.StartsGrow': WHATEVER THE INPUT: true; the input reads as it did. -/
def startsGrowSpec : ChangeSpec := { name := "startsGrow", fn := fun _ => fun
  | [d1, d2] => { results := [.lit (.bool true)], args := [d1, d2] }
  | _ => none }
def startsGrowRow : OpenClaim := { program := "ytmlfbjcgmbdafaa", sum := "7ad84baa836f18982ec3632c3ac6e4b89c4420b357f6617beeb1d5887915ee47", func := "lagleash/lagleashlaw08.StartsGrow", spec := "startsGrow", unfollowed := true, recurses := true, apart := false }
def StartsGrowSaid : Prop := startsGrowRow.holds Try.pinned (OpenSpec.ofChange startsGrowSpec)

/-- ITS FALSE NEIGHBOUR: 'it returns false'. Refute it at one input. -/
def startsGrowWrong : ChangeSpec := { name := "startsGrow", fn := fun _ => fun
  | [d1, d2] => { results := [.lit (.bool false)], args := [d1, d2] }
  | _ => none }
def StartsGrowWrongFalsely : Prop := startsGrowRow.holds Try.pinned (OpenSpec.ofChange startsGrowWrong)

/- THE SECOND FORM. 'bulk': how many values and letters a reading holds, each counted each time it is reached (what is shared counts as often as it is met; a slice's spare places count too). A statement '..UptoSaid' is the law's where the arguments, and the package variables that the reading takes, are together of bulk at most 1048576: NARROWER than '..Said'. Prove '..Said' where nothing that the law and all that it calls make is longer than what came in: it says more and counts as full. Else prove '..UptoSaid'. A law counts once. -/
mutual
def uptoBulk {H : Type} : DataW H → Nat
  | .lit (.string bytes) => bytes.length + 1
  | .lit _ => 1
  | .nil => 1
  | .ptr d => uptoBulk d + 1
  | .slice elems spare => uptoBulkAll elems + uptoBulkAll spare + 1
  | .agg parts => uptoBulkAll parts + 1
  | .iface _ d => uptoBulk d + 1
  | .map entries => uptoBulkEntries entries + 1
  | .held _ => 1
def uptoBulkAll {H : Type} : List (DataW H) → Nat
  | [] => 0
  | d :: r => uptoBulk d + uptoBulkAll r
def uptoBulkEntries {H : Type} : List (Lit × DataW H) → Nat
  | [] => 0
  | x :: r => uptoBulkEntry x + uptoBulkEntries r
def uptoBulkEntry {H : Type} : Lit × DataW H → Nat
  | (.string bytes, d) => bytes.length + uptoBulk d + 1
  | (_, d) => uptoBulk d + 1
 end
def uptoSmall : (H : Type) → List (DataW H) → Bool := fun _ ds => decide (uptoBulkAll ds ≤ 1048576)
def OpenSpec.upto (s : _root_.Go.ChangeSpec) : _root_.Go.OpenSpec := { _root_.Go.OpenSpec.ofChange s with cond := some uptoSmall }

/-- 'lagleashlaw08.StartsNames', WHERE WHAT IT READS IS OF BULK AT MOST 1048576: true; the input reads as it did. -/
def startsNamesUptoRow : OpenClaim := { program := "ytmlfbjcgmbdafaa", sum := "7ad84baa836f18982ec3632c3ac6e4b89c4420b357f6617beeb1d5887915ee47", func := "lagleash/lagleashlaw08.StartsNames", spec := "startsNames", unfollowed := true, recurses := true, apart := false, narrowed := true }
def StartsNamesUptoSaid : Prop := startsNamesUptoRow.holds Try.pinned (OpenSpec.upto startsNamesSpec)

/-- 'lagleashlaw08.StartsCalls', WHERE WHAT IT READS IS OF BULK AT MOST 1048576: true; the input reads as it did. -/
def startsCallsUptoRow : OpenClaim := { program := "ytmlfbjcgmbdafaa", sum := "7ad84baa836f18982ec3632c3ac6e4b89c4420b357f6617beeb1d5887915ee47", func := "lagleash/lagleashlaw08.StartsCalls", spec := "startsCalls", unfollowed := true, recurses := true, apart := false, narrowed := true }
def StartsCallsUptoSaid : Prop := startsCallsUptoRow.holds Try.pinned (OpenSpec.upto startsCallsSpec)

/-- 'lagleashlaw08.StartsOf', WHERE WHAT IT READS IS OF BULK AT MOST 1048576: true; the input reads as it did. -/
def startsOfUptoRow : OpenClaim := { program := "ytmlfbjcgmbdafaa", sum := "7ad84baa836f18982ec3632c3ac6e4b89c4420b357f6617beeb1d5887915ee47", func := "lagleash/lagleashlaw08.StartsOf", spec := "startsOf", unfollowed := true, recurses := true, apart := false, narrowed := true }
def StartsOfUptoSaid : Prop := startsOfUptoRow.holds Try.pinned (OpenSpec.upto startsOfSpec)

/-- 'lagleashlaw08.StartsFork', WHERE WHAT IT READS IS OF BULK AT MOST 1048576: true; the input reads as it did. -/
def startsForkUptoRow : OpenClaim := { program := "ytmlfbjcgmbdafaa", sum := "7ad84baa836f18982ec3632c3ac6e4b89c4420b357f6617beeb1d5887915ee47", func := "lagleash/lagleashlaw08.StartsFork", spec := "startsFork", unfollowed := true, recurses := true, apart := false, narrowed := true }
def StartsForkUptoSaid : Prop := startsForkUptoRow.holds Try.pinned (OpenSpec.upto startsForkSpec)

/-- 'lagleashlaw08.StartsGrow', WHERE WHAT IT READS IS OF BULK AT MOST 1048576: true; the input reads as it did. -/
def startsGrowUptoRow : OpenClaim := { program := "ytmlfbjcgmbdafaa", sum := "7ad84baa836f18982ec3632c3ac6e4b89c4420b357f6617beeb1d5887915ee47", func := "lagleash/lagleashlaw08.StartsGrow", spec := "startsGrow", unfollowed := true, recurses := true, apart := false, narrowed := true }
def StartsGrowUptoSaid : Prop := startsGrowUptoRow.holds Try.pinned (OpenSpec.upto startsGrowSpec)

end Rows
end Go.Proofs.Ytmlfbjcgmbdafaa
