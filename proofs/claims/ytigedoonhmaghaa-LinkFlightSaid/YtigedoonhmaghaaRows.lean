/-
  No cell of these rows narrows 'for every input' (looked for: loops, veiled, ifaces, maps, wideKeys, modest, calm, conditions, laid).
  DERIVED. THE GIVEN ROWS OF THIS SEAT. 5 by the template 'for every input the law returns true; each argument reads behind the call as it read before'; 0 by the template 'total and deterministic' (their statements: YtigedoonhmaghaaTotals.lean).
  GIVEN WITH THE SEED: the statements are not yours to turn. If you find one false, say at which input.
  Laid BY PROGRAM, IN A SANDBOX (cutbox-rows.mjs): the forced cells as the released guide's own fill.sh prints them over the translation b884fc5e0e6d2086… (all of the seat's roots in one cut). By AI agents, Wed Nov 11 2026. No macro, syntax, notation, axiom, sorry.
-/
import Derived.Test.YtigedoonhmaghaaChecked
import GoSem.Claim
import GoSem.ClaimJoined
import GoSem.ClaimMapViews
import Derived.JoinedTies
import Derived.KernelRfl
namespace Go.Proofs.Ytigedoonhmaghaa
/- THE CELL 'sum', in the pinned program and in every row, IS THE sha256 OF THE DUMP (.gsa) THAT YtigedoonhmaghaaProg.lean LOADS. Nothing in Lean hashes anything: it is a label: what it is worth is what the hold of that sum in a sandbox is worth. -/
noncomputable def Try.pinned : Pinned := { name := "ytigedoonhmaghaa", sum := "b884fc5e0e6d20868236bd87db01d7ee9e7989ec9f0bfc08fdc05eaae6010d7e", checked := Try.checked }
namespace Rows
def none {H : Type} : Left H := { results := [], args := [] }

/-- 'lagleashlaw06.LinkNames': WHATEVER THE INPUT: true; the input reads as it did. -/
def linkNamesSpec : ChangeSpec := { name := "linkNames", fn := fun _ => fun
  | [] => { results := [.lit (.bool true)], args := [] }
  | _ => none }
def linkNamesRow : OpenClaim := { program := "ytigedoonhmaghaa", sum := "b884fc5e0e6d20868236bd87db01d7ee9e7989ec9f0bfc08fdc05eaae6010d7e", func := "lagleash/lagleashlaw06.LinkNames", spec := "linkNames", unfollowed := true, recurses := true, apart := false }
def LinkNamesSaid : Prop := linkNamesRow.holds Try.pinned (OpenSpec.ofChange linkNamesSpec)

/-- ITS FALSE NEIGHBOUR: 'it returns false'. Refute it at one input. -/
def linkNamesWrong : ChangeSpec := { name := "linkNames", fn := fun _ => fun
  | [] => { results := [.lit (.bool false)], args := [] }
  | _ => none }
def LinkNamesWrongFalsely : Prop := linkNamesRow.holds Try.pinned (OpenSpec.ofChange linkNamesWrong)

/-- 'lagleashlaw06.LinkOnce': WHATEVER THE INPUT: true; the input reads as it did. -/
def linkOnceSpec : ChangeSpec := { name := "linkOnce", fn := fun _ => fun
  | [d] => { results := [.lit (.bool true)], args := [d] }
  | _ => none }
def linkOnceRow : OpenClaim := { program := "ytigedoonhmaghaa", sum := "b884fc5e0e6d20868236bd87db01d7ee9e7989ec9f0bfc08fdc05eaae6010d7e", func := "lagleash/lagleashlaw06.LinkOnce", spec := "linkOnce", unfollowed := true, recurses := true, apart := false }
def LinkOnceSaid : Prop := linkOnceRow.holds Try.pinned (OpenSpec.ofChange linkOnceSpec)

/-- ITS FALSE NEIGHBOUR: 'it returns false'. Refute it at one input. -/
def linkOnceWrong : ChangeSpec := { name := "linkOnce", fn := fun _ => fun
  | [d] => { results := [.lit (.bool false)], args := [d] }
  | _ => none }
def LinkOnceWrongFalsely : Prop := linkOnceRow.holds Try.pinned (OpenSpec.ofChange linkOnceWrong)

/-- 'lagleashlaw06.LinkScript': WHATEVER THE INPUT: true; the input reads as it did. -/
def linkScriptSpec : ChangeSpec := { name := "linkScript", fn := fun _ => fun
  | [d1, d2] => { results := [.lit (.bool true)], args := [d1, d2] }
  | _ => none }
def linkScriptRow : OpenClaim := { program := "ytigedoonhmaghaa", sum := "b884fc5e0e6d20868236bd87db01d7ee9e7989ec9f0bfc08fdc05eaae6010d7e", func := "lagleash/lagleashlaw06.LinkScript", spec := "linkScript", unfollowed := true, recurses := true, apart := false }
def LinkScriptSaid : Prop := linkScriptRow.holds Try.pinned (OpenSpec.ofChange linkScriptSpec)

/-- ITS FALSE NEIGHBOUR: 'it returns false'. Refute it at one input. -/
def linkScriptWrong : ChangeSpec := { name := "linkScript", fn := fun _ => fun
  | [d1, d2] => { results := [.lit (.bool false)], args := [d1, d2] }
  | _ => none }
def LinkScriptWrongFalsely : Prop := linkScriptRow.holds Try.pinned (OpenSpec.ofChange linkScriptWrong)

/-- 'lagleashlaw06.LinkNil': WHATEVER THE INPUT: true; the input reads as it did. -/
def linkNilSpec : ChangeSpec := { name := "linkNil", fn := fun _ => fun
  | [d] => { results := [.lit (.bool true)], args := [d] }
  | _ => none }
def linkNilRow : OpenClaim := { program := "ytigedoonhmaghaa", sum := "b884fc5e0e6d20868236bd87db01d7ee9e7989ec9f0bfc08fdc05eaae6010d7e", func := "lagleash/lagleashlaw06.LinkNil", spec := "linkNil", unfollowed := true, recurses := true, apart := false }
def LinkNilSaid : Prop := linkNilRow.holds Try.pinned (OpenSpec.ofChange linkNilSpec)

/-- ITS FALSE NEIGHBOUR: 'it returns false'. Refute it at one input. -/
def linkNilWrong : ChangeSpec := { name := "linkNil", fn := fun _ => fun
  | [d] => { results := [.lit (.bool false)], args := [d] }
  | _ => none }
def LinkNilWrongFalsely : Prop := linkNilRow.holds Try.pinned (OpenSpec.ofChange linkNilWrong)

/-- 'lagleashlaw06.LinkFlight': WHATEVER THE INPUT: true; the input reads as it did. -/
def linkFlightSpec : ChangeSpec := { name := "linkFlight", fn := fun _ => fun
  | [d1, d2] => { results := [.lit (.bool true)], args := [d1, d2] }
  | _ => none }
def linkFlightRow : OpenClaim := { program := "ytigedoonhmaghaa", sum := "b884fc5e0e6d20868236bd87db01d7ee9e7989ec9f0bfc08fdc05eaae6010d7e", func := "lagleash/lagleashlaw06.LinkFlight", spec := "linkFlight", unfollowed := true, recurses := true, apart := false }
def LinkFlightSaid : Prop := linkFlightRow.holds Try.pinned (OpenSpec.ofChange linkFlightSpec)

/-- ITS FALSE NEIGHBOUR: 'it returns false'. Refute it at one input. -/
def linkFlightWrong : ChangeSpec := { name := "linkFlight", fn := fun _ => fun
  | [d1, d2] => { results := [.lit (.bool false)], args := [d1, d2] }
  | _ => none }
def LinkFlightWrongFalsely : Prop := linkFlightRow.holds Try.pinned (OpenSpec.ofChange linkFlightWrong)

/- THE SECOND FORM. 'bulk': how many values and letters a reading holds, each counted each time it is reached (what is shared counts as often as it is met; a slice's spare places count too). A statement '..UptoSaid' is the law's where the arguments, and the package variables that the reading takes, are together of bulk at most 1048576: NARROWER than '..Said'. Prove '..Said' where nothing that the law and all that it calls make is longer than what came in: it says more and counts as full. Else prove '..UptoSaid'. A law counts once. -/
mutual
def uptoBulk {H : Type} : DataW H → Nat
  | .lit (.string bytes) => bytes.length + 1
  | .lit _ => 1
  | .nil => 1
  | .ptr d => uptoBulk d + 1
  | .slice elems spare => uptoBulkAll elems + uptoBulkAll spare + 1
  | .agg parts => uptoBulkAll parts + 1
  | .iface _ d => uptoBulk d + 1
  | .map entries => uptoBulkEntries entries + 1
  | .held _ => 1
def uptoBulkAll {H : Type} : List (DataW H) → Nat
  | [] => 0
  | d :: r => uptoBulk d + uptoBulkAll r
def uptoBulkEntries {H : Type} : List (Lit × DataW H) → Nat
  | [] => 0
  | x :: r => uptoBulkEntry x + uptoBulkEntries r
def uptoBulkEntry {H : Type} : Lit × DataW H → Nat
  | (.string bytes, d) => bytes.length + uptoBulk d + 1
  | (_, d) => uptoBulk d + 1
 end
def uptoSmall : (H : Type) → List (DataW H) → Bool := fun _ ds => decide (uptoBulkAll ds ≤ 1048576)
def OpenSpec.upto (s : _root_.Go.ChangeSpec) : _root_.Go.OpenSpec := { _root_.Go.OpenSpec.ofChange s with cond := some uptoSmall }

/-- 'lagleashlaw06.LinkNames', WHERE WHAT IT READS IS OF BULK AT MOST 1048576: true; the input reads as it did. -/
def linkNamesUptoRow : OpenClaim := { program := "ytigedoonhmaghaa", sum := "b884fc5e0e6d20868236bd87db01d7ee9e7989ec9f0bfc08fdc05eaae6010d7e", func := "lagleash/lagleashlaw06.LinkNames", spec := "linkNames", unfollowed := true, recurses := true, apart := false, narrowed := true }
def LinkNamesUptoSaid : Prop := linkNamesUptoRow.holds Try.pinned (OpenSpec.upto linkNamesSpec)

/-- 'lagleashlaw06.LinkOnce', WHERE WHAT IT READS IS OF BULK AT MOST 1048576: true; the input reads as it did. -/
def linkOnceUptoRow : OpenClaim := { program := "ytigedoonhmaghaa", sum := "b884fc5e0e6d20868236bd87db01d7ee9e7989ec9f0bfc08fdc05eaae6010d7e", func := "lagleash/lagleashlaw06.LinkOnce", spec := "linkOnce", unfollowed := true, recurses := true, apart := false, narrowed := true }
def LinkOnceUptoSaid : Prop := linkOnceUptoRow.holds Try.pinned (OpenSpec.upto linkOnceSpec)

/-- 'lagleashlaw06.LinkScript', WHERE WHAT IT READS IS OF BULK AT MOST 1048576: true; the input reads as it did. -/
def linkScriptUptoRow : OpenClaim := { program := "ytigedoonhmaghaa", sum := "b884fc5e0e6d20868236bd87db01d7ee9e7989ec9f0bfc08fdc05eaae6010d7e", func := "lagleash/lagleashlaw06.LinkScript", spec := "linkScript", unfollowed := true, recurses := true, apart := false, narrowed := true }
def LinkScriptUptoSaid : Prop := linkScriptUptoRow.holds Try.pinned (OpenSpec.upto linkScriptSpec)

/-- 'lagleashlaw06.LinkNil', WHERE WHAT IT READS IS OF BULK AT MOST 1048576: true; the input reads as it did. -/
def linkNilUptoRow : OpenClaim := { program := "ytigedoonhmaghaa", sum := "b884fc5e0e6d20868236bd87db01d7ee9e7989ec9f0bfc08fdc05eaae6010d7e", func := "lagleash/lagleashlaw06.LinkNil", spec := "linkNil", unfollowed := true, recurses := true, apart := false, narrowed := true }
def LinkNilUptoSaid : Prop := linkNilUptoRow.holds Try.pinned (OpenSpec.upto linkNilSpec)

/-- 'lagleashlaw06.LinkFlight', WHERE WHAT IT READS IS OF BULK AT MOST 1048576: true; the input reads as it did. -/
def linkFlightUptoRow : OpenClaim := { program := "ytigedoonhmaghaa", sum := "b884fc5e0e6d20868236bd87db01d7ee9e7989ec9f0bfc08fdc05eaae6010d7e", func := "lagleash/lagleashlaw06.LinkFlight", spec := "linkFlight", unfollowed := true, recurses := true, apart := false, narrowed := true }
def LinkFlightUptoSaid : Prop := linkFlightUptoRow.holds Try.pinned (OpenSpec.upto linkFlightSpec)

end Rows
end Go.Proofs.Ytigedoonhmaghaa
