/-
  No cell of these rows narrows 'for every input' (looked for: loops, veiled, ifaces, maps, wideKeys, modest, calm, conditions, laid).
  DERIVED. THE GIVEN ROWS OF THIS SEAT. 4 by the template 'for every input the law returns true; each argument reads behind the call as it read before'; 0 by the template 'total and deterministic' (their statements: YtagehcnbllkipaaTotals.lean).
  GIVEN WITH THE SEED: the statements are not yours to turn. If you find one false, say at which input.
  Laid BY PROGRAM, IN A SANDBOX (cutbox-rows.mjs): the forced cells as the released guide's own fill.sh prints them over the translation 482cc455d6342164… (all of the seat's roots in one cut). By AI agents, Wed Nov 11 2026. No macro, syntax, notation, axiom, sorry.
-/
import Derived.Test.YtagehcnbllkipaaChecked
import GoSem.Claim
import GoSem.ClaimJoined
import GoSem.ClaimMapViews
import Derived.JoinedTies
import Derived.KernelRfl
namespace Go.Proofs.Ytagehcnbllkipaa
/- THE CELL 'sum', in the pinned program and in every row, IS THE sha256 OF THE DUMP (.gsa) THAT YtagehcnbllkipaaProg.lean LOADS. Nothing in Lean hashes anything: it is a label: what it is worth is what the hold of that sum in a sandbox is worth. -/
noncomputable def Try.pinned : Pinned := { name := "ytagehcnbllkipaa", sum := "482cc455d6342164f5c7c514eade04cccab1948753865ff71c00e448966cd1f2", checked := Try.checked }
namespace Rows
def none {H : Type} : Left H := { results := [], args := [] }

/-- 'lagleashlaw20.RoleNames': WHATEVER THE INPUT: true; the input reads as it did. -/
def roleNamesSpec : ChangeSpec := { name := "roleNames", fn := fun _ => fun
  | [] => { results := [.lit (.bool true)], args := [] }
  | _ => none }
def roleNamesRow : OpenClaim := { program := "ytagehcnbllkipaa", sum := "482cc455d6342164f5c7c514eade04cccab1948753865ff71c00e448966cd1f2", func := "lagleash/lagleashlaw20.RoleNames", spec := "roleNames", apart := false }
def RoleNamesSaid : Prop := roleNamesRow.holds Try.pinned (OpenSpec.ofChange roleNamesSpec)

/-- ITS FALSE NEIGHBOUR: 'it returns false'. Refute it at one input. -/
def roleNamesWrong : ChangeSpec := { name := "roleNames", fn := fun _ => fun
  | [] => { results := [.lit (.bool false)], args := [] }
  | _ => none }
def RoleNamesWrongFalsely : Prop := roleNamesRow.holds Try.pinned (OpenSpec.ofChange roleNamesWrong)

/-- 'lagleashlaw20.RoleRound': WHATEVER THE INPUT: true; the input reads as it did. -/
def roleRoundSpec : ChangeSpec := { name := "roleRound", fn := fun _ => fun
  | [d1, d2, d3, d4, d5] => { results := [.lit (.bool true)], args := [d1, d2, d3, d4, d5] }
  | _ => none }
def roleRoundRow : OpenClaim := { program := "ytagehcnbllkipaa", sum := "482cc455d6342164f5c7c514eade04cccab1948753865ff71c00e448966cd1f2", func := "lagleash/lagleashlaw20.RoleRound", spec := "roleRound", apart := false }
def RoleRoundSaid : Prop := roleRoundRow.holds Try.pinned (OpenSpec.ofChange roleRoundSpec)

/-- ITS FALSE NEIGHBOUR: 'it returns false'. Refute it at one input. -/
def roleRoundWrong : ChangeSpec := { name := "roleRound", fn := fun _ => fun
  | [d1, d2, d3, d4, d5] => { results := [.lit (.bool false)], args := [d1, d2, d3, d4, d5] }
  | _ => none }
def RoleRoundWrongFalsely : Prop := roleRoundRow.holds Try.pinned (OpenSpec.ofChange roleRoundWrong)

/-- 'lagleashlaw20.RoleWays': WHATEVER THE INPUT: true; the input reads as it did. -/
def roleWaysSpec : ChangeSpec := { name := "roleWays", fn := fun _ => fun
  | [d1, d2] => { results := [.lit (.bool true)], args := [d1, d2] }
  | _ => none }
def roleWaysRow : OpenClaim := { program := "ytagehcnbllkipaa", sum := "482cc455d6342164f5c7c514eade04cccab1948753865ff71c00e448966cd1f2", func := "lagleash/lagleashlaw20.RoleWays", spec := "roleWays", apart := false }
def RoleWaysSaid : Prop := roleWaysRow.holds Try.pinned (OpenSpec.ofChange roleWaysSpec)

/-- ITS FALSE NEIGHBOUR: 'it returns false'. Refute it at one input. -/
def roleWaysWrong : ChangeSpec := { name := "roleWays", fn := fun _ => fun
  | [d1, d2] => { results := [.lit (.bool false)], args := [d1, d2] }
  | _ => none }
def RoleWaysWrongFalsely : Prop := roleWaysRow.holds Try.pinned (OpenSpec.ofChange roleWaysWrong)

/-- 'lagleashlaw20.RoleCalls': WHATEVER THE INPUT: true; the input reads as it did. -/
def roleCallsSpec : ChangeSpec := { name := "roleCalls", fn := fun _ => fun
  | [d1, d2, d3] => { results := [.lit (.bool true)], args := [d1, d2, d3] }
  | _ => none }
def roleCallsRow : OpenClaim := { program := "ytagehcnbllkipaa", sum := "482cc455d6342164f5c7c514eade04cccab1948753865ff71c00e448966cd1f2", func := "lagleash/lagleashlaw20.RoleCalls", spec := "roleCalls", apart := false }
def RoleCallsSaid : Prop := roleCallsRow.holds Try.pinned (OpenSpec.ofChange roleCallsSpec)

/-- ITS FALSE NEIGHBOUR: 'it returns false'. Refute it at one input. -/
def roleCallsWrong : ChangeSpec := { name := "roleCalls", fn := fun _ => fun
  | [d1, d2, d3] => { results := [.lit (.bool false)], args := [d1, d2, d3] }
  | _ => none }
def RoleCallsWrongFalsely : Prop := roleCallsRow.holds Try.pinned (OpenSpec.ofChange roleCallsWrong)

/- THE SECOND FORM. 'bulk': how many values and letters a reading holds, each counted each time it is reached (what is shared counts as often as it is met; a slice's spare places count too). A statement '..UptoSaid' is the law's where the arguments, and the package variables that the reading takes, are together of bulk at most 1048576: NARROWER than '..Said'. Prove '..Said' where nothing that the law and all that it calls make is longer than what came in: it says more and counts as full. Else prove '..UptoSaid'. A law counts once. -/
mutual
def uptoBulk {H : Type} : DataW H → Nat
  | .lit (.string bytes) => bytes.length + 1
  | .lit _ => 1
  | .nil => 1
  | .ptr d => uptoBulk d + 1
  | .slice elems spare => uptoBulkAll elems + uptoBulkAll spare + 1
  | .agg parts => uptoBulkAll parts + 1
  | .iface _ d => uptoBulk d + 1
  | .map entries => uptoBulkEntries entries + 1
  | .held _ => 1
def uptoBulkAll {H : Type} : List (DataW H) → Nat
  | [] => 0
  | d :: r => uptoBulk d + uptoBulkAll r
def uptoBulkEntries {H : Type} : List (Lit × DataW H) → Nat
  | [] => 0
  | x :: r => uptoBulkEntry x + uptoBulkEntries r
def uptoBulkEntry {H : Type} : Lit × DataW H → Nat
  | (.string bytes, d) => bytes.length + uptoBulk d + 1
  | (_, d) => uptoBulk d + 1
 end
def uptoSmall : (H : Type) → List (DataW H) → Bool := fun _ ds => decide (uptoBulkAll ds ≤ 1048576)
def OpenSpec.upto (s : _root_.Go.ChangeSpec) : _root_.Go.OpenSpec := { _root_.Go.OpenSpec.ofChange s with cond := some uptoSmall }

/-- 'lagleashlaw20.RoleNames', WHERE WHAT IT READS IS OF BULK AT MOST 1048576: true; the input reads as it did. -/
def roleNamesUptoRow : OpenClaim := { program := "ytagehcnbllkipaa", sum := "482cc455d6342164f5c7c514eade04cccab1948753865ff71c00e448966cd1f2", func := "lagleash/lagleashlaw20.RoleNames", spec := "roleNames", apart := false, narrowed := true }
def RoleNamesUptoSaid : Prop := roleNamesUptoRow.holds Try.pinned (OpenSpec.upto roleNamesSpec)

/-- 'lagleashlaw20.RoleRound', WHERE WHAT IT READS IS OF BULK AT MOST 1048576: true; the input reads as it did. -/
def roleRoundUptoRow : OpenClaim := { program := "ytagehcnbllkipaa", sum := "482cc455d6342164f5c7c514eade04cccab1948753865ff71c00e448966cd1f2", func := "lagleash/lagleashlaw20.RoleRound", spec := "roleRound", apart := false, narrowed := true }
def RoleRoundUptoSaid : Prop := roleRoundUptoRow.holds Try.pinned (OpenSpec.upto roleRoundSpec)

/-- 'lagleashlaw20.RoleWays', WHERE WHAT IT READS IS OF BULK AT MOST 1048576: true; the input reads as it did. -/
def roleWaysUptoRow : OpenClaim := { program := "ytagehcnbllkipaa", sum := "482cc455d6342164f5c7c514eade04cccab1948753865ff71c00e448966cd1f2", func := "lagleash/lagleashlaw20.RoleWays", spec := "roleWays", apart := false, narrowed := true }
def RoleWaysUptoSaid : Prop := roleWaysUptoRow.holds Try.pinned (OpenSpec.upto roleWaysSpec)

/-- 'lagleashlaw20.RoleCalls', WHERE WHAT IT READS IS OF BULK AT MOST 1048576: true; the input reads as it did. -/
def roleCallsUptoRow : OpenClaim := { program := "ytagehcnbllkipaa", sum := "482cc455d6342164f5c7c514eade04cccab1948753865ff71c00e448966cd1f2", func := "lagleash/lagleashlaw20.RoleCalls", spec := "roleCalls", apart := false, narrowed := true }
def RoleCallsUptoSaid : Prop := roleCallsUptoRow.holds Try.pinned (OpenSpec.upto roleCallsSpec)

end Rows
end Go.Proofs.Ytagehcnbllkipaa
