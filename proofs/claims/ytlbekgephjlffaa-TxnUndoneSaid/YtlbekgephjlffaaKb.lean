/- Txns in memory: the words; what a call on one leaves. -/
import Derived.Test.YtlbekgephjlffaaKa
namespace Go.Proofs.Ytlbekgephjlffaa
open Go.RowKit Go.Lg
set_option linter.unusedVariables false
set_option linter.unusedSimpArgs false

/-- What a call on a txn may turn: the txn's own block, its ops' block; all else that was there lies as it lay. -/
structure Two (z : Nat) (r : Option Nat) (w w' : World) : Prop where
  os : w'.os = w.os
  tape : w'.tape = w.tape
  output : w'.output = w.output
  size : w.heap.size ≤ w'.heap.size
  block : ∀ k, k < w.heap.size → k ≠ z → some k ≠ r → w'.heap[k]? = w.heap[k]?
theorem Two.of_below {z : Nat} {r : Option Nat} {w w' : World} (h : Below w.heap.size w w') : Two z r w w' := ⟨h.os, h.tape, h.output, h.size, fun k hk _ _ => h.block k hk⟩
theorem Two.of_z {z : Nat} {r : Option Nat} {w w' : World} (h : w.grownBy w' (some z)) : Two z r w w' := ⟨h.os, h.tape, h.output, h.size, fun k hk hz _ => h.block k hk (fun e => hz (Option.some.inj e))⟩
theorem Two.of_r {z : Nat} {r : Option Nat} {w w' : World} (h : w.grownBy w' r) : Two z r w w' := ⟨h.os, h.tape, h.output, h.size, fun k hk _ hr => h.block k hk hr⟩
theorem Two.trans {z : Nat} {r r' : Option Nat} {a b c : World} (h : Two z r a b) (k : Two z r' b c) (hr : ∀ g, r' = some g → r = some g ∨ a.heap.size ≤ g) : Two z r a c :=
  ⟨k.os.trans h.os, k.tape.trans h.tape, k.output.trans h.output, Nat.le_trans h.size k.size, fun i hi hz hn => (k.block i (Nat.lt_of_lt_of_le hi h.size) hz (fun e => by
    rcases hr i e.symm with h1 | h1
    · exact hn h1.symm
    · omega)).trans (h.block i hi hz hn)⟩
theorem Two.below {z B : Nat} {r : Option Nat} {w w' : World} (h : Two z r w w') (hB : B ≤ w.heap.size) (hz : B ≤ z) (hr : ∀ g, r = some g → B ≤ g) : Below B w w' :=
  ⟨h.os, h.tape, h.output, h.size, fun k hk => h.block k (by omega) (by omega) (fun e => by have := hr k e.symm; omega)⟩
theorem blk_two {z g : Nat} {t : TypeId} {cs : Array Value} {r : Option Nat} {w w' : World} (h : Blk w g t cs) (k : Two z r w w') (hz : g ≠ z) (hr : ∀ b, r = some b → b ≠ g) : Blk w' g t cs :=
  (k.block g h.lt hz (fun e => hr g e.symm rfl)).trans h
theorem owned_two {z : Nat} {r : Option Nat} {w w' : World} {base : Nat} {e : TypeId} {sz n : Nat} {v : Value} {xs : List Value} (h : w.ownsRow base e sz v n xs) (k : Two z r w w') (hne : ∀ g, v.ownBlock = some g → g ≠ z ∧ r ≠ some g) : w'.ownsRow base e sz v n xs := by
  refine ⟨h.1, ?_⟩
  rcases h.2 with h2 | ⟨g, cap, cur, rfl, h3, h4, h5⟩
  · exact .inl h2
  · obtain ⟨q1, q2⟩ := hne g rfl
    exact .inr ⟨g, cap, cur, rfl, h3, (k.block g (Array.getElem?_eq_some_iff.1 h4).1 q1 (fun e => q2 e.symm)).trans h4, h5⟩

/-! ### A txn: of the program (false), of the document (true) -/
def tty : Bool → TypeId | true => 62 | false => 50
def tcs : Bool → Bool → Value → Array Value | true, o, sv => #[.bool true, sv, .bool o] | false, o, sv => #[.bool true, .bool o, sv]
def ix : Bool → Nat | true => 1 | false => 2
theorem tcs_set (rf o : Bool) (sv sv' : Value) : (tcs rf o sv).setIfInBounds (ix rf) sv' = tcs rf o sv' := by cases rf <;> rfl
theorem tty_ne (rf : Bool) : (43 : TypeId) ≠ tty rf := by cases rf <;> decide
structure TX (rf : Bool) (w : World) (B z : Nat) (o : Bool) (sv : Value) (os : List Op3) : Prop where
  hB : B ≤ z
  blk : Blk w z (tty rf) (tcs rf o sv)
  own : w.ownsRow B 43 3 sv os.length (opc os)
  le : os.length ≤ 8
theorem TX.ne {rf : Bool} {w : World} {B z : Nat} {o : Bool} {sv : Value} {os : List Op3} (h : TX rf w B z o sv os) : ∀ g, sv.ownBlock = some g → g ≠ z := owned_blk_ne h.own h.blk (tty_ne rf)
theorem TX.later {rf : Bool} {w w' : World} {B z : Nat} {o : Bool} {sv : Value} {os : List Op3} (h : TX rf w B z o sv os) (hb : Below w.heap.size w w') : TX rf w' B z o sv os := ⟨h.hB, h.blk.later hb, owned_later h.own hb, h.le⟩
theorem TX.two {rf : Bool} {w w' : World} {B z z' : Nat} {r : Option Nat} {o : Bool} {sv : Value} {os : List Op3} (h : TX rf w B z o sv os) (k : Two z' r w w') (hz : z ≠ z') (hr : ∀ b, r = some b → b ≠ z)
    (hne : ∀ g, sv.ownBlock = some g → g ≠ z' ∧ r ≠ some g) : TX rf w' B z o sv os := ⟨h.hB, blk_two h.blk k hz hr, owned_two h.own k hne, h.le⟩
theorem TX.leB {rf : Bool} {w : World} {B z : Nat} {o : Bool} {sv : Value} {os : List Op3} (h : TX rf w B z o sv os) : B ≤ w.heap.size := by have := h.hB; have := h.blk.lt; omega
/-- What a call leaves of the txn. -/
def Left (rf : Bool) (B z : Nat) (sv : Value) (o' : Bool) (os' : List Op3) (w w' : World) : Prop :=
  ∃ sv', TX rf w' B z o' sv' os' ∧ Two z sv.ownBlock w w' ∧ (∀ g, sv'.ownBlock = some g → sv.ownBlock = some g ∨ w.heap.size ≤ g)
def Acts (rf : Bool) (B z : Nat) (sv : Value) (r : Int) (o' : Bool) (os' : List Op3) (w : World) (e : Ending) (w' : World) : Prop := e = .returned (.int .i64 r) ∧ Left rf B z sv o' os' w w'
theorem Left.from_ {rf : Bool} {B z : Nat} {sv : Value} {o' : Bool} {os' : List Op3} {w W w' : World} (hb : Below w.heap.size w W) (h : Left rf B z sv o' os' W w') : Left rf B z sv o' os' w w' := by
  obtain ⟨sv', h1, h2, h3⟩ := h
  refine ⟨sv', h1, (Two.of_below hb).trans h2 (fun g hg => .inl hg), fun g hg => ?_⟩
  rcases h3 g hg with h4 | h4
  · exact .inl h4
  · exact .inr (Nat.le_trans hb.size h4)
theorem Left.same {rf : Bool} {w w' : World} {B z : Nat} {o : Bool} {sv : Value} {os : List Op3} (h : TX rf w B z o sv os) (hb : Below w.heap.size w w') : Left rf B z sv o os w w' := ⟨sv, h.later hb, Two.of_below hb, fun g hg => .inl hg⟩
theorem acts_eq {rf : Bool} {B z : Nat} {sv : Value} {r r' : Int} {o' : Bool} {os' : List Op3} {w w' : World} (hr : r' = r) (h : Left rf B z sv o' os' w w') : Acts rf B z sv r' o' os' w (.returned (.int .i64 r)) w' := ⟨by rw [hr], h⟩
/-- Behind an append and the store of its slice. -/
theorem left_append {rf : Bool} {W X w2 : World} {B z : Nat} {sv : Value} {os : List Op3} {x : Op3} {A2 : Option Addr} {c2 : Nat} (h : TX rf W B z false sv os) (h8 : os.length < 8)
    (hv2 : w2.ownsRow B 43 3 (.slice A2 (os.length + 1) c2) (os.length + 1) (opc os ++ opc [x])) (hb : Below W.heap.size W X) (hg : X.grownBy w2 sv.ownBlock)
    (hat : (Value.slice A2 (os.length + 1) c2).ownBlock = sv.ownBlock ∨ (Value.slice A2 (os.length + 1) c2).ownBlock = some X.heap.size) :
    Left rf B z sv false (os ++ [x]) W (w2.setCell ⟨z, ix rf, none⟩ (.slice A2 (os.length + 1) c2)) := by
  have hz2 : Blk w2 z (tty rf) (tcs rf false sv) := (h.blk.later hb).gb hg (fun e => h.ne z e.symm rfl)
  have hne : ∀ g, (Value.slice A2 (os.length + 1) c2).ownBlock = some g → g ≠ z := owned_blk_ne hv2 hz2 (tty_ne rf)
  have hgb := gb_setCell (p := ⟨z, ix rf, none⟩) (.slice A2 (os.length + 1) c2) (World.grownBy.refl w2 (some z))
  refine ⟨.slice A2 (os.length + 1) c2, ⟨h.hB, ?_, ?_, by simp; omega⟩, ?_, ?_⟩
  rotate_left 1
  · rw [List.length_append, List.length_singleton, opc_app]
    exact owned_gb hv2 hgb (fun g hg he => hne g hg (Option.some.inj he))
  · exact ((Two.of_below hb).trans (Two.of_r hg) (fun g hg => .inl hg)).trans (r' := none) (Two.of_z hgb) (fun g hg => by cases hg)
  · intro g hg9
    rcases hat with h1 | h1
    · exact .inl (by rw [← h1]; exact hg9)
    · rw [h1] at hg9
      injection hg9 with hg9
      exact .inr (by rw [← hg9]; exact hb.size)
  · have := hz2.set_ (ix rf) (.slice A2 (os.length + 1) c2)
    rwa [tcs_set] at this
/-- The slice's length stored alone. -/
theorem left_cut {rf : Bool} {W w' : World} {B z : Nat} {o : Bool} {sv sv' : Value} {os os' : List Op3} (h : TX rf W B z o sv os) (hb : Below W.heap.size W w') (h' : w'.ownsRow B 43 3 sv' os'.length (opc os')) (hle : os'.length ≤ 8)
    (hat : ∀ g, sv'.ownBlock = some g → sv.ownBlock = some g ∨ W.heap.size ≤ g) : Left rf B z sv o os' W (w'.setCell ⟨z, ix rf, none⟩ sv') := by
  have hz2 := h.blk.later hb
  have hne : ∀ g, sv'.ownBlock = some g → g ≠ z := owned_blk_ne h' hz2 (tty_ne rf)
  have hgb := gb_setCell (p := ⟨z, ix rf, none⟩) sv' (World.grownBy.refl w' (some z))
  refine ⟨sv', ⟨h.hB, ?_, owned_gb h' hgb (fun g hg he => hne g hg (Option.some.inj he)), hle⟩, (Two.of_below hb).trans (r' := none) (Two.of_z hgb) (fun g hg => by cases hg), hat⟩
  have := hz2.set_ (ix rf) sv'
  rwa [tcs_set] at this

/-! ### What the calls tell -/
def addE (o : Bool) (os : List Op3) (x : Op3) : Int := if o = true then 6 else if ¬x.ok then 2 else if 8 ≤ os.length then 3 else 0
def addO (o : Bool) (os : List Op3) (x : Op3) : List Op3 := if addE o os x = 0 then os ++ [x] else os
theorem addE_over (os : List Op3) (x : Op3) : addE true os x = 6 := rfl
theorem addE_bad {os : List Op3} {x : Op3} (h : ¬x.ok) : addE false os x = 2 := by simp [addE, h]
theorem addE_long {os : List Op3} {x : Op3} (h : x.ok) (h8 : 8 ≤ os.length) : addE false os x = 3 := by simp [addE, h, h8]
theorem addE_ok {os : List Op3} {x : Op3} (h : x.ok) (h8 : os.length < 8) : addE false os x = 0 := by simp [addE, h]; omega
theorem addO_ne {o : Bool} {os : List Op3} {x : Op3} (h : addE o os x ≠ 0) : addO o os x = os := if_neg h
theorem addO_ok {o : Bool} {os : List Op3} {x : Op3} (h : addE o os x = 0) : addO o os x = os ++ [x] := if_pos h

abbrev P (z : Nat) : Value := .pointer (some ⟨z, 0, none⟩)
def wr (o : Bool) : Int := if o = true then 6 else 0
def Wrong (o : Bool) (w : World) (e : Ending) (w' : World) : Prop := e = .returned (.int .i64 (wr o)) ∧ w' = w
set_option maxHeartbeats 1000000 in
set_option maxRecDepth 100000 in
theorem wrong26 {B z : Nat} {o : Bool} {sv : Value} {os : List Op3} {w : World} (h : TX false w B z o sv os) : Calls Try.prog 26 #[P z] w (Wrong o w) := by
  have hb : Blk w z 50 #[.bool true, .bool o, sv] := h.blk
  have c0 : w.cell? ⟨z, 0, none⟩ = some (.bool true) := hb.cell 0
  have c1 : w.cell? ⟨z, 1, none⟩ = some (.bool o) := hb.cell 1
  clear h hb
  cases o
  · go_enter Try.func26, Try.ntmps26
    go_wp2_with fail
    go_ret
    exact ⟨rfl, rfl⟩
  · go_enter Try.func26, Try.ntmps26
    go_wp2_with fail
    go_ret
    exact ⟨rfl, rfl⟩
set_option maxHeartbeats 1000000 in
set_option maxRecDepth 100000 in
theorem asked37 {B z : Nat} {o : Bool} {sv : Value} {os : List Op3} {w : World} (h : TX true w B z o sv os) : Calls Try.prog 37 #[P z] w (Wrong o w) := by
  have hb : Blk w z 62 #[.bool true, sv, .bool o] := h.blk
  have c0 : w.cell? ⟨z, 0, none⟩ = some (.bool true) := hb.cell 0
  have c1 : w.cell? ⟨z, 2, none⟩ = some (.bool o) := hb.cell 2
  clear h hb
  cases o
  · go_enter Try.func37, Try.ntmps37
    go_wp2_with fail
    go_ret
    exact ⟨rfl, rfl⟩
  · go_enter Try.func37, Try.ntmps37
    go_wp2_with fail
    go_ret
    exact ⟨rfl, rfl⟩
end Go.Proofs.Ytlbekgephjlffaa
