/- Two links at once: a call of both tells the same. -/
import Derived.Test.YtigedoonhmaghaaAcF
namespace Go.Proofs.Ytigedoonhmaghaa
open Go.RowKit Go.Lg
set_option linter.unusedVariables false
set_option linter.unusedSimpArgs false

/-- Bytes stay. -/
def Stay (w w' : World) : Prop := ∀ (b n : Nat) (v : Value) (xs : List Value), w.ownsRow b 5 1 v n xs → w'.ownsRow b 5 1 v n xs
theorem Stay.refl (w : World) : Stay w w := fun _ _ _ _ h => h
theorem Stay.trans {a b c : World} (h : Stay a b) (k : Stay b c) : Stay a c := fun _ _ _ _ x => k _ _ _ _ (h _ _ _ _ x)
theorem Stay.later {w w' : World} (h : Below w.heap.size w w') : Stay w w' := fun _ _ _ _ x => owned_later x h
theorem LX.stay {F : Nat} {rf : Bool} {w w' : World} {B z : Nat} {last : Int} {sv : Value} {ls : List Lt} (h : LX F rf w B z last sv ls) (k : Two z sv.ownBlock w w') : Stay w w' := fun _ _ _ _ x => h.bytes x k
/-- The other link stays through a call on the one. -/
theorem LX.two2 {F : Nat} {r1 r2 : Bool} {w w' : World} {B z1 z2 : Nat} {l1 l2 : Int} {sv1 sv2 : Value} {ls1 ls2 : List Lt} (h2 : LX F r2 w B z2 l2 sv2 ls2) (h1 : LX F r1 w B z1 l1 sv1 ls1) (hz : z1 ≠ z2) (hs : ∀ g, sv1.ownBlock = some g → sv2.ownBlock ≠ some g) (k : Two z1 sv1.ownBlock w w') : LX F r2 w' B z2 l2 sv2 ls2 :=
  ⟨h2.hB, blk_two h2.blk k (fun e => hz e.symm) (fun b hb => owned_blk_ne h1.own h2.blk (oty_ne r2) b hb), owned_two h2.own k (fun g hg => ⟨owned_blk_ne h2.own h1.blk (oty_ne r1) g hg, fun e => hs g e hg⟩), h2.le, fun x hx => (h2.by_ x hx).keep (h1.bytes (h2.by_ x hx).own k), Nat.lt_of_lt_of_le h2.hF k.size, h2.neF⟩
/-- No letter lies in a block that is laid later. -/
theorem LX.newF {F f : Nat} {rf : Bool} {w w' : World} {B z : Nat} {last : Int} {sv : Value} {ls : List Lt} (h : LX F rf w B z last sv ls) (hb : Below w.heap.size w w') (hf : w.heap.size ≤ f) (hf2 : f < w'.heap.size) : LX f rf w' B z last sv ls :=
  ⟨h.hB, h.blk.later hb, owned_later h.own hb, h.le, fun x hx => (h.by_ x hx).later hb, hf2, fun x hx e => by have := ((h.by_ x hx).own.lt f e).2; omega⟩
/-- Behind a write into the block F. -/
theorem LX.wrote {F : Nat} {rf : Bool} {w w' : World} {B z b n : Nat} {last : Int} {sv v : Value} {ls : List Lt} {xs : List Value} (h : LX F rf w B z last sv ls) (hrow : w.ownsRow b 5 1 v n xs) (hv : ∀ g, v.ownBlock = some g → g = F) (hg : w.grownBy w' v.ownBlock) : LX F rf w' B z last sv ls :=
  ⟨h.hB, h.blk.gb hg (fun e9 => owned_blk_ne hrow h.blk (oty_ne5 rf) z e9.symm rfl), owned_gb h.own hg (fun g h1 h2 => ne_by_type h.own hrow (by decide) g h1 h2.symm), h.le, fun x hx => (h.by_ x hx).keep (owned_gb (h.by_ x hx).own hg fun g h1 h2 => h.neF x hx (by rw [← hv g h2.symm]; exact h1)), Nat.lt_of_lt_of_le h.hF hg.size, h.neF⟩
/-- Two links apart. -/
structure Duo (F : Nat) (w : World) (B z1 : Nat) (l1 : Int) (sv1 : Value) (ls1 : List Lt) (z2 : Nat) (l2 : Int) (sv2 : Value) (ls2 : List Lt) : Prop where
  t1 : LX F false w B z1 l1 sv1 ls1
  t2 : LX F true w B z2 l2 sv2 ls2
  hz : z1 ≠ z2
  hs : ∀ g, sv1.ownBlock = some g → sv2.ownBlock ≠ some g
section
variable {F B z1 z2 : Nat} {w w' : World} {l1 l2 l' : Int} {sv1 sv2 : Value} {ls1 ls2 : List Lt} {ks' : List Key}
theorem Duo.later (h : Duo F w B z1 l1 sv1 ls1 z2 l2 sv2 ls2) (hb : Below w.heap.size w w') : Duo F w' B z1 l1 sv1 ls1 z2 l2 sv2 ls2 := ⟨h.t1.later hb, h.t2.later hb, h.hz, h.hs⟩
theorem Duo.fst (h : Duo F w B z1 l1 sv1 ls1 z2 l2 sv2 ls2) (hl : Left F false B z1 sv1 l' ks' w w') : (∃ sv' ls', Duo F w' B z1 l' sv' ls' z2 l2 sv2 ls2 ∧ ls'.map Lt.k = ks') ∧ Stay w w' ∧ Below B w w' := by
  obtain ⟨sv', ls', q0, q1, q2, q3⟩ := hl
  refine ⟨⟨sv', ls', ⟨q1, h.t2.two2 h.t1 h.hz h.hs q2, h.hz, fun g h1 h2 => ?_⟩, q0⟩, h.t1.stay q2, h.t1.low q2⟩
  rcases q3 g h1 with h4 | h4
  · exact h.hs g h4 h2
  · have := (h.t2.own.lt g h2).2
    omega
theorem Duo.snd (h : Duo F w B z1 l1 sv1 ls1 z2 l2 sv2 ls2) (hl : Left F true B z2 sv2 l' ks' w w') : (∃ sv' ls', Duo F w' B z1 l1 sv1 ls1 z2 l' sv' ls' ∧ ls'.map Lt.k = ks') ∧ Stay w w' ∧ Below B w w' := by
  obtain ⟨sv', ls', q0, q1, q2, q3⟩ := hl
  refine ⟨⟨sv', ls', ⟨h.t1.two2 h.t2 (fun e => h.hz e.symm) (fun g h1 h2 => h.hs g h2 h1) q2, q1, h.hz, fun g h1 h2 => ?_⟩, q0⟩, h.t2.stay q2, h.t2.low q2⟩
  rcases q3 g h2 with h4 | h4
  · exact h.hs g h1 h4
  · have := (h.t1.own.lt g h1).2
    omega
/-- A block of another kind stays. -/
theorem Duo.box1 {g : Nat} {t : TypeId} {cs : Array Value} (h : Duo F w B z1 l1 sv1 ls1 z2 l2 sv2 ls2) (hl : Left F false B z1 sv1 l' ks' w w') (k : Blk w g t cs) (hz : g ≠ z1) (ht : (31 : TypeId) ≠ t) : Blk w' g t cs :=
  blk_two k hl.two hz (fun b hb => owned_blk_ne h.t1.own k ht b hb)
theorem Duo.box2 {g : Nat} {t : TypeId} {cs : Array Value} (h : Duo F w B z1 l1 sv1 ls1 z2 l2 sv2 ls2) (hl : Left F true B z2 sv2 l' ks' w w') (k : Blk w g t cs) (hz : g ≠ z2) (ht : (31 : TypeId) ≠ t) : Blk w' g t cs :=
  blk_two k hl.two hz (fun b hb => owned_blk_ne h.t2.own k ht b hb)
end
/-- Both are as far. -/
def Pair (F : Nat) (w : World) (B z1 z2 : Nat) (q : Int) (ks : List Key) : Prop := ∃ sv1 ls1 sv2 ls2, Duo F w B z1 q sv1 ls1 z2 q sv2 ls2 ∧ ls1.map Lt.k = ks ∧ ls2.map Lt.k = ks
def Both (F B z1 z2 : Nat) (q : Int) (w : World) (e : Ending) (w' : World) : Prop := e = .returned (.bool true) ∧ (∃ q' ks', Pair F w' B z1 z2 q' ks' ∧ q ≤ q' ∧ q' ≤ q + 1) ∧ Stay w w' ∧ Below B w w'
theorem sL_le (last to : Int) (ks : List Key) : last ≤ sL last to ks ∧ sL last to ks ≤ last + 1 := by unfold sL; split <;> omega
theorem tL_le (last n : Int) (ks : List Key) : last ≤ tL last n ks ∧ tL last n ks ≤ last + 1 := by unfold tL; split <;> omega
end Go.Proofs.Ytigedoonhmaghaa
