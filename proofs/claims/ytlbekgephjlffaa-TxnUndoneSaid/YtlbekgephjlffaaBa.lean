/- A finished transaction is a proper batch of just what was put into it: the words. -/
import Derived.Test.YtlbekgephjlffaaKi
import Derived.Test.YtlbekgephjlffaaAc
namespace Go.Proofs.Ytlbekgephjlffaa
open Go.RowKit Go.Lg
set_option linter.unusedVariables false
set_option linter.unusedSimpArgs false

theorem addE_zero {o : Bool} {os : List Op3} {x : Op3} (h : addE o os x = 0) : o = false ∧ x.ok ∧ os.length < 8 := by
  unfold addE at h
  split at h
  · cases h
  · split at h
    · cases h
    · split at h
      · cases h
      · rename_i h1 h2 h3
        exact ⟨by simpa using h1, by simpa using h2, by omega⟩
theorem undoE_zero {os : List Op3} {to : Int} (h : undoE false os to = 0) : ∃ t : Nat, to = (t : Int) ∧ t ≤ os.length := by
  unfold undoE at h
  rw [if_neg (by decide)] at h
  split at h
  · cases h
  · exact ⟨to.toNat, by omega, by omega⟩
/-- A txn and a row of ops apart from it. -/
structure TR (rf : Bool) (w : World) (B z : Nat) (o : Bool) (sv : Value) (os : List Op3) (v : Value) (xs : List Op3) : Prop where
  t : TX rf w B z o sv os
  r : w.ownsRow B 43 3 v xs.length (opc xs)
  a : ∀ g, v.ownBlock = some g → sv.ownBlock ≠ some g
theorem TR.later {rf : Bool} {w w' : World} {B z : Nat} {o : Bool} {sv : Value} {os : List Op3} {v : Value} {xs : List Op3} (h : TR rf w B z o sv os v xs) (hb : Below w.heap.size w w') : TR rf w' B z o sv os v xs :=
  ⟨h.t.later hb, owned_later h.r hb, h.a⟩
theorem TR.left {rf : Bool} {w w' : World} {B z : Nat} {o o' : Bool} {sv : Value} {os os' : List Op3} {v : Value} {xs : List Op3} (h : TR rf w B z o sv os v xs) (hl : Left rf B z sv o' os' w w') : ∃ sv', TR rf w' B z o' sv' os' v xs := by
  obtain ⟨sv', h1, h2, h3⟩ := hl
  refine ⟨sv', h1, owned_two h.r h2 (fun g hg => ⟨owned_blk_ne h.r h.t.blk (tty_ne rf) g hg, h.a g hg⟩), fun g hg hg2 => ?_⟩
  rcases h3 g hg2 with h4 | h4
  · exact h.a g hg h4
  · have := (h.r.lt g hg).2
    omega
theorem TX.gb {rf : Bool} {w w' : World} {B z : Nat} {o : Bool} {sv : Value} {os : List Op3} {row : Option Nat} (h : TX rf w B z o sv os) (hg : w.grownBy w' row) (hz : some z ≠ row) (hs : ∀ g, sv.ownBlock = some g → some g ≠ row) : TX rf w' B z o sv os :=
  ⟨h.hB, h.blk.gb hg hz, owned_gb h.own hg (fun g h1 h2 => hs g h1 h2), h.le⟩
/-- Behind an append to the row. -/
theorem TR.app {rf : Bool} {w w' : World} {B z : Nat} {o : Bool} {sv : Value} {os : List Op3} {v v' : Value} {xs ys : List Op3} (h : TR rf w B z o sv os v xs) (hg : w.grownBy w' v.ownBlock)
    (hr : w'.ownsRow B 43 3 v' ys.length (opc ys)) (hat : ∀ g, v'.ownBlock = some g → v.ownBlock = some g ∨ w.heap.size ≤ g) : TR rf w' B z o sv os v' ys ∧ Below B w w' := by
  refine ⟨⟨h.t.gb hg (fun e => owned_blk_ne h.r h.t.blk (tty_ne rf) z e.symm rfl) (fun g h1 h2 => h.a g h2.symm h1), hr, fun g h1 h2 => ?_⟩, (Below.refl B w).grown hg h.t.leB (fun k hk => (h.r.lt k hk).1)⟩
  rcases hat g h1 with h4 | h4
  · exact h.a g h4 h2
  · have := (h.t.own.lt g h2).2
    omega
/-- The row cut. -/
theorem TR.cut {rf : Bool} {w : World} {B z : Nat} {o : Bool} {sv : Value} {os : List Op3} {A : Option Addr} {n c t : Nat} {xs : List Op3} (h : TR rf w B z o sv os (.slice A n c) xs) (hn : n = xs.length) (ht : t ≤ n) : TR rf w B z o sv os (.slice A t c) (xs.take t) := by
  subst hn
  refine ⟨h.t, ?_, fun g hg => h.a g (by cases A <;> exact hg)⟩
  rw [List.length_take_of_le ht, ← opc_take]
  rcases h.r.2 with ⟨h1, h2⟩ | ⟨g, cap, cur, h1, _⟩
  · obtain ⟨rfl, _, rfl⟩ : A = none ∧ True ∧ c = 0 := by injection h1 with a b c; exact ⟨a, trivial, c⟩
    obtain rfl : t = 0 := by omega
    simpa using World.ownsRow_nil w B 43 3
  · obtain ⟨rfl, rfl⟩ : A = some ⟨g, 0, none⟩ ∧ c = cap := by injection h1 with a b c; exact ⟨a, c⟩
    exact owned_prefix h.r ht
theorem TR.os {rf : Bool} {w : World} {B z : Nat} {o : Bool} {sv : Value} {os : List Op3} {A : Option Addr} {n c : Nat} {xs : List Op3} (h : TR rf w B z o sv os (.slice A n c) xs) (hn : n = xs.length) : OS w w.heap.size A n xs := by
  subst hn
  exact ⟨Rd.of_own h.r, rfl⟩
theorem TR.len {rf : Bool} {w : World} {B z : Nat} {o : Bool} {sv : Value} {os : List Op3} {v : Value} {xs : List Op3} (h : TR rf w B z o sv os v xs) : ∃ A c, v = .slice A xs.length c ∧ xs.length ≤ c ∧ c ≤ maxLen := owned_slice h.r
theorem Left.below' {rf : Bool} {B z : Nat} {sv : Value} {o : Bool} {os : List Op3} {o' : Bool} {os' : List Op3} {w w' : World} (hl : Left rf B z sv o' os' w w') (h : TX rf w B z o sv os) : Below B w w' := Left.below h hl
/-- A box beyond stays. -/
theorem Left.box {rf : Bool} {B z g : Nat} {t : TypeId} {cs : Array Value} {sv : Value} {o o' : Bool} {os os' : List Op3} {w w' : World} (hl : Left rf B z sv o' os' w w') (h : TX rf w B z o sv os) (k : Blk w g t cs) (hz : g ≠ z) (hs : ∀ b, sv.ownBlock = some b → b ≠ g) : Blk w' g t cs := by
  obtain ⟨sv', h1, h2, h3⟩ := hl
  exact blk_two k h2 hz hs
end Go.Proofs.Ytlbekgephjlffaa
