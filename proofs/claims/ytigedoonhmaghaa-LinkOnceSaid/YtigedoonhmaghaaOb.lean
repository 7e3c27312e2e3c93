/- LinkOnce: the words of its loop. -/
import Derived.Test.YtigedoonhmaghaaOa
namespace Go.Proofs.Ytigedoonhmaghaa
open Go.RowKit Go.Lg
set_option linter.unusedVariables false
set_option linter.unusedSimpArgs false

def bls (os : List Bool) : List Value := os.map Value.bool
theorem bls_snoc (os : List Bool) (o : Bool) : bls (os ++ [o]) = bls os ++ [.bool o] := by simp [bls]
theorem bls_set (os : List Bool) (i : Nat) (o : Bool) : (bls os).set i (.bool o) = bls (os.set i o) := by simp [bls, List.map_set]
theorem bls_get (os : List Bool) (i : Nat) : (bls os)[i]? = (os[i]?).map Value.bool := by simp [bls]
theorem Try.info4 : (Try.prog.info? 4).map (fun i => (i.zero, i.size, i.bytes)) = some (some (.bool false), 1, 1) := by kernel_rfl
theorem T38 : SlT Try.prog 38 4 1 1 := SlT.mk' _ Try.underlying38 Try.info4 rfl (by decide) (by decide)
/-- Letters whose bytes lie below B. -/
def ReadsB (w : World) (B : Nat) (l : List Lt) : Prop := ∀ x ∈ l, ∃ A c, x.v = .slice A x.b.length c ∧ Rd w B 1 A x.b.length (bts x.b) ∧ x.b.length ≤ 40
theorem ReadsB.below {w w' : World} {B : Nat} {l : List Lt} (h : ReadsB w B l) (hb : Below B w w') : ReadsB w' B l := fun x hx => by
  obtain ⟨A, c, h1, h2, h3⟩ := h x hx
  exact ⟨A, c, h1, h2.below hb, h3⟩
theorem LX.row {rf : Bool} {w w' : World} {B z b sz n : Nat} {e : TypeId} {last : Int} {sv v : Value} {ls : List Lt} {xs : List Value} (h : LX rf w B z last sv ls) (hrow : w.ownsRow b e sz v n xs) (he5 : e ≠ 5) (heo : e ≠ oty rf) (hne : ∀ g, sv.ownBlock = some g → v.ownBlock ≠ some g) (hg : w.grownBy w' v.ownBlock) : LX rf w' B z last sv ls := by
  refine ⟨h.hB, h.blk.gb hg (fun e9 => owned_blk_ne hrow h.blk heo z e9.symm rfl), owned_gb h.own hg (fun g h1 h2 => hne g h1 h2.symm), h.le, fun x hx => (h.by_ x hx).keep (owned_gb (h.by_ x hx).own hg fun g h1 h2 => ne_by_type (h.by_ x hx).own hrow (fun e9 => he5 e9.symm) g h1 h2.symm)⟩
structure On (B z : Nat) (w wr : World) (vs vo : Value) (q : Nat) (s : List Lt) (os : List Bool) (sv : Value) (ls : List Lt) : Prop where
  len : s.length = q + 1
  eq : os.length = q + 1
  num : ∀ (i : Nat) (x : Lt), s[i]? = some x → x.n = i
  o0 : os[0]? = some true
  lx : LX false wr B z q sv ls
  ks : ls.map Lt.k = fl s os
  ne : ∀ g, sv.ownBlock = some g → vs.ownBlock ≠ some g
  rowS : wr.ownsRow B 31 3 vs (q + 1) (ltc s)
  rowO : wr.ownsRow B 4 1 vo (q + 1) (bls os)
  rd : ReadsB wr B s
  low : Below B w wr
section
variable {B z q : Nat} {w wr w' : World} {vs vo sv : Value} {s ls : List Lt} {os : List Bool}
theorem On.leB (h : On B z w wr vs vo q s os sv ls) : B ≤ wr.heap.size := h.lx.leB
theorem On.later (h : On B z w wr vs vo q s os sv ls) (hb : Below wr.heap.size wr w') : On B z w w' vs vo q s os sv ls :=
  ⟨h.len, h.eq, h.num, h.o0, h.lx.later hb, h.ks, h.ne, owned_later h.rowS hb, owned_later h.rowO hb, h.rd.below (hb.mono h.leB), h.low.trans (hb.mono h.leB)⟩
/-- Behind a call on the link. -/
theorem On.call (h : On B z w wr vs vo q s os sv ls) {last' : Int} {ks' : List Key} (hl : Left false B z sv last' ks' wr w') :
    ∃ sv' ls', LX false w' B z last' sv' ls' ∧ ls'.map Lt.k = ks' ∧ (∀ g, sv'.ownBlock = some g → vs.ownBlock ≠ some g) ∧ w'.ownsRow B 31 3 vs (q + 1) (ltc s) ∧ w'.ownsRow B 4 1 vo (q + 1) (bls os) ∧ ReadsB w' B s ∧ Below B w w' := by
  obtain ⟨sv', ls', h0, h1, h2, h3⟩ := hl
  have hb := h.lx.low h2
  refine ⟨sv', ls', h1, h0, fun g hg hg2 => ?_, owned_two h.rowS h2 (fun g hg => ⟨owned_blk_ne h.rowS h.lx.blk (oty_ne false) g hg, fun e => h.ne g e hg⟩), owned_two h.rowO h2 (fun g hg => ⟨owned_blk_ne h.rowO h.lx.blk (by decide) g hg, fun e => ne_by_type h.rowO h.lx.own (by decide) g hg e⟩), h.rd.below hb, h.low.trans hb⟩
  rcases h3 g hg with h4 | h4
  · exact h.ne g h4 hg2
  · have := (h.rowS.lt g hg2).2; omega
/-- The same letters, behind a call. -/
theorem On.same (h : On B z w wr vs vo q s os sv ls) {os' : List Bool} (he : os'.length = os.length) (h0 : os'[0]? = some true) (hl : Left false B z sv q (fl s os') wr w') (hO : w'.ownsRow B 4 1 vo (q + 1) (bls os) → w'.ownsRow B 4 1 vo (q + 1) (bls os')) : ∃ sv' ls', On B z w w' vs vo q s os' sv' ls' := by
  obtain ⟨sv', ls', h1, h2, h3, h4, h5, h6, h7⟩ := h.call hl
  exact ⟨sv', ls', h.len, by rw [he, h.eq], h.num, h0, h1, h2, h3, h4, hO h5, h6, h7⟩
end
end Go.Proofs.Ytigedoonhmaghaa
