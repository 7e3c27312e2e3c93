/- Whatever is done to a link, call by call, it answers and carries what the document says: the walk. -/
import Derived.Test.YtigedoonhmaghaaSb
import Derived.Test.YtigedoonhmaghaaRcF
import Derived.Test.YtigedoonhmaghaaApartF
namespace Go.Proofs.Ytigedoonhmaghaa
open Go.RowKit Go.Lg
set_option linter.unusedVariables false
set_option linter.unusedSimpArgs false

/-- A row whose block stays. -/
theorem owned_still {w w' : World} {base : Nat} {e : TypeId} {sz n : Nat} {v : Value} {xs : List Value} (h : w.ownsRow base e sz v n xs) (hb : ∀ g, v.ownBlock = some g → w'.heap[g]? = w.heap[g]?) : w'.ownsRow base e sz v n xs := by
  refine ⟨h.1, ?_⟩
  rcases h.2 with h2 | ⟨g, cap, cur, rfl, h3, h4, h5⟩
  · exact .inl h2
  · exact .inr ⟨g, cap, cur, rfl, h3, (hb g rfl).trans h4, h5⟩
/-- A round's start: the bytes lent lie in a block that no letter lies in. -/
theorem Pair.newF {F f B z1 z2 : Nat} {q : Int} {ks : List Key} {w w' : World} (h : Pair F w B z1 z2 q ks) (hb : Below w.heap.size w w') (hf : w.heap.size ≤ f) (hf2 : f < w'.heap.size) : Pair f w' B z1 z2 q ks := by
  obtain ⟨sv1, ls1, sv2, ls2, hd, h1, h2⟩ := h
  exact ⟨sv1, ls1, sv2, ls2, ⟨hd.t1.newF hb hf hf2, hd.t2.newF hb hf hf2, hd.hz, hd.hs⟩, h1, h2⟩
theorem Pair.later {F B z1 z2 : Nat} {q : Int} {ks : List Key} {w w' : World} (h : Pair F w B z1 z2 q ks) (hb : Below w.heap.size w w') : Pair F w' B z1 z2 q ks := by
  obtain ⟨sv1, ls1, sv2, ls2, hd, h1, h2⟩ := h
  exact ⟨sv1, ls1, sv2, ls2, hd.later hb, h1, h2⟩
theorem Pair.wrote {F B z1 z2 b n : Nat} {q : Int} {ks : List Key} {w w' : World} {v : Value} {xs : List Value} (h : Pair F w B z1 z2 q ks) (hrow : w.ownsRow b 5 1 v n xs) (hv : ∀ g, v.ownBlock = some g → g = F) (hg : w.grownBy w' v.ownBlock) : Pair F w' B z1 z2 q ks := by
  obtain ⟨sv1, ls1, sv2, ls2, hd, h1, h2⟩ := h
  exact ⟨sv1, ls1, sv2, ls2, ⟨hd.t1.wrote hrow hv hg, hd.t2.wrote hrow hv hg, hd.hz, hd.hs⟩, h1, h2⟩
theorem Pair.leB {F B z1 z2 : Nat} {q : Int} {ks : List Key} {w : World} (h : Pair F w B z1 z2 q ks) : B ≤ w.heap.size := by
  obtain ⟨sv1, ls1, sv2, ls2, hd, h1, h2⟩ := h
  exact hd.t1.leB
theorem Pair.le {F B z1 z2 : Nat} {q : Int} {ks : List Key} {w : World} (h : Pair F w B z1 z2 q ks) : ks.length ≤ 512 := by
  obtain ⟨sv1, ls1, sv2, ls2, hd, h1, h2⟩ := h
  have := hd.t1.le
  rw [← h1]
  simpa using this
/-- What both links tell of their letters. -/
def Tells (H : Nat) (ks : List Key) (w : World) (e : Ending) (w' : World) : Prop :=
  ∃ A c ls', e = .returned (.slice A ls'.length c) ∧ w'.ownsRow H 31 3 (.slice A ls'.length c) ls'.length (ltc ls') ∧ ls'.map Lt.k = ks ∧ (∀ x ∈ ls', Own1 H w' x) ∧ Apart ls' ∧ Below H w w'
theorem tells_of {ls : List Lt} {ks : List Key} {w w' : World} {e : Ending} (hk : ls.map Lt.k = ks) (h : Flown ls w e w') : Tells w.heap.size ks w e w' := by
  obtain ⟨v, ls', rfl, ho, hf, hb⟩ := h
  obtain ⟨A, c, rfl, _, _⟩ := owned_slice ho
  exact ⟨A, c, ls', rfl, ho, by rw [hf.keys, List.take_of_length_le (Nat.le_refl _), hk], hf.own, hf.apart, hb⟩
theorem Pair.flight1 {F B z1 z2 : Nat} {q : Int} {ks : List Key} {w : World} (h : Pair F w B z1 z2 q ks) : Calls Try.prog 21 #[P z1] w (Tells w.heap.size ks w) := by
  obtain ⟨sv1, ls1, sv2, ls2, hd, h1, h2⟩ := h
  exact (flight21 hd.t1).mono fun e w' k => tells_of h1 k
theorem Pair.flight2 {F B z1 z2 : Nat} {q : Int} {ks : List Key} {w : World} (h : Pair F w B z1 z2 q ks) : Calls Try.prog 22 #[P z2] w (Tells w.heap.size ks w) := by
  obtain ⟨sv1, ls1, sv2, ls2, hd, h1, h2⟩ := h
  exact (flight22 hd.t2).mono fun e w' k => tells_of h2 k
theorem own_reads {H : Nat} {w : World} {l : List Lt} (h : ∀ x ∈ l, Own1 H w x) : Reads w l := fun x hx => (h x hx).reads
end Go.Proofs.Ytigedoonhmaghaa
