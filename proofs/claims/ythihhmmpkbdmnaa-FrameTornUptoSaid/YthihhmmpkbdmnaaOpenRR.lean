/- From the reading of a slice of slices of bytes to the words of the walks. -/
import Derived.Deep.Matrix
import Derived.Test.YthihhmmpkbdmnaaOpen
import Derived.Test.YthihhmmpkbdmnaaFrm
namespace Go.Proofs.Ythihhmmpkbdmnaa
open Go.RowKit Go.Lg Go.Deep Go.ChangeShapes
set_option linter.unusedVariables false
set_option linter.unusedSimpArgs false

theorem open_rr {H : Type} {enc : TypeId × Value → H} {P : Program} {W : World} {t e q : TypeId} {fuel : Nat} {A : Option Addr} {n c : Nat} {x : DataW H × List MemPlace} (ht : P.underlying t = some (.slice e)) (he : P.underlying e = some (.slice q)) (hq : P.underlying q = some (.int .u8))
    (ce : P.cellsOf e = 1) (cq : P.cellsOf q = 1) (h : DataW.trod enc P W 0 (fun _ => true) true fuel t (Value.slice A n c).cells.toList = some x) :
    n ≤ c ∧ c ≤ maxLen ∧ ∃ vs rs, RR W W.heap.size A n vs rs := by
  rcases open_int_rows ht he hq ce cq h with ⟨hcs, _⟩ | ⟨a, len, cap, Ar, L, C, Z, hcs, _, hl, hm, hx, hrow⟩
  · simp [Value.cells] at hcs
    obtain ⟨rfl, rfl, rfl⟩ := hcs
    exact ⟨Nat.le_refl _, Nat.zero_le _, [], [], Rd.nil_, rfl, by simp⟩
  · simp [Value.cells] at hcs
    obtain ⟨rfl, rfl, rfl⟩ := hcs
    refine ⟨hl, hm, ?_⟩
    have each : ∀ r, r < n → ∃ l : List UInt8, Rd W W.heap.size 1 (Ar r) (L r) (bts l) ∧ l.length = L r ∧ L r ≤ 9223372036854775807 := by
      intro r hr
      obtain ⟨h1, h2, h3, h4, h5, h6, h7⟩ := hrow r (by omega)
      have hr : IsRow .u8 W (Ar r) (L r) (C r) (Z r) := by
        cases hA : Ar r with
        | none =>
          have h0 := h6 hA
          refine .inl ⟨rfl, by omega, h0, List.eq_nil_of_length_eq_zero (by omega)⟩
        | some a' => exact .inr ⟨a', rfl, h2, h3, h4, fun i hi => (h7 a' hA).2 i (by omega), h5⟩
      obtain ⟨l, hlr⟩ := rd_bytes hr
      have := hlr.1
      rw [bts_length] at this
      unfold maxLen at h3
      exact ⟨l, hlr, by omega, by omega⟩
    obtain ⟨y, hy⟩ := choose_lt each
    refine ⟨(List.range n).map fun r => .slice (Ar r) (L r) (C r), (List.range n).map y, ⟨by simp, fun hn => ?_⟩, by simp, ?_⟩
    · obtain ⟨b, off, rfl, hb⟩ := cell_addr (hrow 0 (by omega)).1
      refine ⟨b, off, rfl, hb, fun j u hu => ?_⟩
      have hj : j < n := by
        have := (List.getElem?_eq_some_iff.1 hu).1
        simp at this; omega
      have h1 := (hrow j (by omega)).1
      rw [Addr.add_lit] at h1
      rw [h1, ← hu]
      simp [hj]
    · intro i u r hu hr
      have hi : i < n := by
        have := (List.getElem?_eq_some_iff.1 hu).1
        simpa using this
      simp [hi] at hu hr
      subst hu hr
      obtain ⟨g1, g2, g3⟩ := hy i hi
      exact ⟨_, _, by rw [g2], by rw [g2]; exact g1, by omega⟩
end Go.Proofs.Ythihhmmpkbdmnaa
