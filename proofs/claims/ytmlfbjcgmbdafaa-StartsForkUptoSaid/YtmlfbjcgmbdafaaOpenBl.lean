/- Bools that came in. -/
import Derived.Deep.SlicePairs
import Derived.Test.YtmlfbjcgmbdafaaOpen
import Derived.Test.YtmlfbjcgmbdafaaSw
namespace Go.Proofs.Ytmlfbjcgmbdafaa
open Go.RowKit Go.Lg Go.Deep Go.ChangeShapes
set_option linter.unusedVariables false
set_option linter.unusedSimpArgs false

theorem open_bools {H : Type} {enc : TypeId × Value → H} {W : World} {fuel : Nat} {A : Option Addr} {n c : Nat} {x : DataW H × List MemPlace}
    (h : DataW.trod enc Try.prog W 0 (fun _ => true) true fuel 51 (Value.slice A n c).cells.toList = some x) :
    n ≤ c ∧ c ≤ maxLen ∧ ∃ bs, Rd W W.heap.size 1 A n (bls bs) := by
  rcases open_slice Try.underlying51 h with ⟨hcs, _⟩ | ⟨a, len, cap, m, k, D, Pl, hcs, _, hl, hm, hmm, _, hx⟩
  · simp [Value.cells] at hcs
    obtain ⟨rfl, rfl, rfl⟩ := hcs
    exact ⟨Nat.le_refl _, Nat.zero_le _, [], Rd.nil_⟩
  · simp [Value.cells] at hcs
    obtain ⟨rfl, rfl, rfl⟩ := hcs
    refine ⟨hl, hm, ?_⟩
    have k4 : Try.prog.cellsOf 4 = 1 := by kernel_rfl
    have hmn : n ≤ m := by rw [hmm]; simp; exact hl
    have each : ∀ i, i < n → ∃ q : Bool, W.cell? (a.add i) = some (.bool q) := by
      intro i hi
      obtain ⟨cs', h1, h2⟩ := hx i (by omega)
      rw [k4] at h1
      obtain ⟨_, hlen, hcell⟩ := World.cells?_some h1
      match cs', hlen with
      | [v0], _ =>
        obtain ⟨q, e0, _⟩ := DataW.trod_bool Try.underlying4 h2
        simp only [List.cons.injEq, and_true] at e0
        subst e0
        have c0 := hcell 0 (by omega)
        rw [add_add] at c0
        exact ⟨q, by simpa using c0⟩
    obtain ⟨y, hy⟩ := choose_lt each
    refine ⟨(List.range n).map y, ⟨by simp [bls], fun hn => ?_⟩⟩
    obtain ⟨b, off, rfl, hb⟩ := cell_addr (w := W) (x := a) (v := .bool (y 0)) (by have := hy 0 hn; simpa using this)
    refine ⟨b, off, rfl, hb, fun k u hu => ?_⟩
    have hk : k < n := by
      have := (List.getElem?_eq_some_iff.1 hu).1
      simpa [bls] using this
    simp [bls, hk] at hu
    subst hu
    have h0 := hy k hk
    rw [Addr.add_lit] at h0
    exact h0
end Go.Proofs.Ytmlfbjcgmbdafaa
