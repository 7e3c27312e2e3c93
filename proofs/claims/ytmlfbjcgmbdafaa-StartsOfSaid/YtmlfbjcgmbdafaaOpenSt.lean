/- Starts that came in. -/
import Derived.Deep.SlicePairs
import Derived.Test.YtmlfbjcgmbdafaaOpen
import Derived.Test.YtmlfbjcgmbdafaaSa
namespace Go.Proofs.Ytmlfbjcgmbdafaa
open Go.RowKit Go.Lg Go.Deep Go.ChangeShapes
set_option linter.unusedVariables false
set_option linter.unusedSimpArgs false

theorem sts_inv : ∀ (l : List (Int × Int)) (k : Nat) (u : Value), (sts l)[k]? = some u → ∃ j, j < l.length ∧ ((k = j * 2 ∧ u = .int .i64 (Sl.E l j)) ∨ (k = j * 2 + 1 ∧ u = .int .i64 (Sl.F l j)))
  | [], k, u, h => by simp [sts] at h
  | a :: l, 0, u, h => by
    have e1 : sts (a :: l) = .int .i64 a.1 :: .int .i64 a.2 :: sts l := rfl
    rw [e1] at h
    simp at h
    exact ⟨0, by simp, .inl ⟨rfl, h.symm⟩⟩
  | a :: l, 1, u, h => by
    have e1 : sts (a :: l) = .int .i64 a.1 :: .int .i64 a.2 :: sts l := rfl
    rw [e1] at h
    simp at h
    exact ⟨0, by simp, .inr ⟨rfl, h.symm⟩⟩
  | a :: l, k + 2, u, h => by
    have e1 : sts (a :: l) = .int .i64 a.1 :: .int .i64 a.2 :: sts l := rfl
    rw [e1] at h
    obtain ⟨j, h1, h2⟩ := sts_inv l k u (by simpa using h)
    refine ⟨j + 1, by simpa using h1, ?_⟩
    rcases h2 with ⟨rfl, rfl⟩ | ⟨rfl, rfl⟩
    · exact .inl ⟨by omega, rfl⟩
    · exact .inr ⟨by omega, rfl⟩
theorem map_E (y : Nat → Int × Int) (n j : Nat) (h : j < n) : Sl.E ((List.range n).map y) j = (y j).1 ∧ Sl.F ((List.range n).map y) j = (y j).2 := by
  simp [Sl.E, Sl.F, h]
theorem open_starts {H : Type} {enc : TypeId × Value → H} {W : World} {fuel : Nat} {A : Option Addr} {n c : Nat} {x : DataW H × List MemPlace}
    (h : DataW.trod enc Try.prog W 0 (fun _ => true) true fuel 22 (Value.slice A n c).cells.toList = some x) :
    n ≤ c ∧ c ≤ maxLen ∧ ∃ l, SS W W.heap.size A n l := by
  rcases open_slice Try.underlying22 h with ⟨hcs, _⟩ | ⟨a, len, cap, m, k, D, Pl, hcs, _, hl, hm, hmm, _, hx⟩
  · simp [Value.cells] at hcs
    obtain ⟨rfl, rfl, rfl⟩ := hcs
    exact ⟨Nat.le_refl _, Nat.zero_le _, [], Rd.nil_, rfl⟩
  · simp [Value.cells] at hcs
    obtain ⟨rfl, rfl, rfl⟩ := hcs
    refine ⟨hl, hm, ?_⟩
    have k58 : Try.prog.cellsOf 58 = 2 := by kernel_rfl
    have k3 : Try.prog.cellsOf 3 = 1 := by kernel_rfl
    have hmn : n ≤ m := by rw [hmm]; simp; exact hl
    have each : ∀ i, i < n → ∃ q : Int × Int, W.cell? (a.add (i * 2)) = some (.int .i64 q.1) ∧ W.cell? (a.add (i * 2 + 1)) = some (.int .i64 q.2) := by
      intro i hi
      obtain ⟨cs', h1, h2⟩ := hx i (by omega)
      rw [k58] at h1
      obtain ⟨_, hlen, hcell⟩ := World.cells?_some h1
      obtain ⟨xs, n', _, _, _, hxl, hf⟩ := DataW.trod_struct Try.underlying58 h2
      match xs, hxl, cs', hlen with
      | [y0, y1], _, [v0, v1], _ =>
        have g0 : DataW.trod enc Try.prog W 0 (fun _ => true) true n' 3 [v0] = some y0 := by
          have h := hf 0 _ rfl
          simpa [k3] using h
        have g1 : DataW.trod enc Try.prog W 0 (fun _ => true) true n' 3 [v1] = some y1 := by
          have h := hf 1 _ rfl
          simpa [k3] using h
        obtain ⟨a0, e0, _, w0⟩ := DataW.trod_int Try.underlying3 g0
        obtain ⟨a1, e1, _, w1⟩ := DataW.trod_int Try.underlying3 g1
        simp only [List.cons.injEq, and_true] at e0 e1
        subst e0 e1
        have c0 := hcell 0 (by omega)
        have c1 := hcell 1 (by omega)
        rw [add_add] at c0 c1
        exact ⟨(a0, a1), by simpa using c0, by simpa using c1⟩
    obtain ⟨y, hy⟩ := choose_lt each
    refine ⟨(List.range n).map y, ⟨by rw [sts_length]; simp, fun hn => ?_⟩, by simp⟩
    obtain ⟨b, off, rfl, hb⟩ := cell_addr (w := W) (x := a) (v := .int .i64 (y 0).1) (by have := (hy 0 hn).1; simpa using this)
    refine ⟨b, off, rfl, hb, fun k u hu => ?_⟩
    obtain ⟨j, hj, hu⟩ := sts_inv _ _ _ hu
    have hj : j < n := by simpa using hj
    obtain ⟨h0, h1⟩ := hy j hj
    obtain ⟨e0, e1⟩ := map_E y n j hj
    rw [Addr.add_lit] at h0 h1
    rcases hu with ⟨rfl, rfl⟩ | ⟨rfl, rfl⟩
    · rw [e0]
      exact h0
    · rw [e1]
      exact h1
end Go.Proofs.Ytmlfbjcgmbdafaa
