/- Steps that came in. -/
import Derived.Deep.SlicePairs
import Derived.Test.YtagehcnbllkipaaOpen
import Derived.Test.YtagehcnbllkipaaWs
namespace Go.Proofs.Ytagehcnbllkipaa
open Go.RowKit Go.Lg Go.Deep Go.ChangeShapes
set_option linter.unusedVariables false
set_option linter.unusedSimpArgs false

theorem open_steps {H : Type} {enc : TypeId × Value → H} {W : World} {fuel : Nat} {A : Option Addr} {n c : Nat} {x : DataW H × List MemPlace}
    (h : DataW.trod enc Try.prog W 0 (fun _ => true) true fuel 39 (Value.slice A n c).cells.toList = some x) :
    n ≤ c ∧ c ≤ maxLen ∧ ∃ l, St W W.heap.size A n l := by
  rcases open_slice Try.underlying39 h with ⟨hcs, _⟩ | ⟨a, len, cap, m, k, D, Pl, hcs, _, hl, hm, hmm, _, hx⟩
  · simp [Value.cells] at hcs
    obtain ⟨rfl, rfl, rfl⟩ := hcs
    exact ⟨Nat.le_refl _, Nat.zero_le _, [], rfl, by simp, fun h => absurd h (by omega)⟩
  · simp [Value.cells] at hcs
    obtain ⟨rfl, rfl, rfl⟩ := hcs
    refine ⟨hl, hm, ?_⟩
    have k43 : Try.prog.cellsOf 43 = 3 := by kernel_rfl
    have k3 : Try.prog.cellsOf 3 = 1 := by kernel_rfl
    have hmn : n ≤ m := by rw [hmm]; simp; exact hl
    have each : ∀ i, i < n → ∃ q : Int × Int × Int, (-9223372036854775808 ≤ q.1 ∧ q.1 ≤ 9223372036854775807) ∧ W.cell? (a.add (i * 3)) = some (.int .i64 q.1) ∧ W.cell? (a.add (i * 3 + 1)) = some (.int .i64 q.2.1) ∧ W.cell? (a.add (i * 3 + 2)) = some (.int .i64 q.2.2) := by
      intro i hi
      obtain ⟨cs', h1, h2⟩ := hx i (by omega)
      rw [k43] at h1
      obtain ⟨_, hlen, hcell⟩ := World.cells?_some h1
      obtain ⟨xs, n', _, _, _, hxl, hf⟩ := DataW.trod_struct Try.underlying43 h2
      match xs, hxl, cs', hlen with
      | [y0, y1, y2], _, [v0, v1, v2], _ =>
        have g0 : DataW.trod enc Try.prog W 0 (fun _ => true) true n' 3 [v0] = some y0 := by
          have h := hf 0 _ rfl
          simpa [k3] using h
        have g1 : DataW.trod enc Try.prog W 0 (fun _ => true) true n' 3 [v1] = some y1 := by
          have h := hf 1 _ rfl
          simpa [k3] using h
        have g2 : DataW.trod enc Try.prog W 0 (fun _ => true) true n' 3 [v2] = some y2 := by
          have h := hf 2 _ rfl
          simpa [k3] using h
        obtain ⟨a0, e0, _, w0⟩ := DataW.trod_int Try.underlying3 g0
        obtain ⟨a1, e1, _, w1⟩ := DataW.trod_int Try.underlying3 g1
        obtain ⟨a2, e2, _, w2⟩ := DataW.trod_int Try.underlying3 g2
        simp only [List.cons.injEq, and_true] at e0 e1 e2
        subst e0 e1 e2
        have c0 := hcell 0 (by omega)
        have c1 := hcell 1 (by omega)
        have c2 := hcell 2 (by omega)
        rw [add_add] at c0 c1 c2
        have hb := bounds_i64 w0
        exact ⟨(a0, a1, a2), hb, by simpa using c0, by simpa using c1, by simpa using c2⟩
    obtain ⟨y, hy⟩ := choose_lt each
    refine ⟨(List.range n).map y, by simp, ?_, fun hn => ?_⟩
    · intro s hs
      obtain ⟨i, hi, rfl⟩ := List.mem_map.1 hs
      exact (hy i (List.mem_range.1 hi)).1
    · obtain ⟨b, off, rfl, hb⟩ := cell_addr (w := W) (x := a) (v := .int .i64 (y 0).1) (by have := (hy 0 hn).2.1; simpa using this)
      refine ⟨b, off, rfl, hb, fun j s hs => ?_⟩
      have hj : j < n := by
        have := (List.getElem?_eq_some_iff.1 hs).1
        simpa using this
      simp [hj] at hs
      subst hs
      obtain ⟨_, h1, h2, h3⟩ := hy j hj
      rw [Addr.add_lit] at h1 h2 h3
      exact ⟨h1, by rw [Nat.add_assoc]; exact h2, by rw [Nat.add_assoc]; exact h3⟩
end Go.Proofs.Ytagehcnbllkipaa
