/- Pages that came in, any number. -/
import Derived.Deep.SlicePairs
import Derived.Test.YtcfopaphpjmopaaOpen
import Derived.Test.YtcfopaphpjmopaaBb
namespace Go.Proofs.Ytcfopaphpjmopaa
open Go.RowKit Go.Lg Go.Deep Go.ChangeShapes
set_option linter.unusedVariables false
set_option linter.unusedSimpArgs false

instance : Inhabited Pg := ⟨z⟩
theorem pgs_inv : ∀ (ps : List Pg) (k : Nat) (u : Value), (pgs ps)[k]? = some u → ∃ j i p, k = j * 6 + i ∧ i < 6 ∧ ps[j]? = some p ∧ p.cs.toList[i]? = some u
  | [], k, u, h => by simp [pgs] at h
  | a :: ps, k, u, h => by
    have e1 : pgs (a :: ps) = a.cs.toList ++ pgs ps := rfl
    rw [e1] at h
    by_cases hk : k < 6
    · rw [List.getElem?_append_left (by simpa using hk)] at h
      exact ⟨0, k, a, by omega, hk, rfl, h⟩
    · rw [List.getElem?_append_right (by simp; omega)] at h
      obtain ⟨j, i, p, h1, h2, h3, h4⟩ := pgs_inv ps _ u h
      simp at h1
      exact ⟨j + 1, i, p, by omega, h2, by simpa using h3, h4⟩
theorem pgs_length (ps : List Pg) : (pgs ps).length = ps.length * 6 := by
  induction ps with
  | nil => rfl
  | cons a ps ih =>
    have e1 : pgs (a :: ps) = a.cs.toList ++ pgs ps := rfl
    rw [e1, List.length_append, ih]
    simp
    omega
theorem open_pages {H : Type} {enc : TypeId × Value → H} {W : World} {fuel : Nat} {A : Option Addr} {n c : Nat} {x : DataW H × List MemPlace}
    (h : DataW.trod enc Try.prog W 0 (fun _ => true) true fuel 44 (Value.slice A n c).cells.toList = some x) :
    n ≤ c ∧ c ≤ maxLen ∧ ∃ ps, PS W W.heap.size A n ps := by
  rcases open_slice Try.underlying44 h with ⟨hcs, _⟩ | ⟨a, len, cap, m, k, D, Pl, hcs, _, hl, hm, hmm, _, hx⟩
  · simp [Value.cells] at hcs
    obtain ⟨rfl, rfl, rfl⟩ := hcs
    exact ⟨Nat.le_refl _, Nat.zero_le _, [], Rd.nil_, rfl⟩
  · simp [Value.cells] at hcs
    obtain ⟨rfl, rfl, rfl⟩ := hcs
    refine ⟨hl, hm, ?_⟩
    have k25 : Try.prog.cellsOf 25 = 6 := by kernel_rfl
    have k3 : Try.prog.cellsOf 3 = 1 := by kernel_rfl
    have k22 : Try.prog.cellsOf 22 = 1 := by kernel_rfl
    have k23 : Try.prog.cellsOf 23 = 1 := by kernel_rfl
    have hmn : n ≤ m := by rw [hmm]; simp; exact hl
    have each : ∀ i, i < n → ∃ q : Pg, W.cell? (a.add (i * 6)) = some (.int .i64 q.ep) ∧ W.cell? (a.add (i * 6 + 1)) = some (.int .u8 q.ro) ∧ W.cell? (a.add (i * 6 + 2)) = some (.int .i64 q.ac) ∧ W.cell? (a.add (i * 6 + 3)) = some (.int .u8 q.ph) ∧ W.cell? (a.add (i * 6 + 4)) = some (.int .i64 q.fo) ∧ W.cell? (a.add (i * 6 + 5)) = some (.int .i64 q.ba) := by
      intro i hi
      obtain ⟨cs', h1, h2⟩ := hx i (by omega)
      rw [k25] at h1
      obtain ⟨_, hlen, hcell⟩ := World.cells?_some h1
      obtain ⟨xs, n', _, _, _, hxl, hf⟩ := DataW.trod_struct Try.underlying25 h2
      match xs, hxl, cs', hlen with
      | [y0, y1, y2, y3, y4, y5], _, [v0, v1, v2, v3, v4, v5], _ =>
        have g0 : DataW.trod enc Try.prog W 0 (fun _ => true) true n' 3 [v0] = some y0 := by
          have h := hf 0 _ rfl
          simpa [k3, k22, k23] using h
        have g1 : DataW.trod enc Try.prog W 0 (fun _ => true) true n' 22 [v1] = some y1 := by
          have h := hf 1 _ rfl
          simpa [k3, k22, k23] using h
        have g2 : DataW.trod enc Try.prog W 0 (fun _ => true) true n' 3 [v2] = some y2 := by
          have h := hf 2 _ rfl
          simpa [k3, k22, k23] using h
        have g3 : DataW.trod enc Try.prog W 0 (fun _ => true) true n' 23 [v3] = some y3 := by
          have h := hf 3 _ rfl
          simpa [k3, k22, k23] using h
        have g4 : DataW.trod enc Try.prog W 0 (fun _ => true) true n' 3 [v4] = some y4 := by
          have h := hf 4 _ rfl
          simpa [k3, k22, k23] using h
        have g5 : DataW.trod enc Try.prog W 0 (fun _ => true) true n' 3 [v5] = some y5 := by
          have h := hf 5 _ rfl
          simpa [k3, k22, k23] using h
        obtain ⟨a0, e0, _, w0⟩ := DataW.trod_int Try.underlying3 g0
        obtain ⟨a1, e1, _, w1⟩ := DataW.trod_int Try.underlying22 g1
        obtain ⟨a2, e2, _, w2⟩ := DataW.trod_int Try.underlying3 g2
        obtain ⟨a3, e3, _, w3⟩ := DataW.trod_int Try.underlying23 g3
        obtain ⟨a4, e4, _, w4⟩ := DataW.trod_int Try.underlying3 g4
        obtain ⟨a5, e5, _, w5⟩ := DataW.trod_int Try.underlying3 g5
        simp only [List.cons.injEq, and_true] at e0 e1 e2 e3 e4 e5
        subst e0 e1 e2 e3 e4 e5
        have c0 := hcell 0 (by omega)
        have c1 := hcell 1 (by omega)
        have c2 := hcell 2 (by omega)
        have c3 := hcell 3 (by omega)
        have c4 := hcell 4 (by omega)
        have c5 := hcell 5 (by omega)
        rw [add_add] at c0 c1 c2 c3 c4 c5
        exact ⟨⟨a0, a1, a2, a3, a4, a5⟩, by simpa using c0, by simpa using c1, by simpa using c2, by simpa using c3, by simpa using c4, by simpa using c5⟩
    obtain ⟨y, hy⟩ := choose_lt each
    refine ⟨(List.range n).map y, ⟨by rw [pgs_length]; simp, fun hn => ?_⟩, by simp⟩
    obtain ⟨b, off, rfl, hb⟩ := cell_addr (w := W) (x := a) (v := .int .i64 (y 0).ep) (by have := (hy 0 hn).1; simpa using this)
    refine ⟨b, off, rfl, hb, fun k u hu => ?_⟩
    obtain ⟨j, i, p, rfl, hi, hp, hu⟩ := pgs_inv _ _ _ hu
    have hj : j < n := by
      have := (List.getElem?_eq_some_iff.1 hp).1
      simpa using this
    simp [hj] at hp
    subst hp
    obtain ⟨h0, h1, h2, h3, h4, h5⟩ := hy j hj
    rw [Addr.add_lit] at h0 h1 h2 h3 h4 h5
    match i, hi, hu with
    | 0, _, hu => obtain rfl := Option.some.inj hu; exact h0
    | 1, _, hu => obtain rfl := Option.some.inj hu; exact h1
    | 2, _, hu => obtain rfl := Option.some.inj hu; exact h2
    | 3, _, hu => obtain rfl := Option.some.inj hu; exact h3
    | 4, _, hu => obtain rfl := Option.some.inj hu; exact h4
    | 5, _, hu => obtain rfl := Option.some.inj hu; exact h5
end Go.Proofs.Ytcfopaphpjmopaa
