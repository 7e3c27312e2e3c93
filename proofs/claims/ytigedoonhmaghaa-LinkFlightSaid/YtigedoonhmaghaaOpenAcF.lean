/- Acts that came in. -/
import Derived.Deep.SlicePairs
import Derived.Deep.Strs
import Derived.Deep.Fields
import Derived.Lib.SmallJoins
import Derived.Test.YtigedoonhmaghaaOpen
import Derived.Test.YtigedoonhmaghaaAcF
namespace Go.Proofs.Ytigedoonhmaghaa
open Go.RowKit Go.Lg Go.Deep Go.ChangeShapes Go.WideShapes Go.ChangeAt
variable {F : Nat}
set_option linter.unusedVariables false
set_option linter.unusedSimpArgs false

instance : Inhabited Am := ⟨⟨0, 0, none, 0, 0, []⟩⟩
theorem array3 {α : Type} {cs : Array α} (h : cs.size = 3) : ∃ c0 c1 c2, cs = #[c0, c1, c2] := by
  obtain ⟨l⟩ := cs
  match l, h with
  | [c0, c1, c2], _ => exact ⟨c0, c1, c2, rfl⟩
theorem open_by {H : Type} {enc : TypeId × Value → H} {W : World} {fuel : Nat} {A : Option Addr} {n c : Nat} {x : DataW H × List MemPlace}
    (h : DataW.trod enc Try.prog W 0 (fun _ => true) true fuel 29 (Value.slice A n c).cells.toList = some x) : n ≤ c ∧ c ≤ maxLen ∧ ∃ l, Rd W W.heap.size 1 A n (bts l) := by
  obtain ⟨zs, hz⟩ : ∃ zs, IsRow .u8 W A n c zs := by
    rcases open_ints Try.underlying29 Try.underlying5 (by kernel_rfl) h with ⟨hcs, _⟩ | ⟨x, l, c, zs, hcs, _, hl, hm, hz, hx, hcell, hwz⟩
    · simp [Value.cells] at hcs
      obtain ⟨rfl, rfl, rfl⟩ := hcs
      exact ⟨[], .inl ⟨rfl, rfl, rfl, rfl⟩⟩
    · simp [Value.cells] at hcs
      obtain ⟨rfl, rfl, rfl⟩ := hcs
      exact ⟨zs, .inr ⟨_, rfl, hl, hm, by simpa using hz, hcell, hwz⟩⟩
  obtain ⟨h1, h2, _, _⟩ := rd_ints hz
  exact ⟨h1, h2, rd_bytes hz⟩
theorem slice_by {H : Type} {enc : TypeId × Value → H} {W : World} {fuel : Nat} {v2 : Value} {y : DataW H × List MemPlace} (h : DataW.trod enc Try.prog W 0 (fun _ => true) true fuel 29 [v2] = some y) : ∃ A n c, v2 = .slice A n c := by
  rcases open_slice Try.underlying29 h with ⟨hcs, _⟩ | ⟨a, len, cap, m, k, D, Pl, hcs, _⟩
  · simp at hcs
    exact ⟨_, _, _, hcs⟩
  · simp at hcs
    exact ⟨_, _, _, hcs⟩
theorem trod_act {H : Type} {enc : TypeId × Value → H} {W : World} {fuel : Nat} {v0 v1 v2 : Value} {x : DataW H × List MemPlace} (h2 : DataW.trod enc Try.prog W 0 (fun _ => true) true fuel 40 [v0, v1, v2] = some x) :
    ∃ m : Am, v0 = .int .i64 m.kind ∧ v1 = .int .i64 m.n ∧ v2 = .slice m.A m.m m.c ∧ m.ok W W.heap.size := by
  have k3 : Try.prog.cellsOf 3 = 1 := by kernel_rfl
  have k29 : Try.prog.cellsOf 29 = 1 := by kernel_rfl
  obtain ⟨y0, y1, y2, n', hxx, _, f0, f1, f2⟩ := trod_struct3 Try.underlying40 h2
  simp only [k3, k29, List.drop, List.take] at f0 f1 f2
  obtain ⟨a, e0, _, w0⟩ := DataW.trod_int Try.underlying3 f0
  obtain ⟨b, e1, _, w1⟩ := DataW.trod_int Try.underlying3 f1
  obtain ⟨A, n, c, rfl⟩ := slice_by f2
  simp only [List.cons.injEq, and_true] at e0 e1
  subst e0 e1
  obtain ⟨h1, h3, l, hl⟩ := open_by (A := A) (n := n) (c := c) f2
  exact ⟨⟨a, b, A, n, c, l⟩, rfl, rfl, rfl, hl, bounds_i64 w0, bounds_i64 w1, h1, h3⟩
theorem open_act {H : Type} {enc : TypeId × Value → H} {W : World} {r : Reach} {b0 : Nat} {v : Value} {d : DataW H} {ps : List MemPlace}
    (hv : Value.okWide Try.prog W r b0 40 v) (h : DataW.Trod enc Try.prog W 0 (fun _ => true) true 40 v d ps) : ∃ m : Am, v = m.v ∧ m.ok W W.heap.size := by
  obtain ⟨cs, rfl, hsz⟩ := okWide_struct Try.underlying40 hv
  obtain ⟨c0, c1, c2, rfl⟩ := array3 (hsz.trans (by kernel_rfl))
  obtain ⟨fuel, hf⟩ := h
  obtain ⟨m, rfl, rfl, rfl, h3⟩ := trod_act (v0 := c0) (v1 := c1) (v2 := c2) hf
  exact ⟨m, rfl, h3⟩
theorem open_acts {H : Type} {enc : TypeId × Value → H} {W : World} {fuel : Nat} {A : Option Addr} {n c : Nat} {x : DataW H × List MemPlace}
    (h : DataW.trod enc Try.prog W 0 (fun _ => true) true fuel 35 (Value.slice A n c).cells.toList = some x) :
    n ≤ c ∧ c ≤ maxLen ∧ ∃ l, AS W W.heap.size A n l := by
  rcases open_slice Try.underlying35 h with ⟨hcs, _⟩ | ⟨a, len, cap, m, k, D, Pl, hcs, _, hl, hm, hmm, _, hx⟩
  · simp [Value.cells] at hcs
    obtain ⟨rfl, rfl, rfl⟩ := hcs
    exact ⟨Nat.le_refl _, Nat.zero_le _, [], Rd.nil_, rfl, fun a ha => by cases ha⟩
  · simp [Value.cells] at hcs
    obtain ⟨rfl, rfl, rfl⟩ := hcs
    refine ⟨hl, hm, ?_⟩
    have k40 : Try.prog.cellsOf 40 = 3 := by kernel_rfl
    have hmn : n ≤ m := by rw [hmm]; simp; exact hl
    have each : ∀ i, i < n → ∃ q : Am, W.cell? (a.add (i * 3)) = some (.int .i64 q.kind) ∧ W.cell? (a.add (i * 3 + 1)) = some (.int .i64 q.n) ∧ W.cell? (a.add (i * 3 + 2)) = some (.slice q.A q.m q.c) ∧ q.ok W W.heap.size := by
      intro i hi
      obtain ⟨cs', h1, h2⟩ := hx i (by omega)
      rw [k40] at h1
      obtain ⟨_, hlen, hcell⟩ := World.cells?_some h1
      match cs', hlen with
      | [v0, v1, v2], _ =>
        obtain ⟨q, rfl, rfl, rfl, hw⟩ := trod_act h2
        have c0 := hcell 0 (by omega)
        have c1 := hcell 1 (by omega)
        have c2 := hcell 2 (by omega)
        rw [add_add] at c0 c1 c2
        exact ⟨q, by simpa using c0, by simpa using c1, by simpa using c2, hw⟩
    obtain ⟨y, hy⟩ := choose_lt each
    refine ⟨(List.range n).map y, ⟨by rw [acc_len]; simp, fun hn => ?_⟩, by simp, ?_⟩
    · obtain ⟨b, off, rfl, hb⟩ := cell_addr (w := W) (x := a) (v := .int .i64 (y 0).kind) (by have := (hy 0 hn).1; simpa using this)
      refine ⟨b, off, rfl, hb, fun k u hu => ?_⟩
      obtain ⟨j, o, hj, hu⟩ := acc_inv _ _ _ hu
      rw [List.getElem?_map] at hj
      have hjn : j < n := by
        rcases Nat.lt_or_ge j n with q | q
        · exact q
        · rw [List.getElem?_eq_none (by simpa using q)] at hj
          cases hj
      rw [List.getElem?_range hjn] at hj
      simp only [Option.map_some, Option.some.injEq] at hj
      subst hj
      obtain ⟨h0, h1, h2, _⟩ := hy j hjn
      rw [Addr.add_lit] at h0 h1 h2
      rcases hu with ⟨rfl, rfl⟩ | ⟨rfl, rfl⟩ | ⟨rfl, rfl⟩
      · exact h0
      · exact h1
      · exact h2
    · intro q hq
      obtain ⟨j, hj, rfl⟩ := List.mem_map.1 hq
      exact (hy j (List.mem_range.1 hj)).2.2.2
end Go.Proofs.Ytigedoonhmaghaa
