/- Acts that came in. -/
import Derived.Deep.SlicePairs
import Derived.Deep.Strs
import Derived.Deep.Fields
import Derived.Lib.SmallJoins
import Derived.Test.YtlbekgephjlffaaOpen
import Derived.Test.YtlbekgephjlffaaAc
namespace Go.Proofs.Ytlbekgephjlffaa
open Go.RowKit Go.Lg Go.Deep Go.ChangeShapes Go.WideShapes Go.ChangeAt
set_option linter.unusedVariables false
set_option linter.unusedSimpArgs false

instance : Inhabited Ac := ⟨⟨0, ⟨#[]⟩, ⟨#[]⟩, 0⟩⟩
theorem array4 {α : Type} {cs : Array α} (h : cs.size = 4) : ∃ c0 c1 c2 c3, cs = #[c0, c1, c2, c3] := by
  obtain ⟨l⟩ := cs
  match l, h with
  | [c0, c1, c2, c3], _ => exact ⟨c0, c1, c2, c3, rfl⟩
theorem trod_act {H : Type} {enc : TypeId × Value → H} {W : World} {fuel : Nat} {v0 v1 v2 v3 : Value} {x : DataW H × List MemPlace} (h2 : DataW.trod enc Try.prog W 0 (fun _ => true) true fuel 29 [v0, v1, v2, v3] = some x) :
    ∃ a : Ac, v0 = .int .i64 a.kind ∧ v1 = .string a.key ∧ v2 = .string a.val ∧ v3 = .int .i64 a.n ∧ a.wf := by
  have k3 : Try.prog.cellsOf 3 = 1 := by kernel_rfl
  have k9 : Try.prog.cellsOf 9 = 1 := by kernel_rfl
  obtain ⟨y0, y1, y2, y3, n', _, _, f0, f1, f2, f3⟩ := Go.Joins.trod_struct4 Try.underlying29 h2
  simp only [k3, k9, List.drop, List.take] at f0 f1 f2 f3
  obtain ⟨k, e0, _, w0⟩ := DataW.trod_int Try.underlying3 f0
  obtain ⟨key, e1, _⟩ := DataW.trod_string Try.underlying9 f1
  obtain ⟨v, e2, _⟩ := DataW.trod_string Try.underlying9 f2
  obtain ⟨m, e3, _⟩ := DataW.trod_int Try.underlying3 f3
  simp only [List.cons.injEq, and_true] at e0 e1 e2 e3
  subst e0 e1 e2 e3
  exact ⟨⟨k, key, v, m⟩, rfl, rfl, rfl, rfl, bounds_i64 w0⟩
theorem open_act {H : Type} {enc : TypeId × Value → H} {W : World} {r : Reach} {b0 : Nat} {v : Value} {d : DataW H} {ps : List MemPlace}
    (hv : Value.okWide Try.prog W r b0 29 v) (h : DataW.Trod enc Try.prog W 0 (fun _ => true) true 29 v d ps) : ∃ a : Ac, v = a.v ∧ a.wf := by
  obtain ⟨cs, rfl, hsz⟩ := okWide_struct Try.underlying29 hv
  obtain ⟨c0, c1, c2, c3, rfl⟩ := array4 (hsz.trans (by kernel_rfl))
  obtain ⟨fuel, hf⟩ := h
  obtain ⟨a, rfl, rfl, rfl, rfl, hw⟩ := trod_act (v0 := c0) (v1 := c1) (v2 := c2) (v3 := c3) hf
  exact ⟨a, rfl, hw⟩
theorem open_acts {H : Type} {enc : TypeId × Value → H} {W : World} {fuel : Nat} {A : Option Addr} {n c : Nat} {x : DataW H × List MemPlace}
    (h : DataW.trod enc Try.prog W 0 (fun _ => true) true fuel 22 (Value.slice A n c).cells.toList = some x) :
    n ≤ c ∧ c ≤ maxLen ∧ ∃ l, AS W W.heap.size A n l := by
  rcases open_slice Try.underlying22 h with ⟨hcs, _⟩ | ⟨a, len, cap, m, k, D, Pl, hcs, _, hl, hm, hmm, _, hx⟩
  · simp [Value.cells] at hcs
    obtain ⟨rfl, rfl, rfl⟩ := hcs
    exact ⟨Nat.le_refl _, Nat.zero_le _, [], Rd.nil_, rfl, fun a ha => by cases ha⟩
  · simp [Value.cells] at hcs
    obtain ⟨rfl, rfl, rfl⟩ := hcs
    refine ⟨hl, hm, ?_⟩
    have k29 : Try.prog.cellsOf 29 = 4 := by kernel_rfl
    have hmn : n ≤ m := by rw [hmm]; simp; exact hl
    have each : ∀ i, i < n → ∃ q : Ac, W.cell? (a.add (i * 4)) = some (.int .i64 q.kind) ∧ W.cell? (a.add (i * 4 + 1)) = some (.string q.key) ∧ W.cell? (a.add (i * 4 + 2)) = some (.string q.val) ∧ W.cell? (a.add (i * 4 + 3)) = some (.int .i64 q.n) ∧ q.wf := by
      intro i hi
      obtain ⟨cs', h1, h2⟩ := hx i (by omega)
      rw [k29] at h1
      obtain ⟨_, hlen, hcell⟩ := World.cells?_some h1
      match cs', hlen with
      | [v0, v1, v2, v3], _ =>
        obtain ⟨q, rfl, rfl, rfl, rfl, hw⟩ := trod_act h2
        have c0 := hcell 0 (by omega)
        have c1 := hcell 1 (by omega)
        have c2 := hcell 2 (by omega)
        have c3 := hcell 3 (by omega)
        rw [add_add] at c0 c1 c2 c3
        exact ⟨q, by simpa using c0, by simpa using c1, by simpa using c2, by simpa using c3, hw⟩
    obtain ⟨y, hy⟩ := choose_lt each
    refine ⟨(List.range n).map y, ⟨by rw [acc_len]; simp, fun hn => ?_⟩, by simp, ?_⟩
    · obtain ⟨b, off, rfl, hb⟩ := cell_addr (w := W) (x := a) (v := .int .i64 (y 0).kind) (by have := (hy 0 hn).1; simpa using this)
      refine ⟨b, off, rfl, hb, fun k u hu => ?_⟩
      obtain ⟨j, o, hj, hu⟩ := acc_inv _ _ _ hu
      rw [List.getElem?_map] at hj
      have hjn : j < n := by
        rcases Nat.lt_or_ge j n with q | q
        · exact q
        · rw [List.getElem?_eq_none (by simpa using q)] at hj
          cases hj
      rw [List.getElem?_range hjn] at hj
      simp only [Option.map_some, Option.some.injEq] at hj
      subst hj
      obtain ⟨h0, h1, h2, h3, _⟩ := hy j hjn
      rw [Addr.add_lit] at h0 h1 h2 h3
      rcases hu with ⟨rfl, rfl⟩ | ⟨rfl, rfl⟩ | ⟨rfl, rfl⟩ | ⟨rfl, rfl⟩
      · exact h0
      · exact h1
      · exact h2
      · exact h3
    · intro a ha
      obtain ⟨i, hi, rfl⟩ := List.mem_map.1 ha
      exact (hy i (by simpa using hi)).2.2.2.2
end Go.Proofs.Ytlbekgephjlffaa
