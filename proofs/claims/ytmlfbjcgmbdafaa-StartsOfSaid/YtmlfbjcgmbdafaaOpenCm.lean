/- Commits that came in. -/
import Derived.Deep.SlicePairs
import Derived.Deep.Strs
import Derived.Deep.Fields
import Derived.Test.YtmlfbjcgmbdafaaOpenSt
import Derived.Test.YtmlfbjcgmbdafaaSq
import Derived.SizedLaws
namespace Go.Proofs.Ytmlfbjcgmbdafaa
open Go.RowKit Go.Lg Go.Deep Go.ChangeShapes Go.WideShapes Go.ChangeAt
set_option linter.unusedVariables false
set_option linter.unusedSimpArgs false

instance : Inhabited Op3 := ⟨⟨false, ⟨#[]⟩, ⟨#[]⟩⟩⟩
theorem opc_inv : ∀ (l : List Op3) (k : Nat) (u : Value), (opc l)[k]? = some u → ∃ j o, l[j]? = some o ∧ ((k = j * 3 ∧ u = .bool o.put) ∨ (k = j * 3 + 1 ∧ u = .string o.key) ∨ (k = j * 3 + 2 ∧ u = .string o.val))
  | [], k, u, h => by simp [opc] at h
  | a :: l, 0, u, h => ⟨0, a, rfl, .inl ⟨rfl, by simpa [opc] using h.symm⟩⟩
  | a :: l, 1, u, h => ⟨0, a, rfl, .inr (.inl ⟨rfl, by simpa [opc] using h.symm⟩)⟩
  | a :: l, 2, u, h => ⟨0, a, rfl, .inr (.inr ⟨rfl, by simpa [opc] using h.symm⟩)⟩
  | a :: l, k + 3, u, h => by
    have e1 : opc (a :: l) = .bool a.put :: .string a.key :: .string a.val :: opc l := rfl
    rw [e1] at h
    obtain ⟨j, o, h1, h2⟩ := opc_inv l k u (by simpa using h)
    refine ⟨j + 1, o, by simpa using h1, ?_⟩
    rcases h2 with ⟨rfl, rfl⟩ | ⟨rfl, rfl⟩ | ⟨rfl, rfl⟩
    · exact .inl ⟨by omega, rfl⟩
    · exact .inr (.inl ⟨by omega, rfl⟩)
    · exact .inr (.inr ⟨by omega, rfl⟩)
theorem opc_len (l : List Op3) : (opc l).length = l.length * 3 := by
  induction l with
  | nil => rfl
  | cons a l ih => simp only [opc, List.flatMap_cons, List.length_append, List.length_cons, List.length_nil] at ih ⊢; omega
theorem open_ops {H : Type} {enc : TypeId × Value → H} {W : World} {fuel : Nat} {A : Option Addr} {n c : Nat} {x : DataW H × List MemPlace}
    (h : DataW.trod enc Try.prog W 0 (fun _ => true) true fuel 38 (Value.slice A n c).cells.toList = some x) (hw : ∀ y ∈ x.1.weights Try.prog 38, y ≤ reachBytes) :
    n ≤ c ∧ c ≤ maxLen ∧ n ≤ 3518437208780 ∧ ∃ l, OS W W.heap.size A n l := by
  rcases open_slice Try.underlying38 h with ⟨hcs, _⟩ | ⟨a, len, cap, m, k, D, Pl, hcs, _, hl, hm, hmm, hxx, hx⟩
  · simp [Value.cells] at hcs
    obtain ⟨rfl, rfl, rfl⟩ := hcs
    exact ⟨Nat.le_refl _, Nat.zero_le _, Nat.zero_le _, [], Rd.nil_, rfl⟩
  · simp [Value.cells] at hcs
    obtain ⟨rfl, rfl, rfl⟩ := hcs
    have b68 : Try.prog.bytesOf 68 = 40 := by kernel_rfl
    have hby : n ≤ 3518437208780 := by
      have h9 := hw ((((List.range n).map D).length + ((List.range (m - n)).map fun j => D (n + j)).length) * Try.prog.bytesOf 68) (by rw [hxx]; simp [DataW.weights, Try.underlying38])
      rw [b68] at h9
      simp only [List.length_map, List.length_range, reachBytes] at h9
      omega
    clear hw
    refine ⟨hl, hm, hby, ?_⟩
    have k68 : Try.prog.cellsOf 68 = 3 := by kernel_rfl
    have k4 : Try.prog.cellsOf 4 = 1 := by kernel_rfl
    have k5 : Try.prog.cellsOf 9 = 1 := by kernel_rfl
    have hmn : n ≤ m := by rw [hmm]; simp; exact hl
    have each : ∀ i, i < n → ∃ q : Op3, W.cell? (a.add (i * 3)) = some (.bool q.put) ∧ W.cell? (a.add (i * 3 + 1)) = some (.string q.key) ∧ W.cell? (a.add (i * 3 + 2)) = some (.string q.val) := by
      intro i hi
      obtain ⟨cs', h1, h2⟩ := hx i (by omega)
      rw [k68] at h1
      obtain ⟨_, hlen, hcell⟩ := World.cells?_some h1
      obtain ⟨y0, y1, y2, n', _, _, f0, f1, f2⟩ := trod_struct3 Try.underlying68 h2
      match cs', hlen with
      | [v0, v1, v2], _ =>
        simp only [k4, k5, List.drop, List.take] at f0 f1 f2
        obtain ⟨p, e0, _⟩ := DataW.trod_bool Try.underlying4 f0
        obtain ⟨k, e1, _⟩ := DataW.trod_string Try.underlying9 f1
        obtain ⟨v, e2, _⟩ := DataW.trod_string Try.underlying9 f2
        simp only [List.cons.injEq, and_true] at e0 e1 e2
        subst e0 e1 e2
        have c0 := hcell 0 (by omega)
        have c1 := hcell 1 (by omega)
        have c2 := hcell 2 (by omega)
        rw [add_add] at c0 c1 c2
        exact ⟨⟨p, k, v⟩, by simpa using c0, by simpa using c1, by simpa using c2⟩
    obtain ⟨y, hy⟩ := choose_lt each
    refine ⟨(List.range n).map y, ⟨by rw [opc_len]; simp, fun hn => ?_⟩, by simp⟩
    obtain ⟨b, off, rfl, hb⟩ := cell_addr (w := W) (x := a) (v := .bool (y 0).put) (by have := (hy 0 hn).1; simpa using this)
    refine ⟨b, off, rfl, hb, fun k u hu => ?_⟩
    obtain ⟨j, o, hj, hu⟩ := opc_inv _ _ _ hu
    rw [List.getElem?_map] at hj
    have hjn : j < n := by
      rcases Nat.lt_or_ge j n with q | q
      · exact q
      · rw [List.getElem?_eq_none (by simpa using q)] at hj
        cases hj
    rw [List.getElem?_range hjn] at hj
    simp only [Option.map_some, Option.some.injEq] at hj
    subst hj
    obtain ⟨h0, h1, h2⟩ := hy j hjn
    rw [Addr.add_lit] at h0 h1 h2
    rcases hu with ⟨rfl, rfl⟩ | ⟨rfl, rfl⟩ | ⟨rfl, rfl⟩
    · exact h0
    · exact h1
    · exact h2

theorem weights_mem_all {H : Type} {P : Program} {e : TypeId} : ∀ {ds : List (DataW H)} {d : DataW H} {y : Nat}, d ∈ ds → y ∈ d.weights P e → y ∈ DataW.weightsAll P e ds
  | d0 :: ds, d, y, hd, hy => by
    simp only [DataW.weightsAll, List.mem_append]
    rcases List.mem_cons.1 hd with rfl | hd
    · exact .inl hy
    · exact .inr (weights_mem_all hd hy)
theorem array3 {α : Type} {cs : Array α} (h : cs.size = 3) : ∃ c0 c1 c2, cs = #[c0, c1, c2] := by
  obtain ⟨l⟩ := cs
  match l, h with
  | [c0, c1, c2], _ => exact ⟨c0, c1, c2, rfl⟩
theorem trod_commit {H : Type} {enc : TypeId × Value → H} {W : World} {fuel : Nat} {v0 v1 v2 : Value} {x : DataW H × List MemPlace} (h2 : DataW.trod enc Try.prog W 0 (fun _ => true) true fuel 40 [v0, v1, v2] = some x)
    (hs : ∀ {fuel : Nat} {y : DataW H × List MemPlace}, DataW.trod enc Try.prog W 0 (fun _ => true) true fuel 38 [v2] = some y → ∃ A n c, v2 = .slice A n c) (hw : ∀ y ∈ x.1.weights Try.prog 40, y ≤ reachBytes) :
    ∃ m : Cm, v0 = .int .i64 m.ep ∧ v1 = .int .i64 m.num ∧ v2 = .slice m.A m.n m.c ∧ OS W W.heap.size m.A m.n m.os ∧ m.n ≤ m.c ∧ m.c ≤ maxLen ∧ m.n ≤ 3518437208780 := by
  have k3 : Try.prog.cellsOf 3 = 1 := by kernel_rfl
  have k38 : Try.prog.cellsOf 38 = 1 := by kernel_rfl
  obtain ⟨y0, y1, y2, n', hxx, _, f0, f1, f2⟩ := trod_struct3 Try.underlying40 h2
  simp only [k3, k38, List.drop, List.take] at f0 f1 f2
  obtain ⟨a, e0, _⟩ := DataW.trod_int Try.underlying3 f0
  obtain ⟨b, e1, _⟩ := DataW.trod_int Try.underlying3 f1
  obtain ⟨A, n, c, rfl⟩ := hs f2
  simp only [List.cons.injEq, and_true] at e0 e1
  subst e0 e1
  obtain ⟨h1, h3, h5, l, hl⟩ := open_ops (A := A) (n := n) (c := c) f2 (fun y hy => hw y (by rw [hxx]; simp [DataW.weights, Try.underlying40, DataW.weightsEach]; exact .inr (.inr hy)))
  exact ⟨⟨a, b, A, n, c, l⟩, rfl, rfl, rfl, hl, h1, h3, h5⟩
theorem slice_of {H : Type} {enc : TypeId × Value → H} {W : World} {fuel : Nat} {v2 : Value} {y : DataW H × List MemPlace} (h : DataW.trod enc Try.prog W 0 (fun _ => true) true fuel 38 [v2] = some y) : ∃ A n c, v2 = .slice A n c := by
  rcases open_slice Try.underlying38 h with ⟨hcs, _⟩ | ⟨a, len, cap, m, k, D, Pl, hcs, _⟩
  · simp at hcs
    exact ⟨_, _, _, hcs⟩
  · simp at hcs
    exact ⟨_, _, _, hcs⟩
theorem open_commit {H : Type} {enc : TypeId × Value → H} {W : World} {r : Reach} {b0 : Nat} {v : Value} {d : DataW H} {ps : List MemPlace}
    (hv : Value.okWide Try.prog W r b0 40 v) (h : DataW.Trod enc Try.prog W 0 (fun _ => true) true 40 v d ps) (hw : ∀ y ∈ d.weights Try.prog 40, y ≤ reachBytes) : ∃ m : Cm, v = m.v ∧ OS W W.heap.size m.A m.n m.os ∧ m.n ≤ 3518437208780 := by
  obtain ⟨cs, rfl, hsz⟩ := okWide_struct Try.underlying40 hv
  obtain ⟨c0, c1, c2, rfl⟩ := array3 (hsz.trans (by kernel_rfl))
  obtain ⟨fuel, hf⟩ := h
  obtain ⟨m, rfl, rfl, rfl, h3, h4, h5, h6⟩ := trod_commit (v0 := c0) (v1 := c1) (v2 := c2) hf slice_of hw
  exact ⟨m, rfl, h3, h6⟩
instance : Inhabited Cm := ⟨⟨0, 0, none, 0, 0, []⟩⟩
theorem cmc_inv : ∀ (l : List Cm) (k : Nat) (u : Value), (cmc l)[k]? = some u → ∃ j o, l[j]? = some o ∧ ((k = j * 3 ∧ u = .int .i64 o.ep) ∨ (k = j * 3 + 1 ∧ u = .int .i64 o.num) ∨ (k = j * 3 + 2 ∧ u = .slice o.A o.n o.c))
  | [], k, u, h => by simp [cmc] at h
  | a :: l, 0, u, h => ⟨0, a, rfl, .inl ⟨rfl, by simpa [cmc] using h.symm⟩⟩
  | a :: l, 1, u, h => ⟨0, a, rfl, .inr (.inl ⟨rfl, by simpa [cmc] using h.symm⟩)⟩
  | a :: l, 2, u, h => ⟨0, a, rfl, .inr (.inr ⟨rfl, by simpa [cmc] using h.symm⟩)⟩
  | a :: l, k + 3, u, h => by
    have e1 : cmc (a :: l) = .int .i64 a.ep :: .int .i64 a.num :: .slice a.A a.n a.c :: cmc l := rfl
    rw [e1] at h
    obtain ⟨j, o, h1, h2⟩ := cmc_inv l k u (by simpa using h)
    refine ⟨j + 1, o, by simpa using h1, ?_⟩
    rcases h2 with ⟨rfl, rfl⟩ | ⟨rfl, rfl⟩ | ⟨rfl, rfl⟩
    · exact .inl ⟨by omega, rfl⟩
    · exact .inr (.inl ⟨by omega, rfl⟩)
    · exact .inr (.inr ⟨by omega, rfl⟩)
theorem cmc_len (l : List Cm) : (cmc l).length = l.length * 3 := by
  induction l with
  | nil => rfl
  | cons a l ih => simp only [cmc, List.flatMap_cons, List.length_append, List.length_cons, List.length_nil] at ih ⊢; omega
theorem open_commits {H : Type} {enc : TypeId × Value → H} {W : World} {fuel : Nat} {A : Option Addr} {n c : Nat} {x : DataW H × List MemPlace}
    (h : DataW.trod enc Try.prog W 0 (fun _ => true) true fuel 37 (Value.slice A n c).cells.toList = some x) (hw : ∀ y ∈ x.1.weights Try.prog 37, y ≤ reachBytes) :
    n ≤ c ∧ c ≤ maxLen ∧ ∃ l, CS W W.heap.size A n l ∧ ∀ m ∈ l, m.n ≤ 3518437208780 := by
  rcases open_slice Try.underlying37 h with ⟨hcs, _⟩ | ⟨a, len, cap, m, k, D, Pl, hcs, _, hl, hm, hmm, hxx, hx⟩
  · simp [Value.cells] at hcs
    obtain ⟨rfl, rfl, rfl⟩ := hcs
    exact ⟨Nat.le_refl _, Nat.zero_le _, [], ⟨Rd.nil_, rfl, fun m hm => by cases hm⟩, fun m hm => by cases hm⟩
  · simp [Value.cells] at hcs
    obtain ⟨rfl, rfl, rfl⟩ := hcs
    refine ⟨hl, hm, ?_⟩
    have k40 : Try.prog.cellsOf 40 = 3 := by kernel_rfl
    have hmn : n ≤ m := by rw [hmm]; simp; exact hl
    have hwi : ∀ i, i < n → ∀ y ∈ (D i).weights Try.prog 40, y ≤ reachBytes := by
      intro i hi y hy
      refine hw y ?_
      rw [hxx]
      simp only [DataW.weights, Try.underlying37, List.mem_cons, List.mem_append]
      exact .inr (.inl (weights_mem_all (List.mem_map.2 ⟨i, List.mem_range.2 hi, rfl⟩) hy))
    have each : ∀ i, i < n → ∃ q : Cm, W.cell? (a.add (i * 3)) = some (.int .i64 q.ep) ∧ W.cell? (a.add (i * 3 + 1)) = some (.int .i64 q.num) ∧ W.cell? (a.add (i * 3 + 2)) = some (.slice q.A q.n q.c) ∧ OS W W.heap.size q.A q.n q.os ∧ q.n ≤ 3518437208780 := by
      intro i hi
      obtain ⟨cs', h1, h2⟩ := hx i (by omega)
      rw [k40] at h1
      obtain ⟨_, hlen, hcell⟩ := World.cells?_some h1
      match cs', hlen with
      | [v0, v1, v2], _ =>
        obtain ⟨q, rfl, rfl, rfl, h3, h4, h5, h6⟩ := trod_commit h2 slice_of (hwi i hi)
        have c0 := hcell 0 (by omega)
        have c1 := hcell 1 (by omega)
        have c2 := hcell 2 (by omega)
        rw [add_add] at c0 c1 c2
        exact ⟨q, by simpa using c0, by simpa using c1, by simpa using c2, h3, h6⟩
    obtain ⟨y, hy⟩ := choose_lt each
    refine ⟨(List.range n).map y, ⟨⟨by rw [cmc_len]; simp, fun hn => ?_⟩, by simp, ?_⟩, ?_⟩
    · obtain ⟨b, off, rfl, hb⟩ := cell_addr (w := W) (x := a) (v := .int .i64 (y 0).ep) (by have := (hy 0 hn).1; simpa using this)
      refine ⟨b, off, rfl, hb, fun k u hu => ?_⟩
      obtain ⟨j, o, hj, hu⟩ := cmc_inv _ _ _ hu
      rw [List.getElem?_map] at hj
      have hjn : j < n := by
        rcases Nat.lt_or_ge j n with q | q
        · exact q
        · rw [List.getElem?_eq_none (by simpa using q)] at hj
          cases hj
      rw [List.getElem?_range hjn] at hj
      simp only [Option.map_some, Option.some.injEq] at hj
      subst hj
      obtain ⟨h0, h1, h2, _⟩ := hy j hjn
      rw [Addr.add_lit] at h0 h1 h2
      rcases hu with ⟨rfl, rfl⟩ | ⟨rfl, rfl⟩ | ⟨rfl, rfl⟩
      · exact h0
      · exact h1
      · exact h2
    · intro m hm
      obtain ⟨i, hi, rfl⟩ := List.mem_map.1 hm
      have h9 := (hy i (by simpa using hi)).2.2.2
      exact ⟨h9.1, by omega⟩
    · intro m hm
      obtain ⟨i, hi, rfl⟩ := List.mem_map.1 hm
      exact (hy i (by simpa using hi)).2.2.2.2
end Go.Proofs.Ytmlfbjcgmbdafaa
