/- slices.Delete at letters: one letter taken out. -/
import Derived.Test.YtigedoonhmaghaaLeF
import Derived.Lib.SliceRun
namespace Go.Proofs.Ytigedoonhmaghaa
open Go.RowKit Go.Lg
variable {F : Nat}
set_option linter.unusedVariables false
set_option linter.unusedSimpArgs false

def setL (xs : List Value) : Nat → List Value → List Value
  | _, [] => xs
  | o, v :: r => setL (xs.set o v) (o + 1) r
theorem setL_eq : ∀ (vs : List Value) (xs : List Value) (o : Nat), o + vs.length ≤ xs.length → setL xs o vs = xs.take o ++ vs ++ xs.drop (o + vs.length)
  | [], xs, o, h => by simp [setL]
  | v :: r, xs, o, h => by
    simp only [List.length_cons] at h
    rw [setL, setL_eq r (xs.set o v) (o + 1) (by simp; omega)]
    have ho : o < xs.length := by omega
    rw [List.take_add_one, List.getElem?_set_self ho, List.take_set_of_le (Nat.le_refl _), List.drop_set_of_lt (by omega)]
    simp [Nat.add_assoc, Nat.add_comm 1]
theorem own_setCells {base g n cap sz : Nat} {e : TypeId} : ∀ (vs : List Value) (o : Nat) (w : World) (xs : List Value), w.ownsRow base e sz (.slice (some ⟨g, 0, none⟩) n cap) n xs →
    (w.setCells g o vs).ownsRow base e sz (.slice (some ⟨g, 0, none⟩) n cap) n (setL xs o vs) ∧ w.grownBy (w.setCells g o vs) (some g)
  | [], o, w, xs, h => ⟨h, World.grownBy.refl w _⟩
  | v :: r, o, w, xs, h => by
    have h1 := h.stored o v
    have h2 := own_setCells r (o + 1) (w.setCell ⟨g, o, none⟩ v) (xs.set o v) h1.1
    exact ⟨h2.1, gb_trans h1.2 h2.2⟩
def z3 : List Value := [.int .i64 0, .int .i64 0, .slice none 0 0]
theorem run_clear_one {P : Program} (w : World) (t e ty : TypeId) (ht : P.underlying t = some (.slice e)) (hv : ∀ w, (zeroValue e).run P w = .ok (.agg #[.int .i64 0, .int .i64 0, .slice none 0 0]) w) (b o c : Nat)
    (hc : ∀ j, j < 3 → (w.cell? ⟨b, o + j, none⟩).isSome = true) (hf : ∀ j, j < 3 → w.frozen? ⟨b, o + j, none⟩ = false) :
    (Builtin.clear_ #[t] ty #[.slice (some ⟨b, o, none⟩) 1 c]).run P w = .ok (.tuple #[]) (w.setCells b o z3) := by
  have hst := run_storeCells_cells (P := P) b o z3 0 w hc hf (by intro v hv'; simp [z3] at hv'; rcases hv' with rfl | rfl <;> rfl)
  simp only [Nat.add_zero] at hst
  have hz : (Builtin.zeroCells #[.int .i64 0, .int .i64 0, .slice none 0 0] 1).toList = z3 := by simp only [Builtin.zeroCells, Array.toList_map, Array.toList_range]; rfl
  simp [Builtin.clear_, run_underlying ht, hv, hz, hst, Value.cells]
/-- What is left of the row. -/
theorem del_row {ls : List Lt} {i n : Nat} (hn : ls.length = n) (hi : i < n) : (setL (setL (ltc ls) (i * 3) (ltc (ls.drop (i + 1)))) ((n - 1) * 3) z3).take ((n - 1) * 3) = ltc (ls.eraseIdx i) := by
  have h1 : (ltc (ls.drop (i + 1))).length = (n - (i + 1)) * 3 := by rw [ltc_length, List.length_drop, hn]
  have h2 : (ltc ls).length = n * 3 := by rw [ltc_length, hn]
  have e1 : setL (ltc ls) (i * 3) (ltc (ls.drop (i + 1))) = ltc (ls.take i) ++ ltc (ls.drop (i + 1)) ++ (ltc ls).drop ((n - 1) * 3) := by
    rw [setL_eq _ _ _ (by omega), ltc_take, h1]
    congr 2
    omega
  have h3 : (ltc (ls.take i) ++ ltc (ls.drop (i + 1))).length = (n - 1) * 3 := by rw [List.length_append, h1, ltc_length, List.length_take, hn]; omega
  rw [setL_eq _ _ _ (by rw [e1, List.length_append, h3, List.length_drop, h2]; simp [z3]; omega), List.append_assoc, List.take_append_of_le_length (by rw [List.length_take, e1, List.length_append, h3]; omega), List.take_take, Nat.min_self, e1, List.take_append_of_le_length (by omega), List.take_of_length_le (by omega), ← ltc_app, List.eraseIdx_eq_take_drop_succ]
set_option maxHeartbeats 4000000 in
set_option maxRecDepth 100000 in
theorem delete44 {B g cap : Nat} {ls : List Lt} {w : World} (i : Nat) (hi : i < ls.length) (hle : ls.length ≤ 512) (h : w.ownsRow B 31 3 (.slice (some ⟨g, 0, none⟩) ls.length cap) ls.length (ltc ls)) (h1 : ∀ u ∈ ltc ls, u.oneCell' = true) :
    Calls Try.prog 44 #[.slice (some ⟨g, 0, none⟩) ls.length cap, .int .i64 i, .int .i64 (i + 1)] w fun e w' => e = .returned (.slice (some ⟨g, 0, none⟩) (ls.length - 1) cap) ∧
      w'.ownsRow B 31 3 (.slice (some ⟨g, 0, none⟩) (ls.length - 1) cap) (ls.length - 1) (ltc (ls.eraseIdx i)) ∧ w.grownBy w' (some g) := by
  obtain ⟨n, hn⟩ : ∃ n, n = ls.length := ⟨_, rfl⟩
  rw [← hn] at h hi hle ⊢
  obtain ⟨hcap, hmax⟩ := owned_cap h
  obtain ⟨i0, z0, hi0, hz, hs1, hs2, hs3⟩ := T37.hi
  have hv : ∀ w, (zeroValue 31).run Try.prog w = .ok (.agg #[.int .i64 0, .int .i64 0, .slice none 0 0]) w := Try.zeroValue31
  obtain ⟨news, hnews⟩ : ∃ news, news = ltc (ls.drop (i + 1)) := ⟨_, rfl⟩
  have hlen : news.length = (n - (i + 1)) * 3 := by rw [hnews, ltc_length, List.length_drop, hn]
  have hrd := Rd.of_own h
  obtain ⟨A, hA, hsrc⟩ : ∃ A : Addr, (if cap = i + 1 then some (⟨g, 0, none⟩ : Addr) else some ⟨g, (i + 1) * 3, none⟩) = some A ∧ Hid (∀ t u, news[t]? = some u → w.drew.cell? (A.add t) = some u) := by
    by_cases hc : cap = i + 1
    · refine ⟨⟨g, 0, none⟩, by simp [hc], fun t u hu => ?_⟩
      have h0 : news.length = 0 := by rw [hlen]; omega
      rw [List.length_eq_zero_iff.1 h0] at hu
      simp at hu
    · refine ⟨⟨g, (i + 1) * 3, none⟩, by simp [hc], fun t u hu => ?_⟩
      have ht := (List.getElem?_eq_some_iff.1 hu).1
      have hp := hrd.2 (by omega)
      obtain ⟨g', off', e, _, hcl⟩ := hp
      injection e with e
      injection e with e1 e2
      subst e1 e2
      rw [Addr.add_lit]
      have := hcl ((i + 1) * 3 + t) u (by rw [hnews, ← ltc_drop, List.getElem?_drop] at hu; exact hu)
      rw [Nat.zero_add] at this
      exact this
  have s2 : Hid (∀ u ∈ news, u.oneCell' = true) := by
    intro u hu
    rw [hnews, ← ltc_drop] at hu
    exact h1 u (List.mem_of_mem_drop hu)
  have hcellAt : ∀ k, k < n * 3 → (w.cell? ⟨g, k, none⟩).isSome = true := by
    intro k hk
    rw [h.cellAt k hk, List.getElem?_eq_getElem (by rw [h.1]; exact hk)]
    rfl
  have s3 : Hid (∀ t, t < news.length → (w.drew.cell? ⟨g, 0 + i * 3 + t, none⟩).isSome = true ∧ w.drew.frozen? ⟨g, 0 + i * 3 + t, none⟩ = false) := by
    intro t ht
    rw [hlen] at ht
    rw [Nat.zero_add]
    exact ⟨hcellAt _ (by omega), h.frozenAt _⟩
  have HW1 := own_setCells news (i * 3) w.drew (ltc ls) h
  obtain ⟨W1, hW1⟩ : ∃ W1, W1 = w.drew.setCells g (0 + i * 3) news := ⟨_, rfl⟩
  rw [Nat.zero_add] at hW1
  rw [← hW1] at HW1
  have hcl : ∀ ty c, (Builtin.clear_ #[37] ty #[.slice (some ⟨g, (n - 1) * 3, none⟩) 1 c]).run Try.prog W1 = .ok (.tuple #[]) (W1.setCells g ((n - 1) * 3) z3) := by
    intro ty c
    refine run_clear_one W1 37 31 ty Try.underlying37 hv g ((n - 1) * 3) c (fun j hj => ?_) (fun j hj => HW1.1.frozenAt _)
    rw [HW1.1.cellAt _ (by omega), List.getElem?_eq_getElem (by rw [HW1.1.1]; omega)]
    rfl
  have HW2 := own_setCells z3 ((n - 1) * 3) W1 _ HW1.1
  have HE := hid (And.intro (show (W1.setCells g ((n - 1) * 3) z3).ownsRow B 31 3 (.slice (some ⟨g, 0, none⟩) (n - 1) cap) (n - 1) (ltc (ls.eraseIdx i)) by
      have := owned_prefix HW2.1 (show n - 1 ≤ n by omega)
      rw [hnews, del_row hn.symm hi] at this
      exact this) (gb_trans (show w.grownBy W1 (some g) from ⟨HW1.2.os, HW1.2.tape, HW1.2.output, HW1.2.size, HW1.2.block⟩) HW2.2))
  have hW : Hid (W1 = w.drew.setCells g (0 + i * 3) news) := by rw [Nat.zero_add]; exact hW1
  have HN := hid hn
  have Hlen := hid hlen
  obtain ⟨m, hm⟩ : ∃ m, m = n - 1 := ⟨_, rfl⟩
  rw [← hm] at hcl
  have HM := hid hm
  rw [← hm] at HE
  clear hm
  have hic : i ≤ cap := by omega
  have hjc : i + 1 ≤ cap := by omega
  have hne : ¬ n = i := by omega
  have hb1 : (0 : Int) ≤ (i : Int) + 1 := by omega
  have hb2 : (i : Int) + 1 ≤ (n : Int) := by omega
  clear h h1 hrd hcellAt HW1 HW2 hW1 hnews hn hlen hz hs2 hs3
  go_enter Try.func44, Try.ntmps44
  go_wp2_with fail
  go_region_law (refine step_append_room rfl (.tmp 22) (.tmp 25) 37 rfl 31 i0 3 Try.underlying37 hi0 hs1 g 0 i cap (by simp [Act.eval, Act.put]) A (n - (i + 1)) (cap - (i + 1)) news (by simp [Act.eval, Act.put]) Hlen.out hsrc.out s2.out (by omega) s3.out ?_; rw [← hW.out])
  rw [show i + (n - (i + 1)) = m by have := HM.out; omega]
  have hm1 : (m : Int) ≤ (n : Int) := by have := HM.out; omega
  have hm2 : ¬ cap = m := by have := HM.out; omega
  have hm3 : n - m = 1 := by have := HM.out; omega
  have hm4 : (n : Int) ≤ (cap : Int) := by omega
  have hm5 : m ≤ n := by omega
  go_wp2_with fail
  go_ret
  rw [← HM.out]
  exact ⟨rfl, HE.out⟩
end Go.Proofs.Ytigedoonhmaghaa
