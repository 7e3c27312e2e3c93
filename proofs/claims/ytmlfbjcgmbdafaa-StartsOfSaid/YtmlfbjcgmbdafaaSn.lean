/- Ops, batches, commits: checking them. -/
import Derived.Test.YtmlfbjcgmbdafaaSa
namespace Go.Proofs.Ytmlfbjcgmbdafaa
open Go.RowKit Go.Lg
set_option linter.unusedVariables false
set_option linter.unusedSimpArgs false

/-- An op. -/
structure Op3 where
  put : Bool
  key : ByteArray
  val : ByteArray
abbrev Op3.v (o : Op3) : Value := .agg #[.bool o.put, .string o.key, .string o.val]
/-- May an op be? -/
def Op3.ok (o : Op3) : Prop := 1 ≤ o.key.size ∧ o.key.size ≤ 16 ∧ o.val.size ≤ 32 ∧ (o.put = false → o.val.toList.isEmpty = true)
instance (o : Op3) : Decidable o.ok := by unfold Op3.ok; infer_instance
def opk (o : Op3) : Int := if o.ok then 0 else 2

set_option maxHeartbeats 2000000 in
set_option maxRecDepth 100000 in
theorem opcheck55 (o : Op3) (w : World) : Calls Try.prog 55 #[o.v] w (Num (opk o) w) := by
  obtain ⟨p, k, v⟩ := o
  have hb := (Below.refl w.heap.size w).alloc (Nat.le_refl _) (.cells #[.bool p, .string k, .string v] 68)
  by_cases hok : (Op3.mk p k v).ok
  · have HR : Hid (opk ⟨p, k, v⟩ = 0) := if_pos hok
    obtain ⟨h1, h2, h3, h4⟩ := hok
    simp only at h1 h2 h3 h4
    have f1 : ¬(k.size : Int) < 1 := by omega
    have f2 : ¬(16 : Int) < (k.size : Int) := by omega
    have f3 : ¬(32 : Int) < (v.size : Int) := by omega
    cases p with
    | true =>
      clear h4
      go_enter Try.func55, Try.ntmps55
      go_wp2_with fail
      go_ret
      exact num_eq HR.out.symm hb
    | false =>
      have h5 := h4 rfl
      clear h4
      go_enter Try.func55, Try.ntmps55
      go_wp2_with fail
      go_ret
      exact num_eq HR.out.symm hb
  · have HR : Hid (opk ⟨p, k, v⟩ = 2) := if_neg hok
    have hc : (k.size : Int) < 1 ∨ (1 ≤ (k.size : Int) ∧ (16 : Int) < (k.size : Int)) ∨ (1 ≤ (k.size : Int) ∧ (k.size : Int) ≤ 16 ∧ (32 : Int) < (v.size : Int)) ∨ (1 ≤ (k.size : Int) ∧ (k.size : Int) ≤ 16 ∧ (v.size : Int) ≤ 32 ∧ p = false ∧ v.toList.isEmpty = false) := by
      unfold Op3.ok at hok
      simp only at hok
      by_cases hp : p = false
      · by_cases hv : v.toList.isEmpty = true
        · have : ¬(1 ≤ k.size ∧ k.size ≤ 16 ∧ v.size ≤ 32) := fun ⟨a, b, c⟩ => hok ⟨a, b, c, fun _ => hv⟩
          omega
        · have : v.toList.isEmpty = false := by simpa using hv
          simp only [hp, this, and_true]
          omega
      · have : ¬(1 ≤ k.size ∧ k.size ≤ 16 ∧ v.size ≤ 32) := fun ⟨a, b, c⟩ => hok ⟨a, b, c, fun h => absurd h hp⟩
        omega
    clear hok
    rcases hc with g1 | ⟨g1, g2⟩ | ⟨g1, g2, g3⟩ | ⟨g1, g2, g3, rfl, g4⟩
    all_goals
      go_enter Try.func55, Try.ntmps55
      go_wp2_with fail
      go_ret
      exact num_eq HR.out.symm hb
end Go.Proofs.Ytmlfbjcgmbdafaa
