/- The map of phases. -/
import Derived.Test.YtagehcnbllkipaaPg
import Derived.Maps.Own
import Derived.Maps.OwnOps
namespace Go.Proofs.Ytagehcnbllkipaa
open Go.RowKit Go.Lg Go.Maps
set_option linter.unusedVariables false
set_option linter.unusedSimpArgs false

def Dm : DataW Unit := (((DataW.map []).put (.int .u8 1) (.lit (.int .u8 2))).put (.int .u8 2) (.lit (.int .u8 3))).put (.int .u8 3) (.lit (.int .u8 4))
def Phases (w : World) (e : Ending) (w' : World) : Prop := ∃ b, e = .returned (.map (some b)) ∧ w'.ownsMap Try.prog 23 (plainElem Try.prog 23) b 3 Dm ∧ Below w.heap.size w w'
theorem law23 : Keyed Try.prog 23 := int_keyed Try.underlying23

set_option maxHeartbeats 800000 in
set_option maxRecDepth 100000 in
theorem phases39 (w : World) : Calls Try.prog 39 #[] w (Phases w) := by
  have hmm := @run_makeMap Try.prog
  have h0 : (w.alloc (.map #[] 0)).ownsMap (H := Unit) Try.prog 23 (plainElem Try.prog 23) w.heap.size 0 (.map []) := World.ownsMap_made _ _ _ _
  obtain ⟨w1, e1, h1, g1⟩ := h0.update law23 Try.underlying51 (by decide) (key := .int .u8 1) (val := .int .u8 2) (keyOf_int_mk Try.underlying23 (by decide)) (plainElem_int Try.underlying23 (by decide))
  obtain ⟨w2, e2, h2, g2⟩ := h1.update law23 Try.underlying51 (by decide) (key := .int .u8 2) (val := .int .u8 3) (keyOf_int_mk Try.underlying23 (by decide)) (plainElem_int Try.underlying23 (by decide))
  obtain ⟨w3, e3, h3, g3⟩ := h2.update law23 Try.underlying51 (by decide) (key := .int .u8 3) (val := .int .u8 4) (keyOf_int_mk Try.underlying23 (by decide)) (plainElem_int Try.underlying23 (by decide))
  have hb : Below w.heap.size w w3 := by
    have b0 := (Below.refl w.heap.size w).alloc (Nat.le_refl _) (.map #[] 0)
    have b1 := b0.grown g1 b0.size (fun k hk => by cases hk; exact Nat.le_refl _)
    have b2 := b1.grown g2 b1.size (fun k hk => by cases hk; exact Nat.le_refl _)
    exact b2.grown g3 b2.size (fun k hk => by cases hk; exact Nat.le_refl _)
  go_enter Try.func39, Try.ntmps39
  go_wp2_with fail
  go_ret
  exact ⟨_, rfl, h3, hb⟩
theorem look1 {w : World} {b : Nat} (h : w.ownsMap Try.prog 23 (plainElem Try.prog 23) b 3 Dm) (f : Int) (hf : f = 1 ∨ f = 2 ∨ f = 3) :
    (Instr.lookup 51 (.map (some b)) (.int .u8 f) false).run Try.prog w = .ok (.int .u8 (f + 1)) w := by
  obtain ⟨c, hrun, hat, _⟩ := h.lookup_int law23 Try.underlying51 Try.underlying23 (by kernel_rfl) (key := .int .u8 f) (keyOf_int_mk Try.underlying23 (by rcases hf with rfl | rfl | rfl <;> decide))
  rw [hrun]
  have : c = f + 1 := by
    rcases hf with rfl | rfl | rfl
    all_goals
      have h2 : ∀ x y : Int, (DataW.lit (H := Unit) (.int .u8 x)) = .lit (.int .u8 y) → y = x := by
        intro x y h
        injection h with h
        injection h with _ h
        exact h.symm
    · exact h2 2 c (by rw [← hat]; rfl)
    · exact h2 3 c (by rw [← hat]; rfl)
    · exact h2 4 c (by rw [← hat]; rfl)
  rw [this]
end Go.Proofs.Ytagehcnbllkipaa
