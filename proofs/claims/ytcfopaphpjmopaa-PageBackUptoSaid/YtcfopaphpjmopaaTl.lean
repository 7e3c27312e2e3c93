/- Do two answers agree? -/
import Derived.Test.YtcfopaphpjmopaaPg
namespace Go.Proofs.Ytcfopaphpjmopaa
open Go.RowKit Go.Lg
set_option linter.unusedVariables false
set_option linter.unusedSimpArgs false

def Yes (w : World) (e : Ending) (w' : World) : Prop := e = .returned (.bool true) ∧ Below w.heap.size w w'
theorem same12_yes (q : Pg) (w : World) : Calls Try.prog 9 #[q.v, q.v] w (Yes w) := by
  refine (same12 q q w).mono ?_
  intro e w' h
  have := h.get
  simpa [Yes] using this
def pick (x n : Int) : Int := if x.tmod n < 0 then x.tmod n + n else x.tmod n
def Picked (r n : Int) (w : World) (e : Ending) (w' : World) : Prop := e = .returned (.int .i64 r) ∧ 0 ≤ r ∧ r < n ∧ w' = w
set_option maxHeartbeats 800000 in
set_option maxRecDepth 100000 in
theorem pick17 (x n : Int) (h1 : 0 < n) (h2 : n ≤ 1000) (hx : -9223372036854775808 ≤ x ∧ x ≤ 9223372036854775807) (w : World) : Calls Try.prog 24 #[.int .i64 x, .int .i64 n] w (Picked (pick x n) n w) := by
  have hlt : x.tmod n < n := Int.tmod_lt_of_pos x h1
  have hgt : -n < x.tmod n := by
    have h := Int.tmod_lt_of_pos (-x) h1
    rw [Int.neg_tmod] at h
    omega
  obtain ⟨m, hm⟩ : ∃ m, x.tmod n = m := ⟨_, rfl⟩
  unfold pick
  rw [hm] at hlt hgt ⊢
  have hn : ¬n = 0 := by omega
  have hw : wrap64 (m + n) = m + n := by simp only [wrap64]; omega
  have hw2 : wrap64 m = m := by simp only [wrap64]; omega
  go_enter Try.func24, Try.ntmps24
  go_wp2_with fail
  all_goals
    go_ret
    refine ⟨rd_int ?_, ?_, ?_, rfl⟩
    all_goals
      try split
      all_goals omega
end Go.Proofs.Ytcfopaphpjmopaa
