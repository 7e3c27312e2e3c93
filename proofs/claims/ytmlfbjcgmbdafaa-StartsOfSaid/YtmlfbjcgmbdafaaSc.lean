/- Starts: the epoch of a number. -/
import Derived.Test.YtmlfbjcgmbdafaaSa
namespace Go.Proofs.Ytmlfbjcgmbdafaa
open Go.RowKit Go.Lg
set_option linter.unusedVariables false
set_option linter.unusedSimpArgs false

theorem epo_zero (l : List (Int × Int)) : Sl.epo l 0 = 0 := rfl
theorem epo_succ (l : List (Int × Int)) (i : Nat) : Sl.epo l (i + 1) = Sl.E l i := by simp [Sl.epo]

set_option maxHeartbeats 4000000 in
set_option maxRecDepth 100000 in
theorem epoch35 (A : Option Addr) (n c B : Nat) (l : List (Int × Int)) (m : Int) (w : World) (h : SS w B A n l) (hn : n ≤ 9223372036854775807) :
    Calls Try.prog 35 #[.slice A n c, .int .i64 m] w fun e w' => e = .returned (.int .i64 (Sl.ep l m)) ∧ w' = w := by
  have HL := hid h.2
  go_enter Try.func35, Try.ntmps35
  go_wp2_with fail
  go_loopg [5, 6] n (fun k x i wr => ∃ (j : Nat) (u : Int), j ≤ n ∧ k = n - j ∧ i = .int .i64 j ∧ x = .int .i64 u ∧ Hid (u = Sl.epo l j) ∧ Hid (∀ i, i < j → Sl.F l i ≤ m) ∧ wr = w)
  case atStart => exact ⟨0, 0, by omega, rfl, rfl, rfl, hid rfl, hid (fun i hi => absurd hi (Nat.not_lt_zero _)), rfl⟩
  case round =>
    obtain ⟨j, u, hj, rfl, rfl, rfl, hu, hgo, hwr⟩ := hrel
    subst hwr
    by_cases hlt : j < n
    · obtain ⟨b, off, rfl, hbB, c0, c1⟩ := h.at_ hlt
      obtain ⟨x, hx⟩ : ∃ x, x = Sl.E l j := ⟨_, rfl⟩
      obtain ⟨y, hy⟩ : ∃ y, y = Sl.F l j := ⟨_, rfl⟩
      rw [← hx] at c0
      rw [← hy] at c1
      have hji : (j : Int) < (n : Int) := by omega
      have HX := hid hx
      have HY := hid hy
      clear hx hy
      by_cases hym : y ≤ m
      · go_wp2_with fail
        go_roundg (n - (j + 1))
        case measure => omega
        case rel =>
          refine ⟨j + 1, x, by omega, rfl, by go_num, rfl, hid (by rw [HX.out, epo_succ]), hid ?_, rfl⟩
          intro i hi
          rcases Nat.lt_or_ge i j with h9 | h9
          · exact hgo.out i h9
          · obtain rfl : i = j := by omega
            rw [← HY.out]
            exact hym
      · have hc : Sl.cnt l m = j := Sl.cnt_of (by rw [HL.out]; omega) hgo.out (fun _ => by rw [← HY.out]; omega)
        have HR : Hid (u = Sl.ep l m) := by rw [hu.out, ← hc]; exact hid rfl
        clear hc
        go_wp2_with fail
        go_ret
        exact ⟨rd_int HR.out, rfl⟩
    · obtain rfl : j = n := by omega
      have hc : Sl.cnt l m = j := Sl.cnt_of (by rw [HL.out]; omega) hgo.out (fun h9 => by rw [HL.out] at h9; omega)
      have HR : Hid (u = Sl.ep l m) := by rw [hu.out, ← hc]; exact hid rfl
      clear hc
      go_wp2_with fail
      go_ret
      exact ⟨rd_int HR.out, rfl⟩

set_option maxHeartbeats 4000000 in
set_option maxRecDepth 100000 in
theorem last33 (A : Option Addr) (n c B : Nat) (l : List (Int × Int)) (e : Int) (i : Nat) (w : World) (h : SS w B A n l) (hn : n ≤ 140737488355328) (hi : i < n) (hF : i + 1 < n → 1 ≤ Sl.F l (i + 1) ∧ Sl.F l (i + 1) ≤ 1048576) :
    Calls Try.prog 33 #[.slice A n c, .int .i64 e, .int .i64 i] w fun e' w' => e' = .returned (.int .i64 (Sl.last l e i)) ∧ w' = w := by
  have HL := hid h.2
  obtain ⟨q, hq⟩ : ∃ q, q = i + 1 := ⟨_, rfl⟩
  have hq1 : wrap64 ((i : Int) + 1) = (q : Int) := by simp only [wrap64]; omega
  have hq2 : IntKind.i64.wrap ((i : Int) + 1) = (q : Int) := by rw [IntWalk.i64_in _ (by omega)]; omega
  have hq3 : (i : Int) + 1 = (q : Int) := by omega
  by_cases hlt : q < n
  · obtain ⟨b, off, rfl, hbB, c0, c1⟩ := h.at_ hlt
    rw [← hq] at hF
    obtain ⟨y, hy⟩ : ∃ y, y = Sl.F l q := ⟨_, rfl⟩
    rw [← hy] at c1 hF
    obtain ⟨f1, f2⟩ := hF hlt
    have HR : Hid (y - 1 = Sl.last l e i) := by
      unfold Sl.last
      rw [HL.out, ← hq, if_pos hlt, ← hy]
      exact hid rfl
    have hw1 : wrap64 (y - 1) = y - 1 := by simp only [wrap64]; omega
    have hqn : (q : Int) < (n : Int) := by omega
    clear hy hF hq c0
    go_enter Try.func33, Try.ntmps33
    go_wp2_with fail
    go_ret
    exact ⟨rd_int HR.out, rfl⟩
  · have HR : Hid (e = Sl.last l e i) := by
      unfold Sl.last
      rw [HL.out, ← hq, if_neg hlt]
      exact hid rfl
    have hqn : ¬(q : Int) < (n : Int) := by omega
    clear hq hF
    go_enter Try.func33, Try.ntmps33
    go_wp2_with fail
    go_ret
    exact ⟨rd_int HR.out, rfl⟩
end Go.Proofs.Ytmlfbjcgmbdafaa
