/- Starts: the search for an epoch. -/
import Derived.Test.YtmlfbjcgmbdafaaSc
namespace Go.Proofs.Ytmlfbjcgmbdafaa
open Go.RowKit Go.Lg
set_option linter.unusedVariables false
set_option linter.unusedSimpArgs false

theorem u64_sum (a b : Nat) (ha : a ≤ 140737488355328) (hb : b ≤ 140737488355328) : IntKind.u64.wrap ((a : Int) + (b : Int)) = (a : Int) + (b : Int) := IntWalk.u64_in _ ⟨by omega, by omega⟩
theorem u64_nat (a : Nat) (ha : a ≤ 140737488355328) : IntKind.u64.wrap (a : Int) = (a : Int) := IntWalk.u64_in _ ⟨by omega, by omega⟩
theorem w64_nat (a : Nat) (ha : a ≤ 140737488355328) : wrap64 (a : Int) = (a : Int) := by simp only [wrap64]; omega
theorem w64_succ (a : Nat) (ha : a ≤ 140737488355328) : wrap64 ((a : Int) + 1) = (a : Int) + 1 := by simp only [wrap64]; omega
theorem w64_sum (a b : Nat) (ha : a ≤ 140737488355328) (hb : b ≤ 140737488355328) : wrap64 ((a : Int) + (b : Int)) = (a : Int) + (b : Int) := by simp only [wrap64]; omega
/-- The boxes of the closure: the slice, the number. -/
def Bx (w : World) (g : Nat) (A : Option Addr) (n c : Nat) (m : Int) : Prop :=
  w.cell? ⟨g, 0, none⟩ = some (.slice A n c) ∧ w.cell? ⟨g + 1, 0, none⟩ = some (.int .i64 m)

set_option maxHeartbeats 4000000 in
set_option maxRecDepth 100000 in
theorem closure48 (g : Nat) (A : Option Addr) (n c B : Nat) (l : List (Int × Int)) (m : Int) (i : Nat) (w : World) (h : SS w B A n l) (hx : Bx w g A n c m) (hi : i < n) (hn : n ≤ 140737488355328) :
    Calls Try.prog 48 #[.int .i64 i, .pointer (some ⟨g, 0, none⟩), .pointer (some ⟨g + 1, 0, none⟩)] w fun e w' => e = .returned (.bool (decide (m < Sl.F l i))) ∧ ∃ d, w' = w.drewN d := by
  obtain ⟨b, off, rfl, hbB, c0, c1⟩ := h.at_ hi
  obtain ⟨y, hy⟩ : ∃ y, y = Sl.F l i := ⟨_, rfl⟩
  rw [← hy] at c1 ⊢
  obtain ⟨x0, x1⟩ := hx
  have hin : (i : Int) < (n : Int) := by omega
  clear hy c0
  go_enter Try.func48, Try.ntmps48
  go_wp2_with fail
  go_quiet (fail)
  go_wp2_with fail
  go_ret
  exact ⟨rfl, nq, rfl⟩

set_option maxHeartbeats 4000000 in
set_option maxRecDepth 100000 in
theorem search47 (g : Nat) (A : Option Addr) (n c B : Nat) (l : List (Int × Int)) (m e : Int) (w : World) (h : SS w B A n l) (hx : Bx w g A n c m) (hn : n ≤ 140737488355328) (hok : Sl.ok l e) :
    Calls Try.prog 47 #[.int .i64 n, .func (.func 48) #[] #[.pointer (some ⟨g, 0, none⟩), .pointer (some ⟨g + 1, 0, none⟩)]] w fun e w' => e = .returned (.int .i64 (Sl.cnt l m : Nat)) ∧ ∃ d, w' = w.drewN d := by
  have HL := hid h.2
  have HOK := hid hok
  clear hok
  go_enter Try.func47, Try.ntmps47
  go_wp2_with fail
  go_loopg [5, 6] n (fun k a z wr => ∃ (lo hi d : Nat), lo ≤ hi ∧ hi ≤ n ∧ hi - lo ≤ k ∧ a = .int .i64 lo ∧ z = .int .i64 hi ∧ Hid (∀ i, i < lo → Sl.F l i ≤ m) ∧ Hid (∀ i, hi ≤ i → i < n → m < Sl.F l i) ∧ wr = w.drewN d)
  case atStart => exact ⟨0, n, 0, by omega, by omega, by omega, rfl, rfl, hid (fun i hi => absurd hi (Nat.not_lt_zero _)), hid (fun i h1 h2 => by omega), rfl⟩
  case round =>
    obtain ⟨lo, hi, d, h1, h2, h3, rfl, rfl, hlo, hhi, hwr⟩ := hrel
    by_cases hlt : lo < hi
    · obtain ⟨t, ht⟩ : ∃ t, t = (lo + hi) / 2 := ⟨_, rfl⟩
      have hs : SS wr B A n l := by rw [hwr]; exact ⟨h.1.drewN d, h.2⟩
      have hb : Bx wr g A n c m := by rw [hwr]; exact hx
      have ht1 : lo ≤ t := by omega
      have ht2 : t < hi := by omega
      have hc := closure48 g A n c B l m t wr hs hb (by omega) hn
      obtain ⟨y, hy⟩ : ∃ y, y = Sl.F l t := ⟨_, rfl⟩
      rw [← hy] at hc
      have HY := hid hy
      have HT := hid ht
      have HW := hid hwr
      have hli : (lo : Int) < (hi : Int) := by omega
      have b1 : lo ≤ 140737488355328 := by omega
      have b2 : hi ≤ 140737488355328 := by omega
      have b3 : t ≤ 140737488355328 := by omega
      have e3 : ((lo : Int) + (hi : Int)) / 2 = (t : Int) := by omega
      have e1 := w64_sum lo hi b1 b2
      have e2 := u64_sum lo hi b1 b2
      have e4 := w64_nat t b3
      have e5 := u64_nat t b3
      clear hy ht hwr hs hb b1 b2 b3
      go_wp2_with fail
      refine hc.mono ?_
      clear hc
      rintro e w1 ⟨rfl, d1, hd1⟩
      have HW1 : Hid (w1 = w.drewN (d + d1)) := by rw [hd1, HW.out, World.drewN_drewN]; exact hid rfl
      clear hd1
      by_cases hym : m < y
      · have hdm : decide (m < y) = true := decide_eq_true hym
        rw [hdm]
        clear hdm
        go_wp2_with fail
        go_roundg (t - lo)
        case measure => omega
        case rel =>
          refine ⟨lo, t, d + d1, by omega, by omega, by omega, rfl, by go_num, hlo, hid ?_, HW1.out⟩
          intro i g1 g2
          have hF := HY.out
          rcases Nat.lt_or_ge t i with h9 | h9
          · have := Sl.F_lt HOK.out h9 (by rw [HL.out]; exact g2)
            omega
          · obtain rfl : i = t := by omega
            omega
      · have hdm : decide (m < y) = false := decide_eq_false hym
        rw [hdm]
        clear hdm
        go_wp2_with fail
        go_roundg (hi - (t + 1))
        case measure => omega
        case rel =>
          refine ⟨t + 1, hi, d + d1, by omega, by omega, by omega, by go_num, rfl, hid ?_, hhi, HW1.out⟩
          intro i g1
          have hF := HY.out
          rcases Nat.lt_or_ge i t with h9 | h9
          · have := Sl.F_lt HOK.out h9 (by rw [HL.out]; omega)
            omega
          · obtain rfl : i = t := by omega
            omega
    · obtain rfl : lo = hi := by omega
      have hc : Sl.cnt l m = lo := Sl.cnt_of (by rw [HL.out]; exact h2) hlo.out (fun h9 => hhi.out lo (Nat.le_refl _) (by rw [HL.out] at h9; exact h9))
      have HC : Hid ((lo : Int) = ((Sl.cnt l m : Nat) : Int)) := by rw [hc]; exact hid rfl
      have HW := hid hwr
      clear hc hwr
      go_wp2_with fail
      go_ret
      exact ⟨rd_int HC.out, d, HW.out⟩
end Go.Proofs.Ytmlfbjcgmbdafaa
