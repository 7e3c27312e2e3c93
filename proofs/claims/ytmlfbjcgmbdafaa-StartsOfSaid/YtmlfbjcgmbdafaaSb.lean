/- Starts: the document's own check. -/
import Derived.Test.YtmlfbjcgmbdafaaSa
namespace Go.Proofs.Ytmlfbjcgmbdafaa
open Go.RowKit Go.Lg
set_option linter.unusedVariables false
set_option linter.unusedSimpArgs false

theorem pre_pos {l : List (Int × Int)} {e : Int} : ∀ j, (∀ i, i < j + 1 → Sl.good l e i) → 0 < Sl.E l j
  | 0, h => by
    have := (h 0 (by omega)).1
    simpa using this
  | j + 1, h => by
    have h1 := pre_pos j fun i hi => h i (by omega)
    have h2 := (h (j + 1) (by omega)).1
    rw [if_neg (by omega), Nat.add_sub_cancel] at h2
    omega

set_option maxHeartbeats 40000000 in
set_option maxRecDepth 100000 in
theorem check19 (A : Option Addr) (n c : Nat) (l : List (Int × Int)) (e : Int) (w : World) (h : SS w w.heap.size A n l) (hn : n ≤ 9223372036854775807) :
    Calls Try.prog 19 #[.slice A n c, .int .i64 e] w (Num (Sl.chk l e) w) := by
  have HL := hid h.2
  by_cases hh : Sl.head l e
  · obtain ⟨h1, h2, h3⟩ := hh
    rw [h.2] at h3
    have HH : Hid (Sl.head l e) := ⟨h1, h2, by rw [HL.out]; exact h3⟩
    have f1 : ¬e < 0 := by omega
    have f2 : ¬1048576 < e := by omega
    have f3 : ((n : Int) == 0) = (e == 0) := by
      rw [Bool.eq_iff_iff]
      simp only [beq_iff_eq]
      omega
    go_enter Try.func19, Try.ntmps19
    go_wp2_with fail
    go_loopg [5] n (fun k i wr => ∃ (j : Nat), j ≤ n ∧ k = n - j ∧ i = .int .i64 j ∧ Hid (∀ i, i < j → Sl.good l e i) ∧ Below w.heap.size w wr)
    case atStart => exact ⟨0, by omega, rfl, rfl, hid (fun i hi => absurd hi (Nat.not_lt_zero _)), Below.refl _ _⟩
    case round =>
      clear f1 f2 f3
      obtain ⟨j, hj, rfl, rfl, hgo, hb⟩ := hrel
      have h := h.keep hb
      have HB := hid hb
      clear hb
      by_cases hlt : j < n
      · rcases Nat.eq_zero_or_pos j with hj0 | hjp
        · obtain ⟨b, off, rfl, hbB, c0, c1⟩ := h.at_ hlt
          obtain ⟨u, hu⟩ : ∃ u, u = Sl.E l j := ⟨_, rfl⟩
          obtain ⟨v, hv⟩ : ∃ v, v = Sl.F l j := ⟨_, rfl⟩
          rw [← hu] at c0
          rw [← hv] at c1
          have hji : (j : Int) < (n : Int) := by omega
          have HU := hid hu
          have HV := hid hv
          have HJ := hid hj0
          have hjz : (j : Int) ≤ 0 := by omega
          clear hu hv hj0
          by_cases hg : 1 ≤ u ∧ u ≤ 1048576 ∧ v ≤ e ∧ v = 1
          · obtain ⟨g1, g2, g3, g4⟩ := hg
            have G4 := hid g4
            have D9 : (v != 1) = false := by simp [g4]
            clear g4
            go_wp2_with fail
            have D0 : decide (u < 1) = false := by simp <;> omega
            have D1 : decide (1048576 < u) = false := by simp <;> omega
            have D2 : decide (e < v) = false := by simp <;> omega
            have D3 : ((j : Int) == 0) = true := by simp <;> omega
            have D4 : decide ((0 : Int) < (j : Int)) = false := by simp <;> omega
            have D5 : decide (0 < j) = false := by simp <;> omega
            have D6 : (j == 0) = true := by simp <;> omega
            go_quiet (fail)
            go_wp2_with fail
            go_roundg (n - (j + 1))
            case measure => omega
            case rel =>
              refine ⟨j + 1, by omega, rfl, by go_num, hid ?_, below_drewN HB.out nq⟩
              intro i hi
              rcases Nat.lt_or_ge i j with h9 | h9
              · exact hgo.out i h9
              · obtain rfl : i = j := by omega
                have G4 := G4.out
                refine ⟨by rw [if_pos HJ.out, ← HU.out]; omega, by rw [← HU.out]; omega, by rw [if_pos HJ.out, ← HV.out]; omega, by rw [← HV.out]; omega, fun _ => by rw [← HV.out]; exact G4⟩
          · have hbad : ¬Sl.ok l e := fun hk => hg (by
              have h9 := hk.2 j (by rw [HL.out]; exact hlt)
              unfold Sl.good at h9
              rw [if_pos HJ.out, if_pos HJ.out, ← HU.out, ← HV.out] at h9
              obtain ⟨a1, a2, a3, a4, a5⟩ := h9
              have a5 := a5 HJ.out
              omega)
            have HBAD := hid (chk_bad hbad)
            clear hbad
            have hcs : u < 1 ∨ (1 ≤ u ∧ 1048576 < u) ∨ (1 ≤ u ∧ u ≤ 1048576 ∧ e < v) ∨ (1 ≤ u ∧ u ≤ 1048576 ∧ v ≤ e ∧ ¬v = 1) := by
              omega
            clear hg
            rcases hcs with g1 | ⟨g1, g2⟩ | ⟨g1, g2, g3⟩ | ⟨g1, g2, g3, g4⟩
            · go_wp2_with fail
              have D0 : decide (u < 1) = true := by simp <;> omega
              go_quiet (fail)
              go_wp2_with fail
              go_ret
              exact num_eq HBAD.out.symm (below_drewN HB.out nq)
            · go_wp2_with fail
              have D0 : decide (u < 1) = false := by simp <;> omega
              have D1 : decide (1048576 < u) = true := by simp <;> omega
              go_quiet (fail)
              go_wp2_with fail
              go_ret
              exact num_eq HBAD.out.symm (below_drewN HB.out nq)
            · go_wp2_with fail
              have D0 : decide (u < 1) = false := by simp <;> omega
              have D1 : decide (1048576 < u) = false := by simp <;> omega
              have D2 : decide (e < v) = true := by simp <;> omega
              go_quiet (fail)
              go_wp2_with fail
              go_ret
              exact num_eq HBAD.out.symm (below_drewN HB.out nq)
            · go_wp2_with fail
              have D0 : decide (u < 1) = false := by simp <;> omega
              have D1 : decide (1048576 < u) = false := by simp <;> omega
              have D2 : decide (e < v) = false := by simp <;> omega
              have D3 : ((j : Int) == 0) = true := by simp <;> omega
              have D4 : (v != 1) = true := by simp <;> omega
              go_quiet (fail)
              go_wp2_with fail
              go_ret
              exact num_eq HBAD.out.symm (below_drewN HB.out nq)
        · obtain ⟨q, hq⟩ : ∃ q, q + 1 = j := ⟨j - 1, by omega⟩
          obtain ⟨b, off, rfl, hbB, c0, c1⟩ := h.at_ hlt
          obtain ⟨b', off', hA, _, d0, d1⟩ := h.at_ (j := q) (by omega)
          simp only [Option.some.injEq, Addr.mk.injEq, and_true] at hA
          obtain ⟨rfl, rfl⟩ := hA
          obtain ⟨u, hu⟩ : ∃ u, u = Sl.E l j := ⟨_, rfl⟩
          obtain ⟨v, hv⟩ : ∃ v, v = Sl.F l j := ⟨_, rfl⟩
          obtain ⟨x, hx⟩ : ∃ x, x = Sl.E l q := ⟨_, rfl⟩
          obtain ⟨y, hy⟩ : ∃ y, y = Sl.F l q := ⟨_, rfl⟩
          rw [← hu] at c0
          rw [← hv] at c1
          rw [← hx] at d0
          rw [← hy] at d1
          have hxp : 0 < x := by rw [hx]; exact pre_pos q fun i hi => hgo.out i (by omega)
          have hji : (j : Int) < (n : Int) := by omega
          have hqi : (q : Int) < (n : Int) := by omega
          have q5 : wrap64 ((j : Int) - 1) = (q : Int) := by simp only [wrap64]; omega
          have q6 : IntKind.i64.wrap ((j : Int) - 1) = (q : Int) := by rw [IntWalk.i64_in _ (by omega)]; omega
          have hjz : (0 : Int) < (j : Int) := by omega
          have HU := hid hu
          have HV := hid hv
          have HX := hid hx
          have HY := hid hy
          have HQ := hid hq
          have hgd : Sl.good l e j ↔ (x < u ∧ u ≤ 1048576 ∧ y < v ∧ v ≤ e) := by
            unfold Sl.good
            rw [if_neg (by omega), if_neg (by omega), show j - 1 = q by omega, ← hu, ← hv, ← hx, ← hy]
            constructor
            · rintro ⟨a1, a2, a3, a4, _⟩
              exact ⟨a1, a2, a3, a4⟩
            · rintro ⟨a1, a2, a3, a4⟩
              exact ⟨a1, a2, a3, a4, fun h0 => by omega⟩
          have HGD := hid hgd
          clear hu hv hx hy hq hgd hjp
          by_cases hg : 1 ≤ u ∧ u ≤ 1048576 ∧ v ≤ e ∧ x < u ∧ y < v
          · obtain ⟨g1, g2, g3, g4, g5⟩ := hg
            go_wp2_with fail
            have D0 : decide (u < 1) = false := by simp <;> omega
            have D1 : decide (1048576 < u) = false := by simp <;> omega
            have D2 : decide (e < v) = false := by simp <;> omega
            have D3 : ((j : Int) == 0) = false := by simp <;> omega
            have D4 : decide ((0 : Int) < (j : Int)) = true := by simp <;> omega
            have D5 : decide (0 < j) = true := by simp <;> omega
            have D6 : (j == 0) = false := by simp <;> omega
            have D7 : 0 < j := by omega
            have D8 : decide (u ≤ x) = false := by simp <;> omega
            have D9 : decide (v ≤ y) = false := by simp <;> omega
            go_quiet (fail)
            go_wp2_with fail
            go_roundg (n - (j + 1))
            case measure => omega
            case rel =>
              refine ⟨j + 1, by omega, rfl, by go_num, hid ?_, below_drewN HB.out nq⟩
              intro i hi
              rcases Nat.lt_or_ge i j with h9 | h9
              · exact hgo.out i h9
              · obtain rfl : i = j := by omega
                exact HGD.out.2 ⟨by omega, by omega, by omega, by omega⟩
          · have hbad : ¬Sl.ok l e := fun hk => hg (by
              have h9 := HGD.out.1 (hk.2 j (by rw [HL.out]; exact hlt))
              omega)
            have HBAD := hid (chk_bad hbad)
            clear hbad
            have hcs : u < 1 ∨ (1 ≤ u ∧ 1048576 < u) ∨ (1 ≤ u ∧ u ≤ 1048576 ∧ e < v) ∨ (1 ≤ u ∧ u ≤ 1048576 ∧ v ≤ e ∧ u ≤ x) ∨ (1 ≤ u ∧ u ≤ 1048576 ∧ v ≤ e ∧ x < u ∧ v ≤ y) := by
              omega
            clear hg
            rcases hcs with g1 | ⟨g1, g2⟩ | ⟨g1, g2, g3⟩ | ⟨g1, g2, g3, g4⟩ | ⟨g1, g2, g3, g4, g5⟩
            · go_wp2_with fail
              have D0 : decide (u < 1) = true := by simp <;> omega
              go_quiet (fail)
              go_wp2_with fail
              go_ret
              exact num_eq HBAD.out.symm (below_drewN HB.out nq)
            · go_wp2_with fail
              have D0 : decide (u < 1) = false := by simp <;> omega
              have D1 : decide (1048576 < u) = true := by simp <;> omega
              go_quiet (fail)
              go_wp2_with fail
              go_ret
              exact num_eq HBAD.out.symm (below_drewN HB.out nq)
            · go_wp2_with fail
              have D0 : decide (u < 1) = false := by simp <;> omega
              have D1 : decide (1048576 < u) = false := by simp <;> omega
              have D2 : decide (e < v) = true := by simp <;> omega
              go_quiet (fail)
              go_wp2_with fail
              go_ret
              exact num_eq HBAD.out.symm (below_drewN HB.out nq)
            · go_wp2_with fail
              have D0 : decide (u < 1) = false := by simp <;> omega
              have D1 : decide (1048576 < u) = false := by simp <;> omega
              have D2 : decide (e < v) = false := by simp <;> omega
              have D3 : ((j : Int) == 0) = false := by simp <;> omega
              have D4 : decide ((0 : Int) < (j : Int)) = true := by simp <;> omega
              have D5 : decide (0 < j) = true := by simp <;> omega
              have D6 : (j == 0) = false := by simp <;> omega
              have D7 : 0 < j := by omega
              have D8 : decide (u ≤ x) = true := by simp <;> omega
              go_quiet (fail)
              go_wp2_with fail
              go_ret
              exact num_eq HBAD.out.symm (below_drewN HB.out nq)
            · go_wp2_with fail
              have D0 : decide (u < 1) = false := by simp <;> omega
              have D1 : decide (1048576 < u) = false := by simp <;> omega
              have D2 : decide (e < v) = false := by simp <;> omega
              have D3 : ((j : Int) == 0) = false := by simp <;> omega
              have D4 : decide ((0 : Int) < (j : Int)) = true := by simp <;> omega
              have D5 : decide (0 < j) = true := by simp <;> omega
              have D6 : (j == 0) = false := by simp <;> omega
              have D7 : 0 < j := by omega
              have D8 : decide (u ≤ x) = false := by simp <;> omega
              have D9 : decide (v ≤ y) = true := by simp <;> omega
              go_quiet (fail)
              go_wp2_with fail
              go_ret
              exact num_eq HBAD.out.symm (below_drewN HB.out nq)
      · obtain rfl : j = n := by omega
        have HOK : Hid (Sl.chk l e = 0) := chk_ok ⟨HH.out, fun i hi => hgo.out i (by rw [← HL.out]; exact hi)⟩
        go_wp2_with fail
        go_ret
        exact num_eq HOK.out.symm HB.out
  · have hb : ¬Sl.ok l e := fun hk => hh hk.1
    have HB := hid (chk_bad hb)
    clear hb
    have hc : e < 0 ∨ (¬e < 0 ∧ 1048576 < e) ∨ (¬e < 0 ∧ ¬1048576 < e ∧ ((n : Int) == 0) = true ∧ (e == 0) = false) ∨ (¬e < 0 ∧ ¬1048576 < e ∧ ((n : Int) == 0) = false ∧ (e == 0) = true) := by
      unfold Sl.head at hh
      rw [h.2] at hh
      simp only [beq_iff_eq, beq_eq_false_iff_ne]
      omega
    clear hh
    rcases hc with f1 | ⟨f1, f2⟩ | ⟨f1, f2, f3, f4⟩ | ⟨f1, f2, f3, f4⟩
    all_goals
      go_enter Try.func19, Try.ntmps19
      go_wp2_with fail
      go_ret
      exact num_eq HB.out.symm (Below.refl _ _)
end Go.Proofs.Ytmlfbjcgmbdafaa
