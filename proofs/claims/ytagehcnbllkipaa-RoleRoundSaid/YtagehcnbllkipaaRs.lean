/- The steps of a role: step, file, cut, fork. -/
import Derived.Test.YtagehcnbllkipaaRl
namespace Go.Proofs.Ytagehcnbllkipaa
open Go.RowKit Go.Lg
set_option linter.unusedVariables false
set_option linter.unusedSimpArgs false

set_option maxHeartbeats 1600000 in
set_option maxRecDepth 100000 in
theorem step34 (p : Pg) (f : Int) (hf : f = 1 ∨ f = 2 ∨ f = 3) (w : World) : Calls Try.prog 34 #[p.v, .int .u8 f] w (Gives (step p f) w) := by
  obtain ⟨a1, a2, a3, a4, a5, a6⟩ := p
  by_cases hok : Ok ⟨a1, a2, a3, a4, a5, a6⟩
  · have hc := @check18_ok _ hok
    go_enter Try.func34, Try.ntmps34
    go_wp2_with (first | (go_at_call 18; refine (hc _).mono ?_; clear hc; rintro e w1 ⟨rfl, hb⟩; obtain ⟨hb, hA, hB⟩ := two_blocks hb; obtain ⟨⟨c0, c1, c2, c3, c4, c5⟩, f0, f1, f2, f3, f4, f5⟩ := page_cells hA; obtain ⟨⟨d0, d1, d2, d3, d4, d5⟩, g0, g1, g2, g3, g4, g5⟩ := page_cells hB) | (go_at_call 39; refine (phases39 _).mono ?_; rintro e w2 ⟨b, rfl, hown, hb2⟩; have hlk := look1 hown f hf; obtain ⟨⟨c0, c1, c2, c3, c4, c5⟩, f0, f1, f2, f3, f4, f5⟩ := page_cells (hA.later hb2); obtain ⟨⟨d0, d1, d2, d3, d4, d5⟩, g0, g1, g2, g3, g4, g5⟩ := page_cells (hB.later hb2); have hb := bl_trans hb hb2 hb.size))
    all_goals
      refine bodyPost_ret (by simp [results, Try.results34, go_sem, d0, d1, d2, d3, d4, d5]; try rfl) rfl ?_
      try simp only [beq_iff_eq, bne_iff_ne, beq_eq_false_iff_ne, decide_eq_true_eq, Bool.not_eq_true', Bool.not_eq_false', decide_eq_false_iff_not, bne_eq_false_iff_eq] at *
      refine ⟨ret2 (q := ⟨_, _, _, _, _, _⟩) ?_, ?_⟩
      · simp only [step, if_pos hok]
        repeat' split
        all_goals first | rfl | (exfalso; omega) | (simp [z] <;> omega)
      · repeat (first | (with_reducible exact hb) | (with_reducible refine Below.setCell ?_ (by simp) _))
  · have hc := @check18_no _ hok
    go_enter Try.func34, Try.ntmps34
    go_wp2_with (first | (go_at_call 18; refine (hc _).mono ?_; clear hc; rintro e w1 ⟨rfl, hb⟩; obtain ⟨hb, hA, hB⟩ := two_blocks hb; obtain ⟨⟨c0, c1, c2, c3, c4, c5⟩, f0, f1, f2, f3, f4, f5⟩ := page_cells hA; obtain ⟨⟨d0, d1, d2, d3, d4, d5⟩, g0, g1, g2, g3, g4, g5⟩ := page_cells hB) | (go_at_call 39; refine (phases39 _).mono ?_; rintro e w2 ⟨b, rfl, hown, hb2⟩; have hlk := look1 hown f hf; obtain ⟨⟨c0, c1, c2, c3, c4, c5⟩, f0, f1, f2, f3, f4, f5⟩ := page_cells (hA.later hb2); obtain ⟨⟨d0, d1, d2, d3, d4, d5⟩, g0, g1, g2, g3, g4, g5⟩ := page_cells (hB.later hb2); have hb := bl_trans hb hb2 hb.size))
    all_goals
      refine bodyPost_ret (by simp [results, Try.results34, go_sem, d0, d1, d2, d3, d4, d5]; try rfl) rfl ?_
      try simp only [beq_iff_eq, bne_iff_ne, beq_eq_false_iff_ne, decide_eq_true_eq, Bool.not_eq_true', Bool.not_eq_false', decide_eq_false_iff_not, bne_eq_false_iff_eq] at *
      refine ⟨ret2 (q := ⟨_, _, _, _, _, _⟩) ?_, ?_⟩
      · simp only [step, if_neg hok]
        repeat' split
        all_goals first | rfl | (exfalso; omega) | (simp [z] <;> omega)
      · repeat (first | (with_reducible exact hb) | (with_reducible refine Below.setCell ?_ (by simp) _))
set_option maxHeartbeats 1600000 in
set_option maxRecDepth 100000 in
theorem file8 (p : Pg) (w : World) : Calls Try.prog 8 #[p.v] w (Gives (step p 2) w) := by
  have hc := step34 p 2 (by omega)
  obtain ⟨r, hr⟩ : ∃ r, step p 2 = r := ⟨_, rfl⟩
  rw [hr] at hc ⊢
  have hr' := hid hr
  clear hr hr'
  obtain ⟨a1, a2, a3, a4, a5, a6⟩ := p
  obtain ⟨⟨b1, b2, b3, b4, b5, b6⟩, k⟩ := r
  go_enter Try.func8, Try.ntmps8
  go_wp2_with (go_at_call 34; refine (hc _).mono ?_; clear hc; rintro e w1 ⟨rfl, hb⟩; obtain ⟨hb, hA, hB⟩ := two_blocks hb; obtain ⟨⟨c0, c1, c2, c3, c4, c5⟩, f0, f1, f2, f3, f4, f5⟩ := page_cells hA; obtain ⟨⟨d0, d1, d2, d3, d4, d5⟩, g0, g1, g2, g3, g4, g5⟩ := page_cells hB)
  all_goals
    refine bodyPost_ret (by simp [results, Try.results8, go_sem, d0, d1, d2, d3, d4, d5]; try rfl) rfl ?_
    exact ⟨ret2 (q := ⟨_, _, _, _, _, _⟩) rfl, by repeat (first | (with_reducible exact hb) | (with_reducible refine Below.setCell ?_ (by simp) _))⟩
set_option maxHeartbeats 1600000 in
set_option maxRecDepth 100000 in
theorem cut10 (p : Pg) (w : World) : Calls Try.prog 10 #[p.v] w (Gives (step p 3) w) := by
  have hc := step34 p 3 (by omega)
  obtain ⟨r, hr⟩ : ∃ r, step p 3 = r := ⟨_, rfl⟩
  rw [hr] at hc ⊢
  have hr' := hid hr
  clear hr hr'
  obtain ⟨a1, a2, a3, a4, a5, a6⟩ := p
  obtain ⟨⟨b1, b2, b3, b4, b5, b6⟩, k⟩ := r
  go_enter Try.func10, Try.ntmps10
  go_wp2_with (go_at_call 34; refine (hc _).mono ?_; clear hc; rintro e w1 ⟨rfl, hb⟩; obtain ⟨hb, hA, hB⟩ := two_blocks hb; obtain ⟨⟨c0, c1, c2, c3, c4, c5⟩, f0, f1, f2, f3, f4, f5⟩ := page_cells hA; obtain ⟨⟨d0, d1, d2, d3, d4, d5⟩, g0, g1, g2, g3, g4, g5⟩ := page_cells hB)
  all_goals
    refine bodyPost_ret (by simp [results, Try.results10, go_sem, d0, d1, d2, d3, d4, d5]; try rfl) rfl ?_
    exact ⟨ret2 (q := ⟨_, _, _, _, _, _⟩) rfl, by repeat (first | (with_reducible exact hb) | (with_reducible refine Below.setCell ?_ (by simp) _))⟩
end Go.Proofs.Ytagehcnbllkipaa
