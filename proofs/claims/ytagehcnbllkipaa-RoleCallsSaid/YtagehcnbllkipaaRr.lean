/- The document's own steps of a role. -/
import Derived.Test.YtagehcnbllkipaaRf
import Derived.Test.YtagehcnbllkipaaRk
namespace Go.Proofs.Ytagehcnbllkipaa
open Go.RowKit Go.Lg
set_option linter.unusedVariables false
set_option linter.unusedSimpArgs false

theorem check37_ok {p : Pg} (h : Ok p) (w : World) : Calls Try.prog 37 #[p.v] w (Num 0 w) := by
  have := check37 p w
  rwa [err, if_pos h] at this
theorem check37_no {p : Pg} (h : ¬Ok p) (w : World) : Calls Try.prog 37 #[p.v] w (Num 2 w) := by
  have := check37 p w
  rwa [err, if_neg h] at this
def next38 (p : Pg) (f t : Int) : Pg × Int := if Ok p then (if p.ph = f then ({ p with ph := t }, 0) else (z, 15)) else (z, 2)
set_option maxHeartbeats 1600000 in
set_option maxRecDepth 100000 in
theorem promote22 (p : Pg) (n : Int) (w : World) : Calls Try.prog 22 #[p.v, .int .i64 n] w (Gives (promote p n) w) := by
  obtain ⟨a1, a2, a3, a4, a5, a6⟩ := p
  by_cases hok : Ok ⟨a1, a2, a3, a4, a5, a6⟩
  · have hc := @check37_ok _ hok
    go_enter Try.func22, Try.ntmps22
    have hr : 1 ≤ a1 ∧ a1 ≤ 1048576 := ⟨hok.1, hok.2.1⟩
    have hw : wrap64 (a1 + 1) = a1 + 1 := by simp only [wrap64]; omega
    go_wp2_with (first | (go_at_call 37; refine (hc _).mono ?_; clear hc; rintro e w1 ⟨rfl, hb⟩; obtain ⟨hb, hA, hB⟩ := two_blocks hb; obtain ⟨⟨c0, c1, c2, c3, c4, c5⟩, f0, f1, f2, f3, f4, f5⟩ := page_cells hA; obtain ⟨⟨d0, d1, d2, d3, d4, d5⟩, g0, g1, g2, g3, g4, g5⟩ := page_cells hB))
    all_goals
      refine bodyPost_ret (by simp [results, Try.results22, go_sem, d0, d1, d2, d3, d4, d5]; try rfl) rfl ?_
      try simp only [beq_iff_eq, bne_iff_ne, beq_eq_false_iff_ne, decide_eq_true_eq, Bool.not_eq_true', Bool.not_eq_false', decide_eq_false_iff_not, bne_eq_false_iff_eq] at *
      refine ⟨ret2 (q := ⟨_, _, _, _, _, _⟩) ?_, ?_⟩
      · simp only [promote, if_pos hok]
        repeat' split
        all_goals first | rfl | (exfalso; omega) | (simp [z] <;> omega)
      · repeat (first | (with_reducible exact hb) | (with_reducible refine Below.setCell ?_ (by simp) _))
  · have hc := @check37_no _ hok
    go_enter Try.func22, Try.ntmps22
    go_wp2_with (first | (go_at_call 37; refine (hc _).mono ?_; clear hc; rintro e w1 ⟨rfl, hb⟩; obtain ⟨hb, hA, hB⟩ := two_blocks hb; obtain ⟨⟨c0, c1, c2, c3, c4, c5⟩, f0, f1, f2, f3, f4, f5⟩ := page_cells hA; obtain ⟨⟨d0, d1, d2, d3, d4, d5⟩, g0, g1, g2, g3, g4, g5⟩ := page_cells hB))
    all_goals
      refine bodyPost_ret (by simp [results, Try.results22, go_sem, d0, d1, d2, d3, d4, d5]; try rfl) rfl ?_
      try simp only [beq_iff_eq, bne_iff_ne, beq_eq_false_iff_ne, decide_eq_true_eq, Bool.not_eq_true', Bool.not_eq_false', decide_eq_false_iff_not, bne_eq_false_iff_eq] at *
      refine ⟨ret2 (q := ⟨_, _, _, _, _, _⟩) ?_, ?_⟩
      · simp only [promote, if_neg hok]
        repeat' split
        all_goals first | rfl | (exfalso; omega) | (simp [z] <;> omega)
      · repeat (first | (with_reducible exact hb) | (with_reducible refine Below.setCell ?_ (by simp) _))
set_option maxHeartbeats 1600000 in
set_option maxRecDepth 100000 in
theorem hear23 (p : Pg) (n : Int) (w : World) : Calls Try.prog 23 #[p.v, .int .i64 n] w (Gives3 (hear p n) w) := by
  obtain ⟨a1, a2, a3, a4, a5, a6⟩ := p
  by_cases hok : Ok ⟨a1, a2, a3, a4, a5, a6⟩
  · have hc := @check37_ok _ hok
    go_enter Try.func23, Try.ntmps23
    go_wp2_with (first | (go_at_call 37; refine (hc _).mono ?_; clear hc; rintro e w1 ⟨rfl, hb⟩; obtain ⟨hb, hA, hB⟩ := two_blocks hb; obtain ⟨⟨c0, c1, c2, c3, c4, c5⟩, f0, f1, f2, f3, f4, f5⟩ := page_cells hA; obtain ⟨⟨d0, d1, d2, d3, d4, d5⟩, g0, g1, g2, g3, g4, g5⟩ := page_cells hB))
    all_goals
      refine bodyPost_ret (by simp [results, Try.results23, go_sem, d0, d1, d2, d3, d4, d5]; try rfl) rfl ?_
      try simp only [beq_iff_eq, bne_iff_ne, beq_eq_false_iff_ne, decide_eq_true_eq, Bool.not_eq_true', Bool.not_eq_false', decide_eq_false_iff_not, bne_eq_false_iff_eq] at *
      refine ⟨ret3 (q := ⟨_, _, _, _, _, _⟩) ?_, ?_⟩
      · simp only [hear, if_pos hok]
        repeat' split
        all_goals first | rfl | (exfalso; omega) | (simp [z] <;> omega)
      · repeat (first | (with_reducible exact hb) | (with_reducible refine Below.setCell ?_ (by simp) _))
  · have hc := @check37_no _ hok
    go_enter Try.func23, Try.ntmps23
    go_wp2_with (first | (go_at_call 37; refine (hc _).mono ?_; clear hc; rintro e w1 ⟨rfl, hb⟩; obtain ⟨hb, hA, hB⟩ := two_blocks hb; obtain ⟨⟨c0, c1, c2, c3, c4, c5⟩, f0, f1, f2, f3, f4, f5⟩ := page_cells hA; obtain ⟨⟨d0, d1, d2, d3, d4, d5⟩, g0, g1, g2, g3, g4, g5⟩ := page_cells hB))
    all_goals
      refine bodyPost_ret (by simp [results, Try.results23, go_sem, d0, d1, d2, d3, d4, d5]; try rfl) rfl ?_
      try simp only [beq_iff_eq, bne_iff_ne, beq_eq_false_iff_ne, decide_eq_true_eq, Bool.not_eq_true', Bool.not_eq_false', decide_eq_false_iff_not, bne_eq_false_iff_eq] at *
      refine ⟨ret3 (q := ⟨_, _, _, _, _, _⟩) ?_, ?_⟩
      · simp only [hear, if_neg hok]
        repeat' split
        all_goals first | rfl | (exfalso; omega) | (simp [z] <;> omega)
      · repeat (first | (with_reducible exact hb) | (with_reducible refine Below.setCell ?_ (by simp) _))
set_option maxHeartbeats 1600000 in
set_option maxRecDepth 100000 in
theorem fork25 (p : Pg) (n m : Int) (w : World) : Calls Try.prog 25 #[p.v, .int .i64 n, .int .i64 m] w (Gives (fork p n m) w) := by
  obtain ⟨a1, a2, a3, a4, a5, a6⟩ := p
  by_cases hok : Ok ⟨a1, a2, a3, a4, a5, a6⟩
  · have hc := @check37_ok _ hok
    go_enter Try.func25, Try.ntmps25
    go_wp2_with (first | (go_at_call 37; refine (hc _).mono ?_; clear hc; rintro e w1 ⟨rfl, hb⟩; obtain ⟨hb, hA, hB⟩ := two_blocks hb; obtain ⟨⟨c0, c1, c2, c3, c4, c5⟩, f0, f1, f2, f3, f4, f5⟩ := page_cells hA; obtain ⟨⟨d0, d1, d2, d3, d4, d5⟩, g0, g1, g2, g3, g4, g5⟩ := page_cells hB))
    all_goals
      refine bodyPost_ret (by simp [results, Try.results25, go_sem, d0, d1, d2, d3, d4, d5]; try rfl) rfl ?_
      try simp only [beq_iff_eq, bne_iff_ne, beq_eq_false_iff_ne, decide_eq_true_eq, Bool.not_eq_true', Bool.not_eq_false', decide_eq_false_iff_not, bne_eq_false_iff_eq] at *
      refine ⟨ret2 (q := ⟨_, _, _, _, _, _⟩) ?_, ?_⟩
      · simp only [fork, if_pos hok]
        repeat' split
        all_goals first | rfl | (exfalso; omega) | (simp [z] <;> omega)
      · repeat (first | (with_reducible exact hb) | (with_reducible refine Below.setCell ?_ (by simp) _))
  · have hc := @check37_no _ hok
    go_enter Try.func25, Try.ntmps25
    go_wp2_with (first | (go_at_call 37; refine (hc _).mono ?_; clear hc; rintro e w1 ⟨rfl, hb⟩; obtain ⟨hb, hA, hB⟩ := two_blocks hb; obtain ⟨⟨c0, c1, c2, c3, c4, c5⟩, f0, f1, f2, f3, f4, f5⟩ := page_cells hA; obtain ⟨⟨d0, d1, d2, d3, d4, d5⟩, g0, g1, g2, g3, g4, g5⟩ := page_cells hB))
    all_goals
      refine bodyPost_ret (by simp [results, Try.results25, go_sem, d0, d1, d2, d3, d4, d5]; try rfl) rfl ?_
      try simp only [beq_iff_eq, bne_iff_ne, beq_eq_false_iff_ne, decide_eq_true_eq, Bool.not_eq_true', Bool.not_eq_false', decide_eq_false_iff_not, bne_eq_false_iff_eq] at *
      refine ⟨ret2 (q := ⟨_, _, _, _, _, _⟩) ?_, ?_⟩
      · simp only [fork, if_neg hok]
        repeat' split
        all_goals first | rfl | (exfalso; omega) | (simp [z] <;> omega)
      · repeat (first | (with_reducible exact hb) | (with_reducible refine Below.setCell ?_ (by simp) _))
set_option maxHeartbeats 1600000 in
set_option maxRecDepth 100000 in
theorem acked27 (p : Pg) (n : Int) (w : World) : Calls Try.prog 27 #[p.v, .int .i64 n] w (Gives3 (acked p n) w) := by
  obtain ⟨a1, a2, a3, a4, a5, a6⟩ := p
  by_cases hok : Ok ⟨a1, a2, a3, a4, a5, a6⟩
  · have hc := @check37_ok _ hok
    go_enter Try.func27, Try.ntmps27
    go_wp2_with (first | (go_at_call 37; refine (hc _).mono ?_; clear hc; rintro e w1 ⟨rfl, hb⟩; obtain ⟨hb, hA, hB⟩ := two_blocks hb; obtain ⟨⟨c0, c1, c2, c3, c4, c5⟩, f0, f1, f2, f3, f4, f5⟩ := page_cells hA; obtain ⟨⟨d0, d1, d2, d3, d4, d5⟩, g0, g1, g2, g3, g4, g5⟩ := page_cells hB))
    all_goals
      refine bodyPost_ret (by simp [results, Try.results27, go_sem, d0, d1, d2, d3, d4, d5]; try rfl) rfl ?_
      try simp only [beq_iff_eq, bne_iff_ne, beq_eq_false_iff_ne, decide_eq_true_eq, Bool.not_eq_true', Bool.not_eq_false', decide_eq_false_iff_not, bne_eq_false_iff_eq] at *
      refine ⟨ret3 (q := ⟨_, _, _, _, _, _⟩) ?_, ?_⟩
      · simp only [acked, if_pos hok]
        repeat' split
        all_goals first | rfl | (exfalso; omega) | (simp [z] <;> omega)
      · repeat (first | (with_reducible exact hb) | (with_reducible refine Below.setCell ?_ (by simp) _))
  · have hc := @check37_no _ hok
    go_enter Try.func27, Try.ntmps27
    go_wp2_with (first | (go_at_call 37; refine (hc _).mono ?_; clear hc; rintro e w1 ⟨rfl, hb⟩; obtain ⟨hb, hA, hB⟩ := two_blocks hb; obtain ⟨⟨c0, c1, c2, c3, c4, c5⟩, f0, f1, f2, f3, f4, f5⟩ := page_cells hA; obtain ⟨⟨d0, d1, d2, d3, d4, d5⟩, g0, g1, g2, g3, g4, g5⟩ := page_cells hB))
    all_goals
      refine bodyPost_ret (by simp [results, Try.results27, go_sem, d0, d1, d2, d3, d4, d5]; try rfl) rfl ?_
      try simp only [beq_iff_eq, bne_iff_ne, beq_eq_false_iff_ne, decide_eq_true_eq, Bool.not_eq_true', Bool.not_eq_false', decide_eq_false_iff_not, bne_eq_false_iff_eq] at *
      refine ⟨ret3 (q := ⟨_, _, _, _, _, _⟩) ?_, ?_⟩
      · simp only [acked, if_neg hok]
        repeat' split
        all_goals first | rfl | (exfalso; omega) | (simp [z] <;> omega)
      · repeat (first | (with_reducible exact hb) | (with_reducible refine Below.setCell ?_ (by simp) _))
set_option maxHeartbeats 1600000 in
set_option maxRecDepth 100000 in
theorem next38_any (p : Pg) (f t : Int) (w : World) : Calls Try.prog 38 #[p.v, .int .u8 f, .int .u8 t] w (Gives (next38 p f t) w) := by
  obtain ⟨a1, a2, a3, a4, a5, a6⟩ := p
  by_cases hok : Ok ⟨a1, a2, a3, a4, a5, a6⟩
  · have hc := @check37_ok _ hok
    go_enter Try.func38, Try.ntmps38
    go_wp2_with (first | (go_at_call 37; refine (hc _).mono ?_; clear hc; rintro e w1 ⟨rfl, hb⟩; obtain ⟨hb, hA, hB⟩ := two_blocks hb; obtain ⟨⟨c0, c1, c2, c3, c4, c5⟩, f0, f1, f2, f3, f4, f5⟩ := page_cells hA; obtain ⟨⟨d0, d1, d2, d3, d4, d5⟩, g0, g1, g2, g3, g4, g5⟩ := page_cells hB))
    all_goals
      refine bodyPost_ret (by simp [results, Try.results38, go_sem, d0, d1, d2, d3, d4, d5]; try rfl) rfl ?_
      try simp only [beq_iff_eq, bne_iff_ne, beq_eq_false_iff_ne, decide_eq_true_eq, Bool.not_eq_true', Bool.not_eq_false', decide_eq_false_iff_not, bne_eq_false_iff_eq] at *
      refine ⟨ret2 (q := ⟨_, _, _, _, _, _⟩) ?_, ?_⟩
      · simp only [next38, if_pos hok]
        repeat' split
        all_goals first | rfl | (exfalso; omega) | (simp [z] <;> omega)
      · repeat (first | (with_reducible exact hb) | (with_reducible refine Below.setCell ?_ (by simp) _))
  · have hc := @check37_no _ hok
    go_enter Try.func38, Try.ntmps38
    go_wp2_with (first | (go_at_call 37; refine (hc _).mono ?_; clear hc; rintro e w1 ⟨rfl, hb⟩; obtain ⟨hb, hA, hB⟩ := two_blocks hb; obtain ⟨⟨c0, c1, c2, c3, c4, c5⟩, f0, f1, f2, f3, f4, f5⟩ := page_cells hA; obtain ⟨⟨d0, d1, d2, d3, d4, d5⟩, g0, g1, g2, g3, g4, g5⟩ := page_cells hB))
    all_goals
      refine bodyPost_ret (by simp [results, Try.results38, go_sem, d0, d1, d2, d3, d4, d5]; try rfl) rfl ?_
      try simp only [beq_iff_eq, bne_iff_ne, beq_eq_false_iff_ne, decide_eq_true_eq, Bool.not_eq_true', Bool.not_eq_false', decide_eq_false_iff_not, bne_eq_false_iff_eq] at *
      refine ⟨ret2 (q := ⟨_, _, _, _, _, _⟩) ?_, ?_⟩
      · simp only [next38, if_neg hok]
        repeat' split
        all_goals first | rfl | (exfalso; omega) | (simp [z] <;> omega)
      · repeat (first | (with_reducible exact hb) | (with_reducible refine Below.setCell ?_ (by simp) _))
set_option maxHeartbeats 1600000 in
set_option maxRecDepth 100000 in
theorem file28 (p : Pg) (w : World) : Calls Try.prog 28 #[p.v] w (Gives (step p 2) w) := by
  have hc := next38_any p 2 3
  have hs : next38 p 2 3 = step p 2 := rfl
  rw [hs] at hc
  clear hs
  obtain ⟨r, hr⟩ : ∃ r, step p 2 = r := ⟨_, rfl⟩
  rw [hr] at hc ⊢
  clear hr
  obtain ⟨a1, a2, a3, a4, a5, a6⟩ := p
  obtain ⟨⟨b1, b2, b3, b4, b5, b6⟩, k⟩ := r
  go_enter Try.func28, Try.ntmps28
  go_wp2_with (go_at_call 38; refine (hc _).mono ?_; clear hc; rintro e w1 ⟨rfl, hb⟩; obtain ⟨hb, hA, hB⟩ := two_blocks hb; obtain ⟨⟨c0, c1, c2, c3, c4, c5⟩, f0, f1, f2, f3, f4, f5⟩ := page_cells hA; obtain ⟨⟨d0, d1, d2, d3, d4, d5⟩, g0, g1, g2, g3, g4, g5⟩ := page_cells hB)
  all_goals
    refine bodyPost_ret (by simp [results, Try.results28, go_sem, d0, d1, d2, d3, d4, d5]; try rfl) rfl ?_
    exact ⟨ret2 (q := ⟨_, _, _, _, _, _⟩) rfl, by repeat (first | (with_reducible exact hb) | (with_reducible refine Below.setCell ?_ (by simp) _))⟩
set_option maxHeartbeats 1600000 in
set_option maxRecDepth 100000 in
theorem cut29 (p : Pg) (w : World) : Calls Try.prog 29 #[p.v] w (Gives (step p 3) w) := by
  have hc := next38_any p 3 4
  have hs : next38 p 3 4 = step p 3 := rfl
  rw [hs] at hc
  clear hs
  obtain ⟨r, hr⟩ : ∃ r, step p 3 = r := ⟨_, rfl⟩
  rw [hr] at hc ⊢
  clear hr
  obtain ⟨a1, a2, a3, a4, a5, a6⟩ := p
  obtain ⟨⟨b1, b2, b3, b4, b5, b6⟩, k⟩ := r
  go_enter Try.func29, Try.ntmps29
  go_wp2_with (go_at_call 38; refine (hc _).mono ?_; clear hc; rintro e w1 ⟨rfl, hb⟩; obtain ⟨hb, hA, hB⟩ := two_blocks hb; obtain ⟨⟨c0, c1, c2, c3, c4, c5⟩, f0, f1, f2, f3, f4, f5⟩ := page_cells hA; obtain ⟨⟨d0, d1, d2, d3, d4, d5⟩, g0, g1, g2, g3, g4, g5⟩ := page_cells hB)
  all_goals
    refine bodyPost_ret (by simp [results, Try.results29, go_sem, d0, d1, d2, d3, d4, d5]; try rfl) rfl ?_
    exact ⟨ret2 (q := ⟨_, _, _, _, _, _⟩) rfl, by repeat (first | (with_reducible exact hb) | (with_reducible refine Below.setCell ?_ (by simp) _))⟩
set_option maxHeartbeats 1600000 in
set_option maxRecDepth 100000 in
theorem writes31 (p : Pg) (w : World) : Calls Try.prog 31 #[p.v] w (Num (writes p) w) := by
  obtain ⟨a1, a2, a3, a4, a5, a6⟩ := p
  by_cases hok : Ok ⟨a1, a2, a3, a4, a5, a6⟩
  · have hc := @check37_ok _ hok
    go_enter Try.func31, Try.ntmps31
    go_wp2_with (first | (go_at_call 37; refine (hc _).mono ?_; clear hc; rintro e w1 ⟨rfl, hb⟩; obtain ⟨hb, hA⟩ := one_block hb; obtain ⟨⟨c0, c1, c2, c3, c4, c5⟩, f0, f1, f2, f3, f4, f5⟩ := page_cells hA))
    all_goals
      go_ret
      try simp only [beq_iff_eq, bne_iff_ne, beq_eq_false_iff_ne, decide_eq_true_eq, Bool.not_eq_true', Bool.not_eq_false', decide_eq_false_iff_not, bne_eq_false_iff_eq] at *
      refine ⟨rd_int ?_, ?_⟩
      · simp only [writes, if_pos hok]
        repeat' split
        all_goals first | rfl | (exfalso; omega) | (simp [z] <;> omega)
      · repeat (first | (with_reducible exact hb) | (with_reducible refine Below.setCell ?_ (by simp) _))
  · have hc := @check37_no _ hok
    go_enter Try.func31, Try.ntmps31
    go_wp2_with (first | (go_at_call 37; refine (hc _).mono ?_; clear hc; rintro e w1 ⟨rfl, hb⟩; obtain ⟨hb, hA⟩ := one_block hb; obtain ⟨⟨c0, c1, c2, c3, c4, c5⟩, f0, f1, f2, f3, f4, f5⟩ := page_cells hA))
    all_goals
      go_ret
      try simp only [beq_iff_eq, bne_iff_ne, beq_eq_false_iff_ne, decide_eq_true_eq, Bool.not_eq_true', Bool.not_eq_false', decide_eq_false_iff_not, bne_eq_false_iff_eq] at *
      refine ⟨rd_int ?_, ?_⟩
      · simp only [writes, if_neg hok]
        repeat' split
        all_goals first | rfl | (exfalso; omega) | (simp [z] <;> omega)
      · repeat (first | (with_reducible exact hb) | (with_reducible refine Below.setCell ?_ (by simp) _))
set_option maxHeartbeats 1600000 in
set_option maxRecDepth 100000 in
theorem reads32 (p : Pg) (w : World) : Calls Try.prog 32 #[p.v] w (Num (reads p) w) := by
  obtain ⟨a1, a2, a3, a4, a5, a6⟩ := p
  by_cases hok : Ok ⟨a1, a2, a3, a4, a5, a6⟩
  · have hc := @check37_ok _ hok
    go_enter Try.func32, Try.ntmps32
    go_wp2_with (first | (go_at_call 37; refine (hc _).mono ?_; clear hc; rintro e w1 ⟨rfl, hb⟩; obtain ⟨hb, hA⟩ := one_block hb; obtain ⟨⟨c0, c1, c2, c3, c4, c5⟩, f0, f1, f2, f3, f4, f5⟩ := page_cells hA))
    all_goals
      go_ret
      try simp only [beq_iff_eq, bne_iff_ne, beq_eq_false_iff_ne, decide_eq_true_eq, Bool.not_eq_true', Bool.not_eq_false', decide_eq_false_iff_not, bne_eq_false_iff_eq] at *
      refine ⟨rd_int ?_, ?_⟩
      · simp only [reads, if_pos hok]
        repeat' split
        all_goals first | rfl | (exfalso; omega) | (simp [z] <;> omega)
      · repeat (first | (with_reducible exact hb) | (with_reducible refine Below.setCell ?_ (by simp) _))
  · have hc := @check37_no _ hok
    go_enter Try.func32, Try.ntmps32
    go_wp2_with (first | (go_at_call 37; refine (hc _).mono ?_; clear hc; rintro e w1 ⟨rfl, hb⟩; obtain ⟨hb, hA⟩ := one_block hb; obtain ⟨⟨c0, c1, c2, c3, c4, c5⟩, f0, f1, f2, f3, f4, f5⟩ := page_cells hA))
    all_goals
      go_ret
      try simp only [beq_iff_eq, bne_iff_ne, beq_eq_false_iff_ne, decide_eq_true_eq, Bool.not_eq_true', Bool.not_eq_false', decide_eq_false_iff_not, bne_eq_false_iff_eq] at *
      refine ⟨rd_int ?_, ?_⟩
      · simp only [reads, if_neg hok]
        repeat' split
        all_goals first | rfl | (exfalso; omega) | (simp [z] <;> omega)
      · repeat (first | (with_reducible exact hb) | (with_reducible refine Below.setCell ?_ (by simp) _))
end Go.Proofs.Ytagehcnbllkipaa
