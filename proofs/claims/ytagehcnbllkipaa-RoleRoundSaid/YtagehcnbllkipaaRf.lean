/- The step to a fork. -/
import Derived.Test.YtagehcnbllkipaaRs
namespace Go.Proofs.Ytagehcnbllkipaa
open Go.RowKit Go.Lg
set_option linter.unusedVariables false
set_option linter.unusedSimpArgs false

set_option maxHeartbeats 4000000 in
set_option maxRecDepth 100000 in
theorem fork9_good (a1 a2 a3 a5 a6 n m : Int) (w : World) (hok : Ok ⟨a1, a2, a3, 1, a5, a6⟩) (h1 : 0 ≤ n) (h2 : n ≤ 1048576) (h3 : 0 ≤ m) (h4 : m ≤ 1073741824)
    (h34 : ∀ w, Calls Try.prog 34 #[(Pg.mk a1 a2 a3 1 a5 a6).v, .int .u8 1] w (Gives (⟨a1, a2, a3, 2, a5, a6⟩, 0) w)) : Calls Try.prog 9 #[(Pg.mk a1 a2 a3 1 a5 a6).v, .int .i64 n, .int .i64 m] w (Gives (⟨a1, a2, a3, 2, n, m⟩, 0) w) := by
  have hc := @check18_ok _ hok
  go_enter Try.func9, Try.ntmps9
  go_wp2_with (first | (go_at_call 18; refine (hc _).mono ?_; clear hc; rintro e w1 ⟨rfl, hb⟩; obtain ⟨hb, hA, hB⟩ := two_blocks hb; obtain ⟨⟨c0, c1, c2, c3, c4, c5⟩, f0, f1, f2, f3, f4, f5⟩ := page_cells hA; obtain ⟨⟨d0, d1, d2, d3, d4, d5⟩, g0, g1, g2, g3, g4, g5⟩ := page_cells hB) | (go_at_call 33; refine (within33 _ _ _ _).mono ?_; rintro e w2 h; obtain ⟨rfl, rfl⟩ := h.get; clear h) | (go_at_call 34; refine stop_ (fun Ps hPs => ?_)))
  refine hPs ?_
  clear hPs Ps
  refine (h34 _).mono ?_
  clear h34
  rintro e w2 ⟨rfl, hb2⟩
  have hA2 := hA.later hb2
  have hB2 := hB.later hb2
  obtain ⟨⟨c0, c1, c2, c3, c4, c5⟩, f0, f1, f2, f3, f4, f5⟩ := page_cells (hA.later hb2)
  obtain ⟨⟨d0, d1, d2, d3, d4, d5⟩, g0, g1, g2, g3, g4, g5⟩ := page_cells (hB.later hb2)
  have hb := bl_trans hb hb2 hb.size
  clear hA hB hb2
  iterate 32 (try (first | go_values | go_skip | go_guarded | go_step | go_upon | go_back | (simp only [Int.not_lt, Int.not_le] at *; go_simp) | (go_values <;> (try go_simp)) | (go_ite <;> go_prune <;> (try go_simp)) | (split <;> (first | (rename_i hx; exact (hx _ rfl).elim) | go_prune))))
  have hA3 := hA2.page (.int .i64 a1) (.int .u8 a2) (.int .i64 a3) (.int .u8 2) (.int .i64 a5) (.int .i64 a6)
  have hB3 := hB2.page_far (b := w.heap.size) (by omega) (.int .i64 a1) (.int .u8 a2) (.int .i64 a3) (.int .u8 2) (.int .i64 a5) (.int .i64 a6)
  have hb3 := below_page hb (Nat.le_refl _) (.int .i64 a1) (.int .u8 a2) (.int .i64 a3) (.int .u8 2) (.int .i64 a5) (.int .i64 a6)
  clear hA2 hB2 c0 c1 c2 c3 c4 c5 d0 d1 d2 d3 d4 d5 f0 f1 f2 f3 f4 f5 g0 g1 g2 g3 g4 g5
  generalize hw : (World.setCell (World.setCell (World.setCell (World.setCell (World.setCell (World.setCell w2 _ _) _ _) _ _) _ _) _ _) _ _) = w3 at *
  clear hw
  obtain ⟨⟨c0, c1, c2, c3, c4, c5⟩, f0, f1, f2, f3, f4, f5⟩ := page_cells hA3
  obtain ⟨⟨d0, d1, d2, d3, d4, d5⟩, g0, g1, g2, g3, g4, g5⟩ := page_cells hB3
  iterate 46 (try (first | go_values | go_skip | go_guarded | go_step | go_upon | go_back | (simp only [Int.not_lt, Int.not_le] at *; go_simp) | (go_values <;> (try go_simp)) | (go_ite <;> go_prune <;> (try go_simp)) | (split <;> (first | (rename_i hx; exact (hx _ rfl).elim) | go_prune))))
  have hB4 := (hB3.far (p := ⟨w.heap.size, 4, none⟩) (by simp) (.int .i64 n)).far (p := ⟨w.heap.size, 5, none⟩) (by simp) (.int .i64 m)
  have hb4 := (hb3.setCell (p := ⟨w.heap.size, 4, none⟩) (Nat.le_refl _) (.int .i64 n)).setCell (p := ⟨w.heap.size, 5, none⟩) (Nat.le_refl _) (.int .i64 m)
  have hB5 := hB4.page (.int .i64 a1) (.int .u8 a2) (.int .i64 a3) (.int .u8 2) (.int .i64 n) (.int .i64 m)
  have hb5 := below_page hb4 (b := w.heap.size + 1) (by omega) (.int .i64 a1) (.int .u8 a2) (.int .i64 a3) (.int .u8 2) (.int .i64 n) (.int .i64 m)
  clear hB3 hB4 hb3 hb4 hA3
  clear c0 c1 c2 c3 c4 c5 d0 d1 d2 d3 d4 d5 f0 f1 f2 f3 f4 f5 g0 g1 g2 g3 g4 g5
  generalize hw : (World.setCell (World.setCell (World.setCell (World.setCell (World.setCell (World.setCell _ ⟨w.heap.size + 1, 0, none⟩ _) _ _) _ _) _ _) _ _) _ _) = w9 at *
  clear hw
  obtain ⟨⟨e0, e1, e2, e3, e4, e5⟩, _⟩ := page_cells hB5
  refine bodyPost_ret (by simp [results, Try.results9, go_sem, e0, e1, e2, e3, e4, e5]; try rfl) rfl ?_
  exact ⟨ret2 (q := ⟨_, _, _, _, _, _⟩) rfl, hb5⟩
set_option maxHeartbeats 4000000 in
set_option maxRecDepth 100000 in
theorem fork9_late (a1 a2 a3 a4 a5 a6 n m : Int) (w : World) (hok : Ok ⟨a1, a2, a3, a4, a5, a6⟩) (h1 : 0 ≤ n) (h2 : n ≤ 1048576) (h3 : 0 ≤ m) (h4 : m ≤ 1073741824)
    (h34 : ∀ w, Calls Try.prog 34 #[(Pg.mk a1 a2 a3 a4 a5 a6).v, .int .u8 1] w (Gives (⟨0, 0, 0, 0, 0, 0⟩, 15) w)) : Calls Try.prog 9 #[(Pg.mk a1 a2 a3 a4 a5 a6).v, .int .i64 n, .int .i64 m] w (Gives (⟨0, 0, 0, 0, 0, 0⟩, 15) w) := by
  have hc := @check18_ok _ hok
  go_enter Try.func9, Try.ntmps9
  go_wp2_with (first | (go_at_call 18; refine (hc _).mono ?_; clear hc; rintro e w1 ⟨rfl, hb⟩; obtain ⟨hb, hA, hB⟩ := two_blocks hb; obtain ⟨⟨c0, c1, c2, c3, c4, c5⟩, f0, f1, f2, f3, f4, f5⟩ := page_cells hA; obtain ⟨⟨d0, d1, d2, d3, d4, d5⟩, g0, g1, g2, g3, g4, g5⟩ := page_cells hB) | (go_at_call 33; refine (within33 _ _ _ _).mono ?_; rintro e w2 h; obtain ⟨rfl, rfl⟩ := h.get; clear h) | (go_at_call 34; refine stop_ (fun Ps hPs => ?_)))
  refine hPs ?_
  clear hPs Ps
  refine (h34 _).mono ?_
  clear h34
  rintro e w2 ⟨rfl, hb2⟩
  have hA2 := hA.later hb2
  have hB2 := hB.later hb2
  obtain ⟨⟨c0, c1, c2, c3, c4, c5⟩, f0, f1, f2, f3, f4, f5⟩ := page_cells (hA.later hb2)
  obtain ⟨⟨d0, d1, d2, d3, d4, d5⟩, g0, g1, g2, g3, g4, g5⟩ := page_cells (hB.later hb2)
  have hb := bl_trans hb hb2 hb.size
  clear hA hB hb2
  iterate 32 (try (first | go_values | go_skip | go_guarded | go_step | go_upon | go_back | (simp only [Int.not_lt, Int.not_le] at *; go_simp) | (go_values <;> (try go_simp)) | (go_ite <;> go_prune <;> (try go_simp)) | (split <;> (first | (rename_i hx; exact (hx _ rfl).elim) | go_prune))))
  have hA3 := hA2.page (.int .i64 0) (.int .u8 0) (.int .i64 0) (.int .u8 0) (.int .i64 0) (.int .i64 0)
  have hB3 := hB2.page_far (b := w.heap.size) (by omega) (.int .i64 0) (.int .u8 0) (.int .i64 0) (.int .u8 0) (.int .i64 0) (.int .i64 0)
  have hb3 := below_page hb (Nat.le_refl _) (.int .i64 0) (.int .u8 0) (.int .i64 0) (.int .u8 0) (.int .i64 0) (.int .i64 0)
  clear hA2 hB2 c0 c1 c2 c3 c4 c5 d0 d1 d2 d3 d4 d5 f0 f1 f2 f3 f4 f5 g0 g1 g2 g3 g4 g5
  generalize hw : (World.setCell (World.setCell (World.setCell (World.setCell (World.setCell (World.setCell w2 _ _) _ _) _ _) _ _) _ _) _ _) = w3 at *
  clear hw
  obtain ⟨⟨c0, c1, c2, c3, c4, c5⟩, f0, f1, f2, f3, f4, f5⟩ := page_cells hA3
  obtain ⟨⟨d0, d1, d2, d3, d4, d5⟩, g0, g1, g2, g3, g4, g5⟩ := page_cells hB3
  iterate 20 (try (first | go_values | go_skip | go_guarded | go_step | go_upon | go_back | (simp only [Int.not_lt, Int.not_le] at *; go_simp) | (go_values <;> (try go_simp)) | (go_ite <;> go_prune <;> (try go_simp)) | (split <;> (first | (rename_i hx; exact (hx _ rfl).elim) | go_prune))))
  have hB4 := hB3
  have hb4 := hb3
  have hB5 := hB4.page (.int .i64 0) (.int .u8 0) (.int .i64 0) (.int .u8 0) (.int .i64 0) (.int .i64 0)
  have hb5 := below_page hb4 (b := w.heap.size + 1) (by omega) (.int .i64 0) (.int .u8 0) (.int .i64 0) (.int .u8 0) (.int .i64 0) (.int .i64 0)
  clear hB3 hB4 hb3 hb4 hA3
  clear c0 c1 c2 c3 c4 c5 d0 d1 d2 d3 d4 d5 f0 f1 f2 f3 f4 f5 g0 g1 g2 g3 g4 g5
  generalize hw : (World.setCell (World.setCell (World.setCell (World.setCell (World.setCell (World.setCell _ ⟨w.heap.size + 1, 0, none⟩ _) _ _) _ _) _ _) _ _) _ _) = w9 at *
  clear hw
  obtain ⟨⟨e0, e1, e2, e3, e4, e5⟩, _⟩ := page_cells hB5
  refine bodyPost_ret (by simp [results, Try.results9, go_sem, e0, e1, e2, e3, e4, e5]; try rfl) rfl ?_
  exact ⟨ret2 (q := ⟨_, _, _, _, _, _⟩) rfl, hb5⟩
set_option maxHeartbeats 4000000 in
set_option maxRecDepth 100000 in
theorem fork9_bad (a1 a2 a3 a4 a5 a6 n m : Int) (w : World) (hok : Ok ⟨a1, a2, a3, a4, a5, a6⟩) (hn : ¬((0 ≤ n ∧ n ≤ 1048576) ∧ (0 ≤ m ∧ m ≤ 1073741824))) : Calls Try.prog 9 #[(Pg.mk a1 a2 a3 a4 a5 a6).v, .int .i64 n, .int .i64 m] w (Gives (⟨0, 0, 0, 0, 0, 0⟩, 2) w) := by
  have hc := @check18_ok _ hok
  go_enter Try.func9, Try.ntmps9
  go_wp2_with (first | (go_at_call 18; refine (hc _).mono ?_; clear hc; rintro e w1 ⟨rfl, hb⟩; obtain ⟨hb, hA, hB⟩ := two_blocks hb; obtain ⟨⟨c0, c1, c2, c3, c4, c5⟩, f0, f1, f2, f3, f4, f5⟩ := page_cells hA; obtain ⟨⟨d0, d1, d2, d3, d4, d5⟩, g0, g1, g2, g3, g4, g5⟩ := page_cells hB) | (go_at_call 33; refine (within33 _ _ _ _).mono ?_; rintro e w2 h; obtain ⟨rfl, rfl⟩ := h.get; clear h) | (go_at_call 34; exfalso; clear hA hB hb c0 c1 c2 c3 c4 c5 d0 d1 d2 d3 d4 d5 f0 f1 f2 f3 f4 f5 g0 g1 g2 g3 g4 g5; simp at *; omega))
  all_goals
    refine bodyPost_ret (by simp [results, Try.results9, go_sem, d0, d1, d2, d3, d4, d5]; try rfl) rfl ?_
    refine ⟨ret2 (q := ⟨_, _, _, _, _, _⟩) rfl, ?_⟩
    repeat (first | (with_reducible exact hb) | (with_reducible refine Below.setCell ?_ (by simp) _))
set_option maxHeartbeats 4000000 in
set_option maxRecDepth 100000 in
theorem fork9_no (a1 a2 a3 a4 a5 a6 n m : Int) (w : World) (hok : ¬Ok ⟨a1, a2, a3, a4, a5, a6⟩) : Calls Try.prog 9 #[(Pg.mk a1 a2 a3 a4 a5 a6).v, .int .i64 n, .int .i64 m] w (Gives (⟨0, 0, 0, 0, 0, 0⟩, 2) w) := by
  have hc := @check18_no _ hok
  go_enter Try.func9, Try.ntmps9
  go_wp2_with (first | (go_at_call 18; refine (hc _).mono ?_; clear hc; rintro e w1 ⟨rfl, hb⟩; obtain ⟨hb, hA, hB⟩ := two_blocks hb; obtain ⟨⟨c0, c1, c2, c3, c4, c5⟩, f0, f1, f2, f3, f4, f5⟩ := page_cells hA; obtain ⟨⟨d0, d1, d2, d3, d4, d5⟩, g0, g1, g2, g3, g4, g5⟩ := page_cells hB) | (go_at_call 33; refine (within33 _ _ _ _).mono ?_; rintro e w2 h; obtain ⟨rfl, rfl⟩ := h.get; clear h) | (go_at_call 34; exfalso; clear hA hB hb c0 c1 c2 c3 c4 c5 d0 d1 d2 d3 d4 d5 f0 f1 f2 f3 f4 f5 g0 g1 g2 g3 g4 g5; simp at *; omega))
  all_goals
    refine bodyPost_ret (by simp [results, Try.results9, go_sem, d0, d1, d2, d3, d4, d5]; try rfl) rfl ?_
    refine ⟨ret2 (q := ⟨_, _, _, _, _, _⟩) rfl, ?_⟩
    repeat (first | (with_reducible exact hb) | (with_reducible refine Below.setCell ?_ (by simp) _))
theorem fork9 (p : Pg) (n m : Int) (w : World) : Calls Try.prog 9 #[p.v, .int .i64 n, .int .i64 m] w (Gives (fork p n m) w) := by
  obtain ⟨a1, a2, a3, a4, a5, a6⟩ := p
  by_cases hok : Ok ⟨a1, a2, a3, a4, a5, a6⟩
  · by_cases hn : (0 ≤ n ∧ n ≤ 1048576) ∧ (0 ≤ m ∧ m ≤ 1073741824)
    · by_cases hph : a4 = 1
      · subst hph
        have h34 := step34 ⟨a1, a2, a3, 1, a5, a6⟩ 1 (by omega)
        have hs : step ⟨a1, a2, a3, 1, a5, a6⟩ 1 = (⟨a1, a2, a3, 2, a5, a6⟩, 0) := by simp [step, hok]
        rw [hs] at h34
        have hf : fork ⟨a1, a2, a3, 1, a5, a6⟩ n m = (⟨a1, a2, a3, 2, n, m⟩, 0) := by simp only [fork, if_pos hok, if_pos hn, if_pos]
        rw [hf]
        exact fork9_good a1 a2 a3 a5 a6 n m w hok hn.1.1 hn.1.2 hn.2.1 hn.2.2 h34
      · have h34 := step34 ⟨a1, a2, a3, a4, a5, a6⟩ 1 (by omega)
        have hs : step ⟨a1, a2, a3, a4, a5, a6⟩ 1 = (⟨0, 0, 0, 0, 0, 0⟩, 15) := by simp [step, hok, hph, z]
        rw [hs] at h34
        have hf : fork ⟨a1, a2, a3, a4, a5, a6⟩ n m = (⟨0, 0, 0, 0, 0, 0⟩, 15) := by simp only [fork, if_pos hok, if_pos hn, if_neg hph, z]
        rw [hf]
        exact fork9_late a1 a2 a3 a4 a5 a6 n m w hok hn.1.1 hn.1.2 hn.2.1 hn.2.2 h34
    · have hf : fork ⟨a1, a2, a3, a4, a5, a6⟩ n m = (⟨0, 0, 0, 0, 0, 0⟩, 2) := by simp only [fork, if_pos hok, if_neg hn, z]
      rw [hf]
      exact fork9_bad a1 a2 a3 a4 a5 a6 n m w hok hn
  · have hf : fork ⟨a1, a2, a3, a4, a5, a6⟩ n m = (⟨0, 0, 0, 0, 0, 0⟩, 2) := by simp only [fork, if_neg hok, z]
    rw [hf]
    exact fork9_no a1 a2 a3 a4 a5 a6 n m w hok
end Go.Proofs.Ytagehcnbllkipaa
