/- The document's own steps of a role, more. -/
import Derived.Test.YtagehcnbllkipaaRr
namespace Go.Proofs.Ytagehcnbllkipaa
open Go.RowKit Go.Lg
set_option linter.unusedVariables false
set_option linter.unusedSimpArgs false

set_option maxHeartbeats 4000000 in
set_option maxRecDepth 100000 in
theorem rejoin30_good (a1 a2 a3 a5 a6 : Int) (w : World) 
    (hc : ∀ w, Calls Try.prog 38 #[(Pg.mk a1 a2 a3 4 a5 a6).v, .int .u8 4, .int .u8 0] w (Gives (⟨a1, a2, a3, 0, a5, a6⟩, 0) w)) : Calls Try.prog 30 #[(Pg.mk a1 a2 a3 4 a5 a6).v] w (Gives (⟨a1, 2, 0, 0, 0, 0⟩, 0) w) := by
  go_enter Try.func30, Try.ntmps30
  go_wp2_with (go_at_call 38; refine stop_ (fun Ps hPs => ?_))
  refine hPs ?_
  clear hPs Ps
  refine (hc _).mono ?_
  clear hc
  rintro e w2 ⟨rfl, hb⟩
  obtain ⟨hb, hA2, hB2⟩ := two_blocks hb
  obtain ⟨⟨c0, c1, c2, c3, c4, c5⟩, f0, f1, f2, f3, f4, f5⟩ := page_cells hA2
  obtain ⟨⟨d0, d1, d2, d3, d4, d5⟩, g0, g1, g2, g3, g4, g5⟩ := page_cells hB2
  iterate 32 (try (first | go_values | go_skip | go_guarded | go_step | go_upon | go_back | (simp only [Int.not_lt, Int.not_le] at *; go_simp) | (go_values <;> (try go_simp)) | (go_ite <;> go_prune <;> (try go_simp)) | (split <;> (first | (rename_i hx; exact (hx _ rfl).elim) | go_prune))))
  have hA3 := hA2.page (.int .i64 a1) (.int .u8 a2) (.int .i64 a3) (.int .u8 0) (.int .i64 a5) (.int .i64 a6)
  have hB3 := hB2.page_far (b := w.heap.size) (by omega) (.int .i64 a1) (.int .u8 a2) (.int .i64 a3) (.int .u8 0) (.int .i64 a5) (.int .i64 a6)
  have hb3 := below_page hb (Nat.le_refl _) (.int .i64 a1) (.int .u8 a2) (.int .i64 a3) (.int .u8 0) (.int .i64 a5) (.int .i64 a6)
  clear hA2 hB2 hb c0 c1 c2 c3 c4 c5 d0 d1 d2 d3 d4 d5 f0 f1 f2 f3 f4 f5 g0 g1 g2 g3 g4 g5
  generalize hw : (World.setCell (World.setCell (World.setCell (World.setCell (World.setCell (World.setCell w2 _ _) _ _) _ _) _ _) _ _) _ _) = w3 at *
  clear hw
  obtain ⟨⟨c0, c1, c2, c3, c4, c5⟩, f0, f1, f2, f3, f4, f5⟩ := page_cells hA3
  obtain ⟨⟨d0, d1, d2, d3, d4, d5⟩, g0, g1, g2, g3, g4, g5⟩ := page_cells hB3
  iterate 30 (try (first | go_values | go_skip | go_guarded | go_step | go_upon | go_back | (simp only [Int.not_lt, Int.not_le] at *; go_simp) | (go_values <;> (try go_simp)) | (go_ite <;> go_prune <;> (try go_simp)) | (split <;> (first | (rename_i hx; exact (hx _ rfl).elim) | go_prune))))
  have hB5 := hB3.page (.int .i64 a1) (.int .u8 2) (.int .i64 0) (.int .u8 0) (.int .i64 0) (.int .i64 0)
  have hb5 := below_page hb3 (b := w.heap.size + 1) (by omega) (.int .i64 a1) (.int .u8 2) (.int .i64 0) (.int .u8 0) (.int .i64 0) (.int .i64 0)
  clear hB3 hb3 hA3
  clear c0 c1 c2 c3 c4 c5 d0 d1 d2 d3 d4 d5 f0 f1 f2 f3 f4 f5 g0 g1 g2 g3 g4 g5
  generalize hw : (World.setCell (World.setCell (World.setCell (World.setCell (World.setCell (World.setCell _ ⟨w.heap.size + 1, 0, none⟩ _) _ _) _ _) _ _) _ _) _ _) = w9 at *
  clear hw
  obtain ⟨⟨e0, e1, e2, e3, e4, e5⟩, _⟩ := page_cells hB5
  refine bodyPost_ret (by simp [results, Try.results30, go_sem, e0, e1, e2, e3, e4, e5]; try rfl) rfl ?_
  exact ⟨ret2 (q := ⟨_, _, _, _, _, _⟩) rfl, hb5⟩
set_option maxHeartbeats 4000000 in
set_option maxRecDepth 100000 in
theorem rejoin30_late (a1 a2 a3 a4 a5 a6 k : Int) (w : World) (hk : ¬k = 0) 
    (hc : ∀ w, Calls Try.prog 38 #[(Pg.mk a1 a2 a3 a4 a5 a6).v, .int .u8 4, .int .u8 0] w (Gives (⟨0, 0, 0, 0, 0, 0⟩, k) w)) : Calls Try.prog 30 #[(Pg.mk a1 a2 a3 a4 a5 a6).v] w (Gives (⟨0, 0, 0, 0, 0, 0⟩, k) w) := by
  go_enter Try.func30, Try.ntmps30
  go_wp2_with (go_at_call 38; refine stop_ (fun Ps hPs => ?_))
  refine hPs ?_
  clear hPs Ps
  refine (hc _).mono ?_
  clear hc
  rintro e w2 ⟨rfl, hb⟩
  obtain ⟨hb, hA2, hB2⟩ := two_blocks hb
  obtain ⟨⟨c0, c1, c2, c3, c4, c5⟩, f0, f1, f2, f3, f4, f5⟩ := page_cells hA2
  obtain ⟨⟨d0, d1, d2, d3, d4, d5⟩, g0, g1, g2, g3, g4, g5⟩ := page_cells hB2
  iterate 32 (try (first | go_values | go_skip | go_guarded | go_step | go_upon | go_back | (simp only [Int.not_lt, Int.not_le] at *; go_simp) | (go_values <;> (try go_simp)) | (go_ite <;> go_prune <;> (try go_simp)) | (split <;> (first | (rename_i hx; exact (hx _ rfl).elim) | go_prune))))
  have hA3 := hA2.page (.int .i64 0) (.int .u8 0) (.int .i64 0) (.int .u8 0) (.int .i64 0) (.int .i64 0)
  have hB3 := hB2.page_far (b := w.heap.size) (by omega) (.int .i64 0) (.int .u8 0) (.int .i64 0) (.int .u8 0) (.int .i64 0) (.int .i64 0)
  have hb3 := below_page hb (Nat.le_refl _) (.int .i64 0) (.int .u8 0) (.int .i64 0) (.int .u8 0) (.int .i64 0) (.int .i64 0)
  clear hA2 hB2 hb c0 c1 c2 c3 c4 c5 d0 d1 d2 d3 d4 d5 f0 f1 f2 f3 f4 f5 g0 g1 g2 g3 g4 g5
  generalize hw : (World.setCell (World.setCell (World.setCell (World.setCell (World.setCell (World.setCell w2 _ _) _ _) _ _) _ _) _ _) _ _) = w3 at *
  clear hw
  obtain ⟨⟨c0, c1, c2, c3, c4, c5⟩, f0, f1, f2, f3, f4, f5⟩ := page_cells hA3
  obtain ⟨⟨d0, d1, d2, d3, d4, d5⟩, g0, g1, g2, g3, g4, g5⟩ := page_cells hB3
  iterate 20 (try (first | go_values | go_skip | go_guarded | go_step | go_upon | go_back | (simp only [Int.not_lt, Int.not_le] at *; go_simp) | (go_values <;> (try go_simp)) | (go_ite <;> go_prune <;> (try go_simp)) | (split <;> (first | (rename_i hx; exact (hx _ rfl).elim) | go_prune))))
  have hB5 := hB3.page (.int .i64 0) (.int .u8 0) (.int .i64 0) (.int .u8 0) (.int .i64 0) (.int .i64 0)
  have hb5 := below_page hb3 (b := w.heap.size + 1) (by omega) (.int .i64 0) (.int .u8 0) (.int .i64 0) (.int .u8 0) (.int .i64 0) (.int .i64 0)
  clear hB3 hb3 hA3
  clear c0 c1 c2 c3 c4 c5 d0 d1 d2 d3 d4 d5 f0 f1 f2 f3 f4 f5 g0 g1 g2 g3 g4 g5
  generalize hw : (World.setCell (World.setCell (World.setCell (World.setCell (World.setCell (World.setCell _ ⟨w.heap.size + 1, 0, none⟩ _) _ _) _ _) _ _) _ _) _ _) = w9 at *
  clear hw
  obtain ⟨⟨e0, e1, e2, e3, e4, e5⟩, _⟩ := page_cells hB5
  refine bodyPost_ret (by simp [results, Try.results30, go_sem, e0, e1, e2, e3, e4, e5]; try rfl) rfl ?_
  exact ⟨ret2 (q := ⟨_, _, _, _, _, _⟩) rfl, hb5⟩
theorem rejoin30 (p : Pg) (w : World) : Calls Try.prog 30 #[p.v] w (Gives (rejoin p) w) := by
  have hc := next38_any p 4 0
  obtain ⟨a1, a2, a3, a4, a5, a6⟩ := p
  by_cases hok : Ok ⟨a1, a2, a3, a4, a5, a6⟩
  · by_cases hph : a4 = 4
    · subst hph
      have hs : next38 ⟨a1, a2, a3, 4, a5, a6⟩ 4 0 = (⟨a1, a2, a3, 0, a5, a6⟩, 0) := by simp [next38, hok]
      have hf : rejoin ⟨a1, a2, a3, 4, a5, a6⟩ = (⟨a1, 2, 0, 0, 0, 0⟩, 0) := by simp [rejoin, hok]
      rw [hs] at hc
      rw [hf]
      exact rejoin30_good a1 a2 a3 a5 a6 w hc
    · have hs : next38 ⟨a1, a2, a3, a4, a5, a6⟩ 4 0 = (⟨0, 0, 0, 0, 0, 0⟩, 15) := by simp [next38, hok, hph, z]
      have hf : rejoin ⟨a1, a2, a3, a4, a5, a6⟩ = (⟨0, 0, 0, 0, 0, 0⟩, 15) := by simp [rejoin, hok, hph, z]
      rw [hs] at hc
      rw [hf]
      exact rejoin30_late a1 a2 a3 a4 a5 a6 15 w (by decide) hc
  · have hs : next38 ⟨a1, a2, a3, a4, a5, a6⟩ 4 0 = (⟨0, 0, 0, 0, 0, 0⟩, 2) := by simp [next38, hok, z]
    have hf : rejoin ⟨a1, a2, a3, a4, a5, a6⟩ = (⟨0, 0, 0, 0, 0, 0⟩, 2) := by simp [rejoin, hok, z]
    rw [hs] at hc
    rw [hf]
    exact rejoin30_late a1 a2 a3 a4 a5 a6 2 w (by decide) hc
end Go.Proofs.Ytagehcnbllkipaa
