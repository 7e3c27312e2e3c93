/- May a page follow another one? -/
import Derived.Test.YtagehcnbllkipaaNx
namespace Go.Proofs.Ytagehcnbllkipaa
open Go.RowKit Go.Lg
set_option linter.unusedVariables false
set_option linter.unusedSimpArgs false

theorem first_ne (q : Pg) (p : Pg) (h : ¬p = q) (w : World) : Calls Try.prog 12 #[p.v, q.v] w fun e w' => e = .returned (.bool false) ∧ Below w.heap.size w w' := by
  refine (same12 p q w).mono ?_
  intro e w' hh
  have := hh.get
  simpa [h] using this

/-- How a page may follow another, unlike one. -/
inductive Way : Pg → Pg → Prop
  | raised (e ac b3 ph fo ba b4 b5 b6 : Int) : Way ⟨e, 2, ac, ph, fo, ba⟩ ⟨e + 1, 1, b3, b4, b5, b6⟩
  | acked (e a3 b3 ph fo ba b4 b5 b6 : Int) : a3 < b3 → Way ⟨e, 1, a3, ph, fo, ba⟩ ⟨e, 1, b3, b4, b5, b6⟩
  | joined (e a3 a5 a6 b3 b4 b5 b6 : Int) : Way ⟨e, 3, a3, 4, a5, a6⟩ ⟨e, 2, b3, b4, b5, b6⟩
  | heard (a1 a2 a3 a4 a5 a6 b1 b3 b5 b6 : Int) : a1 < b1 → Way ⟨a1, a2, a3, a4, a5, a6⟩ ⟨b1, 3, b3, 1, b5, b6⟩
  | forked (e a3 a5 a6 b3 b5 b6 : Int) : Way ⟨e, 3, a3, 1, a5, a6⟩ ⟨e, 3, b3, 2, b5, b6⟩
  | later (e a3 a4 a5 a6 b3 : Int) : a4 = 2 ∨ a4 = 3 → Way ⟨e, 3, a3, a4, a5, a6⟩ ⟨e, 3, b3, a4 + 1, a5, a6⟩

theorem entry2_way {w w1 : World} {A B : Array Value} (hb : Below ((w.alloc (.cells A 25)).alloc (.cells B 25)).heap.size ((w.alloc (.cells A 25)).alloc (.cells B 25)) w1) :
    Below w.heap.size w w1 ∧ Blk w1 w.heap.size 25 A ∧ Blk w1 (w.heap.size + 1) 25 B := two_blocks hb

set_option maxHeartbeats 4000000 in
set_option maxRecDepth 100000 in
theorem way21_ne {p q : Pg} (h : Way p q) (hne : ¬p = q) (hw : wrap64 (p.ep + 1) = p.ep + 1) (w : World) : Calls Try.prog 21 #[p.v, q.v] w (Yes w) := by
  have hs := first_ne q p hne
  clear hne
  cases h
  case raised e ac b3 ph fo ba b4 b5 b6 =>
    simp only at hw
    go_enter Try.func21, Try.ntmps21
    go_wp2_with (go_at_call 12; refine (hs _).mono ?_; clear hs; rintro e' w1 ⟨rfl, hb⟩; obtain ⟨hb, hA, hB⟩ := two_blocks hb; obtain ⟨⟨c0, c1, c2, c3, c4, c5⟩, _⟩ := page_cells hA; obtain ⟨⟨d0, d1, d2, d3, d4, d5⟩, _⟩ := page_cells hB)
    go_ret
    exact ⟨rfl, hb⟩
  case acked e a3 b3 ph fo ba b4 b5 b6 hlt =>
    go_enter Try.func21, Try.ntmps21
    go_wp2_with (go_at_call 12; refine (hs _).mono ?_; clear hs; rintro e' w1 ⟨rfl, hb⟩; obtain ⟨hb, hA, hB⟩ := two_blocks hb; obtain ⟨⟨c0, c1, c2, c3, c4, c5⟩, _⟩ := page_cells hA; obtain ⟨⟨d0, d1, d2, d3, d4, d5⟩, _⟩ := page_cells hB)
    go_ret
    exact ⟨rfl, hb⟩
  case joined e a3 a5 a6 b3 b4 b5 b6 =>
    go_enter Try.func21, Try.ntmps21
    go_wp2_with (go_at_call 12; refine (hs _).mono ?_; clear hs; rintro e' w1 ⟨rfl, hb⟩; obtain ⟨hb, hA, hB⟩ := two_blocks hb; obtain ⟨⟨c0, c1, c2, c3, c4, c5⟩, _⟩ := page_cells hA; obtain ⟨⟨d0, d1, d2, d3, d4, d5⟩, _⟩ := page_cells hB)
    go_ret
    exact ⟨rfl, hb⟩
  case heard a1 a2 a3 a4 a5 a6 b1 b3 b5 b6 hlt =>
    go_enter Try.func21, Try.ntmps21
    go_wp2_with (go_at_call 12; refine (hs _).mono ?_; clear hs; rintro e' w1 ⟨rfl, hb⟩; obtain ⟨hb, hA, hB⟩ := two_blocks hb; obtain ⟨⟨c0, c1, c2, c3, c4, c5⟩, _⟩ := page_cells hA; obtain ⟨⟨d0, d1, d2, d3, d4, d5⟩, _⟩ := page_cells hB)
    go_ret
    exact ⟨rfl, hb⟩
  case forked e a3 a5 a6 b3 b5 b6 =>
    go_enter Try.func21, Try.ntmps21
    go_wp2_with (go_at_call 12; refine (hs _).mono ?_; clear hs; rintro e' w1 ⟨rfl, hb⟩; obtain ⟨hb, hA, hB⟩ := two_blocks hb; obtain ⟨⟨c0, c1, c2, c3, c4, c5⟩, _⟩ := page_cells hA; obtain ⟨⟨d0, d1, d2, d3, d4, d5⟩, _⟩ := page_cells hB)
    go_ret
    exact ⟨rfl, hb⟩
  case later e a3 a4 a5 a6 b3 h4 =>
    rcases h4 with rfl | rfl
    all_goals
      go_enter Try.func21, Try.ntmps21
      go_wp2_with (go_at_call 12; refine (hs _).mono ?_; clear hs; rintro e' w1 ⟨rfl, hb⟩; obtain ⟨hb, hA, hB⟩ := two_blocks hb; obtain ⟨⟨c0, c1, c2, c3, c4, c5⟩, _⟩ := page_cells hA; obtain ⟨⟨d0, d1, d2, d3, d4, d5⟩, _⟩ := page_cells hB)
      go_ret
      exact ⟨rfl, hb⟩
set_option maxHeartbeats 4000000 in
set_option maxRecDepth 100000 in
theorem way21_eq (p : Pg) (w : World) : Calls Try.prog 21 #[p.v, p.v] w (Yes w) := by
  have hs := same12_yes p
  obtain ⟨a1, a2, a3, a4, a5, a6⟩ := p
  go_enter Try.func21, Try.ntmps21
  go_wp2_with (go_at_call 12; refine (hs _).mono ?_; clear hs; rintro e' w1 ⟨rfl, hb⟩; obtain ⟨hb, hA, hB⟩ := two_blocks hb)
  go_ret
  exact ⟨rfl, hb⟩
theorem way21 {p q : Pg} (hok : Ok p) (h : p = q ∨ Way p q) (w : World) : Calls Try.prog 21 #[p.v, q.v] w (Yes w) := by
  by_cases hne : p = q
  · subst hne
    exact way21_eq p w
  · refine way21_ne (h.resolve_left hne) hne ?_ w
    have h1 := hok.1
    have h2 := hok.2.1
    simp only [wrap64]
    omega

/-! ### The law: what a step gives -/
theorem ok_parts {a1 a2 a3 a4 a5 a6 : Int} (h : Ok ⟨a1, a2, a3, a4, a5, a6⟩) : 1 ≤ a1 ∧ a1 ≤ 1048576 ∧
    ((a2 = 1 ∧ 0 ≤ a3 ∧ a3 ≤ 1048576 ∧ a4 = 0 ∧ a5 = 0 ∧ a6 = 0) ∨ (a2 = 2 ∧ a3 = 0 ∧ a4 = 0 ∧ a5 = 0 ∧ a6 = 0) ∨ (a2 = 3 ∧ a3 = 0 ∧ ((a4 = 1 ∧ a5 = 0 ∧ a6 = 0) ∨ (2 ≤ a4 ∧ a4 ≤ 4 ∧ 0 ≤ a5 ∧ a5 ≤ 1048576 ∧ 0 ≤ a6 ∧ a6 ≤ 1073741824)))) := h
theorem ok_of {a1 a2 a3 a4 a5 a6 : Int} (h : 1 ≤ a1 ∧ a1 ≤ 1048576 ∧
    ((a2 = 1 ∧ 0 ≤ a3 ∧ a3 ≤ 1048576 ∧ a4 = 0 ∧ a5 = 0 ∧ a6 = 0) ∨ (a2 = 2 ∧ a3 = 0 ∧ a4 = 0 ∧ a5 = 0 ∧ a6 = 0) ∨ (a2 = 3 ∧ a3 = 0 ∧ ((a4 = 1 ∧ a5 = 0 ∧ a6 = 0) ∨ (2 ≤ a4 ∧ a4 ≤ 4 ∧ 0 ≤ a5 ∧ a5 ≤ 1048576 ∧ 0 ≤ a6 ∧ a6 ≤ 1073741824))))) : Ok ⟨a1, a2, a3, a4, a5, a6⟩ := h
theorem pair_eq {a1 a2 a3 a4 a5 a6 b1 b2 b3 b4 b5 b6 e : Int} (h : ((⟨a1, a2, a3, a4, a5, a6⟩, e) : Pg × Int) = (⟨b1, b2, b3, b4, b5, b6⟩, 0)) : b1 = a1 ∧ b2 = a2 ∧ b3 = a3 ∧ b4 = a4 ∧ b5 = a5 ∧ b6 = a6 ∧ e = 0 := by
  simp only [Prod.mk.injEq, Pg.mk.injEq] at h
  omega
theorem step_fine {p q : Pg} {k n m : Int} (hk : 0 ≤ k ∧ k < 7) (h : nextp p k n m = (q, 0)) : Ok p ∧ Ok q ∧ p.ep ≤ q.ep ∧ (p = q ∨ Way p q) := by
  by_cases hok : Ok p
  case neg =>
    rcases (by omega : k = 0 ∨ k = 1 ∨ k = 2 ∨ k = 3 ∨ k = 4 ∨ k = 5 ∨ k = 6) with rfl | rfl | rfl | rfl | rfl | rfl | rfl
    all_goals
      simp [nextp, promote, hear, fork, step, rejoin, acked, hok] at h
  refine ⟨hok, ?_⟩
  obtain ⟨a1, a2, a3, a4, a5, a6⟩ := p
  obtain ⟨b1, b2, b3, b4, b5, b6⟩ := q
  have hp := ok_parts hok
  rcases (by omega : k = 0 ∨ k = 1 ∨ k = 2 ∨ k = 3 ∨ k = 4 ∨ k = 5 ∨ k = 6) with rfl | rfl | rfl | rfl | rfl | rfl | rfl
  · have e : nextp ⟨a1, a2, a3, a4, a5, a6⟩ 0 n m = promote ⟨a1, a2, a3, a4, a5, a6⟩ n := rfl
    rw [e] at h
    simp only [promote, if_pos hok, z] at h
    split at h
    · split at h
      · have := pair_eq h; omega
      · split at h
        · have := pair_eq h; omega
        · split at h
          · have := pair_eq h; omega
          · obtain ⟨rfl, rfl, rfl, rfl, rfl, rfl, _⟩ := pair_eq h
            obtain rfl : a2 = 2 := by omega
            exact ⟨ok_of (by omega), by simp only; omega, .inr (Way.raised _ _ _ _ _ _ _ _ _)⟩
    · have := pair_eq h; omega
  · have e : nextp ⟨a1, a2, a3, a4, a5, a6⟩ 1 n m = ((hear ⟨a1, a2, a3, a4, a5, a6⟩ (wrap64 (a1 + n.tmod 5))).1, (hear ⟨a1, a2, a3, a4, a5, a6⟩ (wrap64 (a1 + n.tmod 5))).2.2) := rfl
    rw [e] at h
    generalize wrap64 (a1 + n.tmod 5) = x at h
    by_cases hx : 1 ≤ x ∧ x ≤ 1048576
    · by_cases hl : a1 < x
      · simp only [hear, if_pos hok, if_pos hx, if_pos hl] at h
        obtain ⟨rfl, rfl, rfl, rfl, rfl, rfl, _⟩ := pair_eq h
        exact ⟨ok_of (by omega), by simp only; omega, .inr (Way.heard _ _ _ _ _ _ _ _ _ _ hl)⟩
      · simp only [hear, if_pos hok, if_pos hx, if_neg hl] at h
        obtain ⟨rfl, rfl, rfl, rfl, rfl, rfl, _⟩ := pair_eq h
        exact ⟨hok, Int.le_refl _, .inl rfl⟩
    · simp only [hear, if_pos hok, if_neg hx, z] at h
      have := pair_eq h; omega
  · have e : nextp ⟨a1, a2, a3, a4, a5, a6⟩ 2 n m = fork ⟨a1, a2, a3, a4, a5, a6⟩ n m := rfl
    rw [e] at h
    simp only [fork, if_pos hok, z] at h
    split at h
    · split at h
      · obtain rfl : a2 = 3 := by omega
        obtain rfl : a4 = 1 := by omega
        obtain ⟨rfl, rfl, rfl, rfl, rfl, rfl, _⟩ := pair_eq h
        exact ⟨ok_of (by omega), Int.le_refl _, .inr (Way.forked _ _ _ _ _ _ _)⟩
      · have := pair_eq h; omega
    · have := pair_eq h; omega
  · have e : nextp ⟨a1, a2, a3, a4, a5, a6⟩ 3 n m = step ⟨a1, a2, a3, a4, a5, a6⟩ 2 := rfl
    rw [e] at h
    simp only [step, if_pos hok, z] at h
    split at h
    · obtain rfl : a2 = 3 := by omega
      obtain rfl : a4 = 2 := by omega
      obtain ⟨rfl, rfl, rfl, rfl, rfl, rfl, _⟩ := pair_eq h
      exact ⟨ok_of (by omega), Int.le_refl _, .inr (Way.later _ _ 2 _ _ _ (.inl rfl))⟩
    · have := pair_eq h; omega
  · have e : nextp ⟨a1, a2, a3, a4, a5, a6⟩ 4 n m = step ⟨a1, a2, a3, a4, a5, a6⟩ 3 := rfl
    rw [e] at h
    simp only [step, if_pos hok, z] at h
    split at h
    · obtain rfl : a2 = 3 := by omega
      obtain rfl : a4 = 3 := by omega
      obtain ⟨rfl, rfl, rfl, rfl, rfl, rfl, _⟩ := pair_eq h
      exact ⟨ok_of (by omega), Int.le_refl _, .inr (Way.later _ _ 3 _ _ _ (.inr rfl))⟩
    · have := pair_eq h; omega
  · have e : nextp ⟨a1, a2, a3, a4, a5, a6⟩ 5 n m = rejoin ⟨a1, a2, a3, a4, a5, a6⟩ := rfl
    rw [e] at h
    simp only [rejoin, if_pos hok, z] at h
    split at h
    · obtain ⟨rfl, rfl, rfl, rfl, rfl, rfl, _⟩ := pair_eq h
      obtain rfl : a2 = 3 := by omega
      obtain rfl : a4 = 4 := by omega
      exact ⟨ok_of (by omega), Int.le_refl _, .inr (Way.joined _ _ _ _ _ _ _ _)⟩
    · have := pair_eq h; omega
  · have e : nextp ⟨a1, a2, a3, a4, a5, a6⟩ 6 n m = ((Go.Proofs.Ytagehcnbllkipaa.acked ⟨a1, a2, a3, a4, a5, a6⟩ n).1, (Go.Proofs.Ytagehcnbllkipaa.acked ⟨a1, a2, a3, a4, a5, a6⟩ n).2.2) := rfl
    rw [e] at h
    by_cases hx : 0 ≤ n ∧ n ≤ 1048576
    · by_cases hr : a2 = 1
      · subst hr
        by_cases hl : a3 < n
        · simp only [Go.Proofs.Ytagehcnbllkipaa.acked, if_pos hok, if_pos hx, if_pos hl, if_true] at h
          obtain ⟨rfl, rfl, rfl, rfl, rfl, rfl, _⟩ := pair_eq h
          exact ⟨ok_of (by omega), Int.le_refl _, .inr (Way.acked _ _ _ _ _ _ _ _ _ hl)⟩
        · simp only [Go.Proofs.Ytagehcnbllkipaa.acked, if_pos hok, if_pos hx, if_neg hl, if_true] at h
          obtain ⟨rfl, rfl, rfl, rfl, rfl, rfl, _⟩ := pair_eq h
          exact ⟨hok, Int.le_refl _, .inl rfl⟩
      · simp only [Go.Proofs.Ytagehcnbllkipaa.acked, if_pos hok, if_pos hx, if_neg hr, z] at h
        have := pair_eq h; omega
    · simp only [Go.Proofs.Ytagehcnbllkipaa.acked, if_pos hok, if_neg hx, z] at h
      have := pair_eq h; omega
theorem step_not {p q : Pg} {k n m e : Int} (hk : 0 ≤ k ∧ k < 7) (h : nextp p k n m = (q, e)) (he : ¬e = 0) : q = z := by
  rcases (by omega : k = 0 ∨ k = 1 ∨ k = 2 ∨ k = 3 ∨ k = 4 ∨ k = 5 ∨ k = 6) with rfl | rfl | rfl | rfl | rfl | rfl | rfl
  all_goals
    simp only [nextp, promote, hear, fork, step, rejoin, acked] at h
    simp at h
    repeat' split at h
    all_goals first | (simp only [Prod.mk.injEq] at h; exact h.1.symm) | (simp only [Prod.mk.injEq] at h; exact absurd h.2.symm he)
set_option maxHeartbeats 4000000 in
set_option maxRecDepth 100000 in
theorem first19 (r : Int) (h : r = 0 ∨ r = 1) (w : World) : Calls Try.prog 19 #[.int .i64 r] w (Gives (⟨1, 1 + r, 0, 0, 0, 0⟩, 0) w) := by
  rcases h with rfl | rfl
  all_goals
    go_enter Try.func19, Try.ntmps19
    go_wp2_with fail
    refine bodyPost_ret (by simp [results, Try.results19, go_sem]; try rfl) rfl ?_
    exact ⟨ret2 (q := ⟨_, _, _, _, _, _⟩) rfl, by repeat (first | (with_reducible exact Below.refl _ _) | (with_reducible refine Below.alloc ?_ (Nat.le_refl _) _) | (with_reducible refine Below.setCell ?_ (by simp) _))⟩
end Go.Proofs.Ytagehcnbllkipaa
