/- One step of any kind. -/
import Derived.Test.YtagehcnbllkipaaRf
import Derived.Test.YtagehcnbllkipaaTl
namespace Go.Proofs.Ytagehcnbllkipaa
open Go.RowKit Go.Lg
set_option linter.unusedVariables false
set_option linter.unusedSimpArgs false

def nextp (p : Pg) (k n m : Int) : Pg × Int :=
  if k = 0 then promote p n else if k = 1 then ((hear p (wrap64 (p.ep + n.tmod 5))).1, (hear p (wrap64 (p.ep + n.tmod 5))).2.2) else if k = 2 then fork p n m else if k = 3 then step p 2 else if k = 4 then step p 3
  else if k = 5 then rejoin p else ((acked p n).1, (acked p n).2.2)
theorem three_blocks {w w1 : World} {A B C : Array Value} (hb : Below (((w.alloc (.cells A 25)).alloc (.cells B 43)).alloc (.cells C 25)).heap.size (((w.alloc (.cells A 25)).alloc (.cells B 43)).alloc (.cells C 25)) w1) :
    Below w.heap.size w w1 ∧ Blk w1 (w.heap.size + 1 + 1) 25 C := by
  refine ⟨bl_trans ((((Below.refl w.heap.size w).alloc (Nat.le_refl _) _).alloc (by simp) _).alloc (by simp; omega) _) hb (by simp; omega), ?_⟩
  have h := Blk.new2 (w.alloc (.cells A 25)) (.cells B 43) 25 C
  rw [World.size_alloc] at h
  exact h.below hb (by simp)
set_option maxHeartbeats 2000000 in
set_option maxRecDepth 100000 in
theorem next20_0 (a1 a2 a3 a4 a5 a6 kd n m : Int) (w : World) (hp : pick kd 7 = 0) (hkd : -9223372036854775808 ≤ kd ∧ kd ≤ 9223372036854775807) (q1 q2 q3 q4 q5 q6 k : Int)
    (hc : ∀ w, Calls Try.prog 7 #[(Pg.mk a1 a2 a3 a4 a5 a6).v, .int .i64 n] w (Gives (⟨q1, q2, q3, q4, q5, q6⟩, k) w)) :
    Calls Try.prog 20 #[(Pg.mk a1 a2 a3 a4 a5 a6).v, .agg #[.int .i64 kd, .int .i64 n, .int .i64 m]] w (Gives (⟨q1, q2, q3, q4, q5, q6⟩, k) w) := by
  have h17 := pick17 kd 7 (by decide) (by decide) hkd
  rw [hp] at h17
  have hp' := hid hp
  clear hp
  go_enter Try.func20, Try.ntmps20
  go_wp2_with (first
    | (go_at_call 17; refine (h17 _).mono ?_; clear h17; rintro e w1 ⟨rfl, _, _, rfl⟩)
    | (go_at_call 7; refine (hc _).mono ?_; clear hc; rintro e w1 ⟨rfl, hb⟩; obtain ⟨hb, hR⟩ := three_blocks hb; obtain ⟨⟨d0, d1, d2, d3, d4, d5⟩, g0, g1, g2, g3, g4, g5⟩ := page_cells hR))
  refine bodyPost_ret (by simp [results, Try.results20, go_sem, d0, d1, d2, d3, d4, d5]; try rfl) rfl ?_
  exact ⟨ret2 (q := ⟨_, _, _, _, _, _⟩) rfl, by repeat (first | (with_reducible exact hb) | (with_reducible refine Below.setCell ?_ (by simp; try omega) _))⟩
set_option maxHeartbeats 2000000 in
set_option maxRecDepth 100000 in
theorem next20_1 (a1 a2 a3 a4 a5 a6 kd n m : Int) (w : World) (hp : pick kd 7 = 1) (hkd : -9223372036854775808 ≤ kd ∧ kd ≤ 9223372036854775807) (x : Int) (hx : wrap64 (a1 + n.tmod 5) = x) (q1 q2 q3 q4 q5 q6 k : Int) (o : Bool)
    (hc : ∀ w, Calls Try.prog 13 #[(Pg.mk a1 a2 a3 a4 a5 a6).v, .int .i64 x] w (Gives3 (⟨q1, q2, q3, q4, q5, q6⟩, o, k) w)) :
    Calls Try.prog 20 #[(Pg.mk a1 a2 a3 a4 a5 a6).v, .agg #[.int .i64 kd, .int .i64 n, .int .i64 m]] w (Gives (⟨q1, q2, q3, q4, q5, q6⟩, k) w) := by
  have h17 := pick17 kd 7 (by decide) (by decide) hkd
  rw [hp] at h17
  have hp' := hid hp
  clear hp
  have hm5 : wrap64 (n.tmod 5) = n.tmod 5 := by
    have h1 := Int.tmod_lt_of_pos n (show (0 : Int) < 5 by decide)
    have h2 := Int.tmod_lt_of_pos (-n) (show (0 : Int) < 5 by decide)
    rw [Int.neg_tmod] at h2
    simp only [wrap64]; omega
  go_enter Try.func20, Try.ntmps20
  go_wp2_with (first
    | (go_at_call 17; refine (h17 _).mono ?_; clear h17; rintro e w1 ⟨rfl, _, _, rfl⟩)
    | (go_at_call 13; refine (hc _).mono ?_; clear hc; rintro e w1 ⟨rfl, hb⟩; obtain ⟨hb, hR⟩ := three_blocks hb; have hR := hR.alloc (.cells #[.int .i64 q1, .int .u8 q2, .int .i64 q3, .int .u8 q4, .int .i64 q5, .int .i64 q6] 25); have hb := hb.alloc hb.size (.cells #[.int .i64 q1, .int .u8 q2, .int .i64 q3, .int .u8 q4, .int .i64 q5, .int .i64 q6] 25); obtain ⟨⟨d0, d1, d2, d3, d4, d5⟩, g0, g1, g2, g3, g4, g5⟩ := page_cells hR))
  refine bodyPost_ret (by simp [results, Try.results20, go_sem, d0, d1, d2, d3, d4, d5]; try rfl) rfl ?_
  exact ⟨ret2 (q := ⟨_, _, _, _, _, _⟩) rfl, by repeat (first | (with_reducible exact hb) | (with_reducible refine Below.setCell ?_ (by simp; try omega) _))⟩
set_option maxHeartbeats 2000000 in
set_option maxRecDepth 100000 in
theorem next20_2 (a1 a2 a3 a4 a5 a6 kd n m : Int) (w : World) (hp : pick kd 7 = 2) (hkd : -9223372036854775808 ≤ kd ∧ kd ≤ 9223372036854775807) (q1 q2 q3 q4 q5 q6 k : Int)
    (hc : ∀ w, Calls Try.prog 9 #[(Pg.mk a1 a2 a3 a4 a5 a6).v, .int .i64 n, .int .i64 m] w (Gives (⟨q1, q2, q3, q4, q5, q6⟩, k) w)) :
    Calls Try.prog 20 #[(Pg.mk a1 a2 a3 a4 a5 a6).v, .agg #[.int .i64 kd, .int .i64 n, .int .i64 m]] w (Gives (⟨q1, q2, q3, q4, q5, q6⟩, k) w) := by
  have h17 := pick17 kd 7 (by decide) (by decide) hkd
  rw [hp] at h17
  have hp' := hid hp
  clear hp
  go_enter Try.func20, Try.ntmps20
  go_wp2_with (first
    | (go_at_call 17; refine (h17 _).mono ?_; clear h17; rintro e w1 ⟨rfl, _, _, rfl⟩)
    | (go_at_call 9; refine (hc _).mono ?_; clear hc; rintro e w1 ⟨rfl, hb⟩; obtain ⟨hb, hR⟩ := three_blocks hb; obtain ⟨⟨d0, d1, d2, d3, d4, d5⟩, g0, g1, g2, g3, g4, g5⟩ := page_cells hR))
  refine bodyPost_ret (by simp [results, Try.results20, go_sem, d0, d1, d2, d3, d4, d5]; try rfl) rfl ?_
  exact ⟨ret2 (q := ⟨_, _, _, _, _, _⟩) rfl, by repeat (first | (with_reducible exact hb) | (with_reducible refine Below.setCell ?_ (by simp; try omega) _))⟩
set_option maxHeartbeats 2000000 in
set_option maxRecDepth 100000 in
theorem next20_3 (a1 a2 a3 a4 a5 a6 kd n m : Int) (w : World) (hp : pick kd 7 = 3) (hkd : -9223372036854775808 ≤ kd ∧ kd ≤ 9223372036854775807) (q1 q2 q3 q4 q5 q6 k : Int)
    (hc : ∀ w, Calls Try.prog 8 #[(Pg.mk a1 a2 a3 a4 a5 a6).v] w (Gives (⟨q1, q2, q3, q4, q5, q6⟩, k) w)) :
    Calls Try.prog 20 #[(Pg.mk a1 a2 a3 a4 a5 a6).v, .agg #[.int .i64 kd, .int .i64 n, .int .i64 m]] w (Gives (⟨q1, q2, q3, q4, q5, q6⟩, k) w) := by
  have h17 := pick17 kd 7 (by decide) (by decide) hkd
  rw [hp] at h17
  have hp' := hid hp
  clear hp
  go_enter Try.func20, Try.ntmps20
  go_wp2_with (first
    | (go_at_call 17; refine (h17 _).mono ?_; clear h17; rintro e w1 ⟨rfl, _, _, rfl⟩)
    | (go_at_call 8; refine (hc _).mono ?_; clear hc; rintro e w1 ⟨rfl, hb⟩; obtain ⟨hb, hR⟩ := three_blocks hb; obtain ⟨⟨d0, d1, d2, d3, d4, d5⟩, g0, g1, g2, g3, g4, g5⟩ := page_cells hR))
  refine bodyPost_ret (by simp [results, Try.results20, go_sem, d0, d1, d2, d3, d4, d5]; try rfl) rfl ?_
  exact ⟨ret2 (q := ⟨_, _, _, _, _, _⟩) rfl, by repeat (first | (with_reducible exact hb) | (with_reducible refine Below.setCell ?_ (by simp; try omega) _))⟩
set_option maxHeartbeats 2000000 in
set_option maxRecDepth 100000 in
theorem next20_4 (a1 a2 a3 a4 a5 a6 kd n m : Int) (w : World) (hp : pick kd 7 = 4) (hkd : -9223372036854775808 ≤ kd ∧ kd ≤ 9223372036854775807) (q1 q2 q3 q4 q5 q6 k : Int)
    (hc : ∀ w, Calls Try.prog 10 #[(Pg.mk a1 a2 a3 a4 a5 a6).v] w (Gives (⟨q1, q2, q3, q4, q5, q6⟩, k) w)) :
    Calls Try.prog 20 #[(Pg.mk a1 a2 a3 a4 a5 a6).v, .agg #[.int .i64 kd, .int .i64 n, .int .i64 m]] w (Gives (⟨q1, q2, q3, q4, q5, q6⟩, k) w) := by
  have h17 := pick17 kd 7 (by decide) (by decide) hkd
  rw [hp] at h17
  have hp' := hid hp
  clear hp
  go_enter Try.func20, Try.ntmps20
  go_wp2_with (first
    | (go_at_call 17; refine (h17 _).mono ?_; clear h17; rintro e w1 ⟨rfl, _, _, rfl⟩)
    | (go_at_call 10; refine (hc _).mono ?_; clear hc; rintro e w1 ⟨rfl, hb⟩; obtain ⟨hb, hR⟩ := three_blocks hb; obtain ⟨⟨d0, d1, d2, d3, d4, d5⟩, g0, g1, g2, g3, g4, g5⟩ := page_cells hR))
  refine bodyPost_ret (by simp [results, Try.results20, go_sem, d0, d1, d2, d3, d4, d5]; try rfl) rfl ?_
  exact ⟨ret2 (q := ⟨_, _, _, _, _, _⟩) rfl, by repeat (first | (with_reducible exact hb) | (with_reducible refine Below.setCell ?_ (by simp; try omega) _))⟩
set_option maxHeartbeats 2000000 in
set_option maxRecDepth 100000 in
theorem next20_5 (a1 a2 a3 a4 a5 a6 kd n m : Int) (w : World) (hp : pick kd 7 = 5) (hkd : -9223372036854775808 ≤ kd ∧ kd ≤ 9223372036854775807) (q1 q2 q3 q4 q5 q6 k : Int)
    (hc : ∀ w, Calls Try.prog 11 #[(Pg.mk a1 a2 a3 a4 a5 a6).v] w (Gives (⟨q1, q2, q3, q4, q5, q6⟩, k) w)) :
    Calls Try.prog 20 #[(Pg.mk a1 a2 a3 a4 a5 a6).v, .agg #[.int .i64 kd, .int .i64 n, .int .i64 m]] w (Gives (⟨q1, q2, q3, q4, q5, q6⟩, k) w) := by
  have h17 := pick17 kd 7 (by decide) (by decide) hkd
  rw [hp] at h17
  have hp' := hid hp
  clear hp
  go_enter Try.func20, Try.ntmps20
  go_wp2_with (first
    | (go_at_call 17; refine (h17 _).mono ?_; clear h17; rintro e w1 ⟨rfl, _, _, rfl⟩)
    | (go_at_call 11; refine (hc _).mono ?_; clear hc; rintro e w1 ⟨rfl, hb⟩; obtain ⟨hb, hR⟩ := three_blocks hb; obtain ⟨⟨d0, d1, d2, d3, d4, d5⟩, g0, g1, g2, g3, g4, g5⟩ := page_cells hR))
  refine bodyPost_ret (by simp [results, Try.results20, go_sem, d0, d1, d2, d3, d4, d5]; try rfl) rfl ?_
  exact ⟨ret2 (q := ⟨_, _, _, _, _, _⟩) rfl, by repeat (first | (with_reducible exact hb) | (with_reducible refine Below.setCell ?_ (by simp; try omega) _))⟩
set_option maxHeartbeats 2000000 in
set_option maxRecDepth 100000 in
theorem next20_6 (a1 a2 a3 a4 a5 a6 kd n m : Int) (w : World) (hp : pick kd 7 = 6) (hkd : -9223372036854775808 ≤ kd ∧ kd ≤ 9223372036854775807) (q1 q2 q3 q4 q5 q6 k : Int) (o : Bool)
    (hc : ∀ w, Calls Try.prog 26 #[(Pg.mk a1 a2 a3 a4 a5 a6).v, .int .i64 n] w (Gives3 (⟨q1, q2, q3, q4, q5, q6⟩, o, k) w)) :
    Calls Try.prog 20 #[(Pg.mk a1 a2 a3 a4 a5 a6).v, .agg #[.int .i64 kd, .int .i64 n, .int .i64 m]] w (Gives (⟨q1, q2, q3, q4, q5, q6⟩, k) w) := by
  have h17 := pick17 kd 7 (by decide) (by decide) hkd
  rw [hp] at h17
  have hp' := hid hp
  clear hp
  go_enter Try.func20, Try.ntmps20
  go_wp2_with (first
    | (go_at_call 17; refine (h17 _).mono ?_; clear h17; rintro e w1 ⟨rfl, _, _, rfl⟩)
    | (go_at_call 26; refine (hc _).mono ?_; clear hc; rintro e w1 ⟨rfl, hb⟩; obtain ⟨hb, hR⟩ := three_blocks hb; have hR := hR.alloc (.cells #[.int .i64 q1, .int .u8 q2, .int .i64 q3, .int .u8 q4, .int .i64 q5, .int .i64 q6] 25); have hb := hb.alloc hb.size (.cells #[.int .i64 q1, .int .u8 q2, .int .i64 q3, .int .u8 q4, .int .i64 q5, .int .i64 q6] 25); obtain ⟨⟨d0, d1, d2, d3, d4, d5⟩, g0, g1, g2, g3, g4, g5⟩ := page_cells hR))
  refine bodyPost_ret (by simp [results, Try.results20, go_sem, d0, d1, d2, d3, d4, d5]; try rfl) rfl ?_
  exact ⟨ret2 (q := ⟨_, _, _, _, _, _⟩) rfl, by repeat (first | (with_reducible exact hb) | (with_reducible refine Below.setCell ?_ (by simp; try omega) _))⟩
theorem next20 (p : Pg) (kd n m : Int) (hkd : -9223372036854775808 ≤ kd ∧ kd ≤ 9223372036854775807) (w : World) :
    Calls Try.prog 20 #[p.v, .agg #[.int .i64 kd, .int .i64 n, .int .i64 m]] w (Gives (nextp p (pick kd 7) n m) w) := by
  have h1 : 0 ≤ pick kd 7 ∧ pick kd 7 < 7 := by
    have ha := Int.tmod_lt_of_pos kd (show (0 : Int) < 7 by decide)
    have hb := Int.tmod_lt_of_pos (-kd) (show (0 : Int) < 7 by decide)
    rw [Int.neg_tmod] at hb
    unfold pick
    split <;> omega
  obtain ⟨a1, a2, a3, a4, a5, a6⟩ := p
  rcases (by omega : pick kd 7 = 0 ∨ pick kd 7 = 1 ∨ pick kd 7 = 2 ∨ pick kd 7 = 3 ∨ pick kd 7 = 4 ∨ pick kd 7 = 5 ∨ pick kd 7 = 6) with h | h | h | h | h | h | h
  · have hn : nextp ⟨a1, a2, a3, a4, a5, a6⟩ (pick kd 7) n m = promote ⟨a1, a2, a3, a4, a5, a6⟩ n := by rw [h]; rfl
    rw [hn]
    have hc := promote7 ⟨a1, a2, a3, a4, a5, a6⟩ n
    obtain ⟨r, hr⟩ : ∃ r, promote ⟨a1, a2, a3, a4, a5, a6⟩ n = r := ⟨_, rfl⟩
    rw [hr] at hc ⊢
    obtain ⟨⟨q1, q2, q3, q4, q5, q6⟩, k⟩ := r
    exact next20_0 a1 a2 a3 a4 a5 a6 kd n m w h hkd q1 q2 q3 q4 q5 q6 k hc
  · have hn : nextp ⟨a1, a2, a3, a4, a5, a6⟩ (pick kd 7) n m = ((hear ⟨a1, a2, a3, a4, a5, a6⟩ (wrap64 (a1 + n.tmod 5))).1, (hear ⟨a1, a2, a3, a4, a5, a6⟩ (wrap64 (a1 + n.tmod 5))).2.2) := by rw [h]; rfl
    rw [hn]
    have hc := hear13 ⟨a1, a2, a3, a4, a5, a6⟩ (wrap64 (a1 + n.tmod 5))
    obtain ⟨r, hr⟩ : ∃ r, hear ⟨a1, a2, a3, a4, a5, a6⟩ (wrap64 (a1 + n.tmod 5)) = r := ⟨_, rfl⟩
    rw [hr] at hc ⊢
    obtain ⟨⟨q1, q2, q3, q4, q5, q6⟩, o, k⟩ := r
    exact next20_1 a1 a2 a3 a4 a5 a6 kd n m w h hkd _ rfl q1 q2 q3 q4 q5 q6 k o hc
  · have hn : nextp ⟨a1, a2, a3, a4, a5, a6⟩ (pick kd 7) n m = fork ⟨a1, a2, a3, a4, a5, a6⟩ n m := by rw [h]; rfl
    rw [hn]
    have hc := fork9 ⟨a1, a2, a3, a4, a5, a6⟩ n m
    obtain ⟨r, hr⟩ : ∃ r, fork ⟨a1, a2, a3, a4, a5, a6⟩ n m = r := ⟨_, rfl⟩
    rw [hr] at hc ⊢
    obtain ⟨⟨q1, q2, q3, q4, q5, q6⟩, k⟩ := r
    exact next20_2 a1 a2 a3 a4 a5 a6 kd n m w h hkd q1 q2 q3 q4 q5 q6 k hc
  · have hn : nextp ⟨a1, a2, a3, a4, a5, a6⟩ (pick kd 7) n m = step ⟨a1, a2, a3, a4, a5, a6⟩ 2 := by rw [h]; rfl
    rw [hn]
    have hc := file8 ⟨a1, a2, a3, a4, a5, a6⟩ 
    obtain ⟨r, hr⟩ : ∃ r, step ⟨a1, a2, a3, a4, a5, a6⟩ 2 = r := ⟨_, rfl⟩
    rw [hr] at hc ⊢
    obtain ⟨⟨q1, q2, q3, q4, q5, q6⟩, k⟩ := r
    exact next20_3 a1 a2 a3 a4 a5 a6 kd n m w h hkd q1 q2 q3 q4 q5 q6 k hc
  · have hn : nextp ⟨a1, a2, a3, a4, a5, a6⟩ (pick kd 7) n m = step ⟨a1, a2, a3, a4, a5, a6⟩ 3 := by rw [h]; rfl
    rw [hn]
    have hc := cut10 ⟨a1, a2, a3, a4, a5, a6⟩ 
    obtain ⟨r, hr⟩ : ∃ r, step ⟨a1, a2, a3, a4, a5, a6⟩ 3 = r := ⟨_, rfl⟩
    rw [hr] at hc ⊢
    obtain ⟨⟨q1, q2, q3, q4, q5, q6⟩, k⟩ := r
    exact next20_4 a1 a2 a3 a4 a5 a6 kd n m w h hkd q1 q2 q3 q4 q5 q6 k hc
  · have hn : nextp ⟨a1, a2, a3, a4, a5, a6⟩ (pick kd 7) n m = rejoin ⟨a1, a2, a3, a4, a5, a6⟩  := by rw [h]; rfl
    rw [hn]
    have hc := rejoin11 ⟨a1, a2, a3, a4, a5, a6⟩ 
    obtain ⟨r, hr⟩ : ∃ r, rejoin ⟨a1, a2, a3, a4, a5, a6⟩  = r := ⟨_, rfl⟩
    rw [hr] at hc ⊢
    obtain ⟨⟨q1, q2, q3, q4, q5, q6⟩, k⟩ := r
    exact next20_5 a1 a2 a3 a4 a5 a6 kd n m w h hkd q1 q2 q3 q4 q5 q6 k hc
  · have hn : nextp ⟨a1, a2, a3, a4, a5, a6⟩ (pick kd 7) n m = ((acked ⟨a1, a2, a3, a4, a5, a6⟩ n).1, (acked ⟨a1, a2, a3, a4, a5, a6⟩ n).2.2) := by rw [h]; rfl
    rw [hn]
    have hc := acked26 ⟨a1, a2, a3, a4, a5, a6⟩ n
    obtain ⟨r, hr⟩ : ∃ r, acked ⟨a1, a2, a3, a4, a5, a6⟩ n = r := ⟨_, rfl⟩
    rw [hr] at hc ⊢
    obtain ⟨⟨q1, q2, q3, q4, q5, q6⟩, o, k⟩ := r
    exact next20_6 a1 a2 a3 a4 a5 a6 kd n m w h hkd q1 q2 q3 q4 q5 q6 k o hc
end Go.Proofs.Ytagehcnbllkipaa
