/- The statements VarintReads and VarintBack: the walks through their own text. -/
import Derived.Test.YthihhmmpkbdmnaaLaw1
namespace Go.Proofs.Ythihhmmpkbdmnaa
open Go.RowKit Go.Lg

theorem refRead_at (A : Option Addr) (n c B : Nat) (l : List UInt8) (a b d : Nat) (w : World) (h : Rd w B 1 A n (bts l)) (hn : n ≤ 9223372036854775807) (hd : Vi.dec 0 0 l = (a, b, d)) :
    Calls Try.prog 26 #[.slice A n c] w fun e w' => e = .returned (.tuple #[.int .u64 a, .int .i64 b, .int .i64 d]) ∧ Below w.heap.size w w' :=
  (refRead_any A n c B l w h hn).mono fun e w' ⟨h1, h2⟩ => ⟨by rw [h1, hd]; rfl, h2⟩
theorem small_at (A : Option Addr) (n c B : Nat) (l : List UInt8) (most : Int) (a b d : Nat) (w : World) (h : Rd w B 1 A n (bts l)) (hn : n ≤ 9223372036854775807) (hm : most ≤ 9223372036854775807) (hd : Vi.small most l = (a, b, d)) :
    Calls Try.prog 25 #[.slice A n c, .int .i64 most] w fun e w' => e = .returned (.tuple #[.int .i64 a, .int .i64 b, .int .i64 d]) ∧ w = w' :=
  (small_any A n c B l most w h hn hm).mono fun e w' ⟨h1, h2⟩ => ⟨by rw [h1, hd]; rfl, h2⟩
theorem refSmall_at (A : Option Addr) (n c B : Nat) (l : List UInt8) (most : Int) (a b d : Nat) (w : World) (h : Rd w B 1 A n (bts l)) (hn : n ≤ 9223372036854775807) (hm : most ≤ 9223372036854775807) (hd : Vi.small most l = (a, b, d)) :
    Calls Try.prog 27 #[.slice A n c, .int .i64 most] w fun e w' => e = .returned (.tuple #[.int .i64 a, .int .i64 b, .int .i64 d]) ∧ Below w.heap.size w w' :=
  (refSmall_any A n c B l most w h hn hm).mono fun e w' ⟨h1, h2⟩ => ⟨by rw [h1, hd]; rfl, h2⟩

set_option maxHeartbeats 400000 in
set_option maxRecDepth 100000 in
theorem reads_walk (A : Option Addr) (n c : Nat) (l : List UInt8) (most : Int) (w : World) (h : Rd w w.heap.size 1 A n (bts l)) (hn : n ≤ 140737488353000) (hm : most ≤ 9223372036854775807) :
    Calls Try.prog 7 #[.slice A n c, .int .i64 most] w fun e w' => e = .returned (.bool true) ∧ Below w.heap.size w w' := by
  have hl := h.1
  rw [bts_length, Nat.mul_one] at hl
  have hll := lent_length l
  have HL := hid hl
  have hge : n ≤ (lent l).length := by omega
  have hle : (lent l).length ≤ 140737488354000 := by omega
  obtain ⟨a, b, d, hd⟩ : ∃ a b d, Vi.dec 0 0 l = (a, b, d) := ⟨_, _, _, rfl⟩
  obtain ⟨a', b', d', hd'⟩ : ∃ a b d, Vi.small most l = (a, b, d) := ⟨_, _, _, rfl⟩
  have HD := hid hd
  have HD' := hid hd'
  clear hl hll hd hd'
  go_enter Try.func7, Try.ntmps7
  go_wp2_with fail
  refine (lent_any A n c l w h (by omega)).mono ?_
  rintro e w1 ⟨f, rfl, hf, hb1⟩
  obtain ⟨A1, c1, rfl, h3, h4⟩ := owned_slice hf
  have hrf := Rd.of_own hf
  have hrt := hrf.take hge
  rw [lent_take l n HL.out] at hrt
  clear hf
  go_wp2_with fail
  refine (read_at A1 n c1 _ l a b d w1 hrt (by omega) HD.out).mono ?_
  rintro e w2 ⟨rfl, rfl⟩
  go_wp2_with fail
  refine (refRead_at A n c _ l a b d w1 (h.below hb1) (by omega) HD.out).mono ?_
  rintro e w2 ⟨rfl, hb2⟩
  go_wp2_with fail
  refine (small_at A1 n c1 _ l most a' b' d' w2 (hrt.below hb2) (by omega) hm HD'.out).mono ?_
  rintro e w3 ⟨rfl, rfl⟩
  have b12 := hb1.trans (hb2.mono hb1.size)
  go_wp2_with fail
  refine (refSmall_at A n c _ l most a' b' d' w2 (h.below b12) (by omega) hm HD'.out).mono ?_
  rintro e w3 ⟨rfl, hb3⟩
  have b13 := b12.trans (hb3.mono b12.size)
  go_wp2_with fail
  refine (lives_any w3).mono ?_
  rintro e w4 ⟨rfl, hb4⟩
  have b14 := b13.trans (hb4.mono b13.size)
  have b34 := hb3.trans (hb4.mono hb3.size)
  have b24 := hb2.trans (b34.mono hb2.size)
  go_wp2_with fail
  refine (kept_self _ _ _ _ _ _ l _ ((hrf.below b24).more b24.size) ((h.below b14).more b14.size) (by omega) (by omega)).mono ?_
  rintro e w5 ⟨rfl, hb5⟩
  go_wp2_with fail
  go_ret
  exact ⟨rfl, b14.trans (hb5.mono b14.size)⟩

theorem same_at (A A' : Option Addr) (n c n' c' B B' : Nat) (l l' : List UInt8) (r : Bool) (w : World) (hr : decide (l = l') = r) (h : Rd w B 1 A n (bts l)) (h' : Rd w B' 1 A' n' (bts l')) (hn : n ≤ 9223372036854775807) (hn' : n' ≤ 9223372036854775807) :
    Calls Try.prog 16 #[.slice A n c, .slice A' n' c'] w fun e w' => e = .returned (.bool r) ∧ ∃ d, w' = w.drewN d :=
  hr ▸ same_any A A' n c n' c' B B' l l' w h h' hn hn'
theorem size_as (x m : Nat) (w : World) (hx : x < 2 ^ 64) (hm : (Vi.enc x).length = m) :
    Calls Try.prog 18 #[.int .u64 x] w fun e w' => e = .returned (.int .i64 m) ∧ w = w' := hm ▸ size_any x w hx

set_option maxHeartbeats 400000 in
set_option maxRecDepth 100000 in
theorem back_walk (x y : Nat) (A : Option Addr) (n c : Nat) (l : List UInt8) (w : World) (hx : x < 2 ^ 64) (hy : y < 2 ^ 64) (h : Rd w w.heap.size 1 A n (bts l)) (hn : n ≤ 140737488353000) :
    Calls Try.prog 4 #[.int .u64 x, .int .u64 y, .slice A n c] w fun e w' => e = .returned (.bool true) ∧ Below w.heap.size w w' := by
  obtain ⟨ax, hax⟩ : ∃ ax, ax = Vi.enc x := ⟨_, rfl⟩
  obtain ⟨bx, hbx⟩ : ∃ bx, bx = Vi.enc y := ⟨_, rfl⟩
  have hl := h.1
  rw [bts_length, Nat.mul_one] at hl
  have ha1 : 1 ≤ ax.length := by rw [hax]; exact Vi.encF_pos 9 x
  have ha2 : ax.length ≤ 10 := by rw [hax]; exact Vi.encF_len_le 9 x
  have hb1 : 1 ≤ bx.length := by rw [hbx]; exact Vi.encF_pos 9 y
  have hb2 : bx.length ≤ 10 := by rw [hbx]; exact Vi.encF_len_le 9 y
  have hmono : x < y → ax.length ≤ bx.length := fun hlt => by rw [hax, hbx]; exact Vi.enc_len_mono 9 x y (by omega)
  have hdec := Vi.dec_enc x l hx
  rw [← hax] at hdec
  obtain ⟨all, hall⟩ : ∃ all, all = ax ++ l := ⟨_, rfl⟩
  rw [← hall] at hdec
  have halen : all.length = ax.length + n := by rw [hall, List.length_append, hl]
  have HX := hid hx
  have HY := hid hy
  have HAX := hid hax
  have HBX := hid hbx
  have HDEC := hid hdec
  have HALL := hid hall
  have HALEN := hid halen
  have HMONO := hid hmono
  clear hx hy hax hbx hdec hall halen hmono hl
  go_enter Try.func4, Try.ntmps4
  go_wp2_with fail
  refine (lives_any w).mono ?_
  rintro e w1 ⟨rfl, c1'⟩
  go_wp2_with fail
  refine (append_as none 0 0 [] ax x w1 (by rw [List.nil_append]; exact HAX.out) Rd.nil_ (by omega) HX.out).mono ?_
  rintro e w2 ⟨a, rfl, hoa, c2'⟩
  obtain ⟨A1, c1, rfl, h3, h4⟩ := owned_slice hoa
  have hra := Rd.of_own hoa
  clear hoa
  go_wp2_with fail
  refine (append_as none 0 0 [] bx y w2 (by rw [List.nil_append]; exact HBX.out) Rd.nil_ (by omega) HY.out).mono ?_
  rintro e w3 ⟨b, rfl, hob, c3'⟩
  obtain ⟨A2, c2, rfl, h5, h6⟩ := owned_slice hob
  have hrb := Rd.of_own hob
  have hra3 := (hra.below c3').more c3'.size
  clear hob hra
  go_wp2_with fail
  refine (copy_any A1 ax.length c1 ax w3 hra3 (by omega)).mono ?_
  rintro e w4 ⟨k, rfl, hok, c4'⟩
  have b14 := c1'.trans ((c2'.mono c1'.size).trans ((c3'.mono (Nat.le_trans c1'.size c2'.size)).trans (c4'.mono (Nat.le_trans (Nat.le_trans c1'.size c2'.size) c3'.size))))
  have hr4 := h.below b14
  have hra4 := hra3.below c4'
  have hrb4 := hrb.below c4'
  have hs4 := c4'.size
  have HOK := hid hok
  clear hok hra3 hrb h
  go_wp2_with (at_builtin; refine stop_ (fun Ps hPs => ?_))
  refine hPs ?_
  clear hPs Ps
  refine wpList_app T22 (.tmp 21) (.tmp 22) rfl rfl HOK.out rfl hr4 rfl (bts_one l) (by omega) hs4 fun v5 w5 hown hg hat => ?_
  have b5 : Below w3.heap.size w4 w5 := below_append (Below.refl _ _) HOK.out hg hs4
  rw [← bts_append, ← HALL.out, ← HALEN.out] at hown
  have b15 : Below w.heap.size w w5 := b14.trans (b5.mono (Nat.le_trans (Nat.le_trans c1'.size c2'.size) c3'.size))
  have hra5 := hra4.below b5
  have hrb5 := hrb4.below b5
  obtain ⟨A5, c5, rfl, h7, h8⟩ := owned_slice hown
  have hrall := Rd.of_own hown
  have hall : all.length ≤ 9223372036854775807 := by have := HALEN.out; omega
  clear hown hg hat hr4 hra4 hrb4 HOK b5 hs4
  go_wp2_with fail
  refine (read_at A5 _ _ _ all x ax.length 0 w5 hrall hall HDEC.out).mono ?_
  rintro e w6 ⟨rfl, rfl⟩
  have hx0 : ((x : Int) != (x : Int)) = false := by simp
  have ha0 : ((ax.length : Int) != (ax.length : Int)) = false := by simp
  have ra (k : Nat) (hk : k ≤ ax.length) := hra5.take hk
  have rb (k : Nat) (hk : k ≤ bx.length) := hrb5.take hk
  have HRA := hid ra
  have HRB := hid rb
  clear ra rb hra5 hrb5 hrall
  go_wp2_with fail
  refine (size_as x ax.length _ HX.out (by rw [← HAX.out])).mono ?_
  rintro e w6 ⟨rfl, rfl⟩
  have pre := Vi.enc_prefix x y HX.out HY.out
  rw [← HAX.out, ← HBX.out] at pre
  have HPRE := hid pre
  clear pre
  have fin : ∀ K, K ≤ ax.length → K ≤ bx.length → K = min ax.length bx.length → ∀ d : Nat,
      Calls Try.prog 16 #[.slice A1 K c1, .slice A2 K c2] (w5.drewN d) fun e w' => e = .returned (.bool (decide (x = y))) ∧ ∃ m, w' = w5.drewN m := by
    intro K h1 h2 h3 d
    have q1 := HRA.out K h1
    have q2 := HRB.out K h2
    rw [Nat.mul_one, bts_take] at q1 q2
    have hr : decide (ax.take K = bx.take K) = decide (x = y) := by
      rw [decide_eq_decide]
      constructor
      · intro hh; exact HPRE.out (h3 ▸ hh)
      · rintro rfl; rw [HAX.out, HBX.out]
    exact Calls.quiet_of (same_at A1 A2 K c1 K c2 _ _ _ _ _ _ hr (q1.drewN d) (q2.drewN d) (by omega) (by omega))
  have HFIN := hid fin
  clear fin
  by_cases hxy : x = y
  · subst hxy
    obtain rfl : ax = bx := by rw [HAX.out, HBX.out]
    have hxx : ((x : Int) == (x : Int)) = true := by simp
    have fin := HFIN.out ax.length (Nat.le_refl _) (Nat.le_refl _) (by omega)
    rw [decide_eq_true (rfl : x = x)] at fin
    have HFIN2 := hid fin
    clear fin
    go_wp2_with fail
    go_quiet ((go_at_call 16; exact HFIN2.out _))
    go_wp2_with fail
    go_ret
    exact ⟨rfl, below_drewN b15 _⟩
  · have hxx : ((x : Int) == (y : Int)) = false := by simp; omega
    by_cases hlt : x < y
    · have hle := HMONO.out hlt
      have fin := HFIN.out ax.length (Nat.le_refl _) hle (by omega)
      rw [decide_eq_false hxy] at fin
      have HFIN2 := hid fin
      clear fin
      go_wp2_with fail
      refine (size_as x ax.length _ HX.out (by rw [← HAX.out])).mono ?_
      rintro e w6 ⟨rfl, rfl⟩
      go_wp2_with fail
      refine (size_as y bx.length _ HY.out (by rw [← HBX.out])).mono ?_
      rintro e w6 ⟨rfl, rfl⟩
      go_wp2_with fail
      go_quiet ((go_at_call 16; exact HFIN2.out _))
      go_wp2_with fail
      go_ret
      exact ⟨rfl, below_drewN b15 _⟩
    · by_cases hle : ax.length ≤ bx.length
      · have fin := HFIN.out ax.length (Nat.le_refl _) hle (by omega)
        rw [decide_eq_false hxy] at fin
        have HFIN2 := hid fin
        clear fin
        go_wp2_with fail
        go_quiet ((go_at_call 16; exact HFIN2.out _))
        go_wp2_with fail
        go_ret
        exact ⟨rfl, below_drewN b15 _⟩
      · have fin := HFIN.out bx.length (by omega) (Nat.le_refl _) (by omega)
        rw [decide_eq_false hxy] at fin
        have HFIN2 := hid fin
        clear fin
        go_wp2_with fail
        go_quiet ((go_at_call 16; exact HFIN2.out _))
        go_wp2_with fail
        go_ret
        exact ⟨rfl, below_drewN b15 _⟩
end Go.Proofs.Ythihhmmpkbdmnaa
