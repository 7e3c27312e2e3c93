/- The walks through the readings of numbers. -/
import Derived.Test.YthihhmmpkbdmnaaVar
namespace Go.Proofs.Ythihhmmpkbdmnaa
open Go.RowKit Go.Lg

def rd3 (k : IntKind) (r : Nat × Nat × Nat) : Value := .tuple #[.int k r.1, .int .i64 r.2.1, .int .i64 r.2.2]

theorem and127 (y : Nat) (hy : y < 256) : bits .and .u8 (y : Int) 127 = ((y % 128 : Nat) : Int) := by
  have h1 : ∀ a : Fin 256, bits .and .u8 ((a.val : Nat) : Int) 127 = ((a.val % 128 : Nat) : Int) := by decide +kernel
  exact h1 ⟨y, hy⟩

theorem wrapDigit (d j : Nat) (hd : d < 128) (hj : j ≤ 9) (h9 : j = 9 → d ≤ 1) : IntKind.u64.wrap (IntKind.u64.wrap (d : Int) * 2 ^ (7 * j)) = ((d * 128 ^ j : Nat) : Int) := by
  have hf := Vi.digit_fits d j hj hd h9
  have e : (2 : Int) ^ (7 * j) = ((128 ^ j : Nat) : Int) := by rw [Int.pow_mul]; simp
  rw [IntWalk.u64_in (d : Int) (by omega), e, ← Int.natCast_mul, IntWalk.u64_in _ (by omega)]

theorem orDigit (x y j : Nat) (hx : x < 128 ^ j) (hj : j ≤ 9) (hy : y < 256) (h9 : j = 9 → y ≤ 1) :
    bits .or .u64 (x : Int) (IntKind.u64.wrap (IntKind.u64.wrap (bits .and .u8 (y : Int) 127) * 2 ^ (7 * j))) = ((x + y % 128 * 128 ^ j : Nat) : Int) := by
  rw [and127 y hy, wrapDigit _ _ (by omega) hj (by omega), u64_or_nat _ _ (by have := Vi.pow_fits j hj; omega) (Vi.digit_fits _ _ hj (by omega) (by omega)), Vi.or_digit _ _ _ hx]

theorem dec_cons (j x : Nat) (l : List UInt8) (y : UInt8) (h : l[j]? = some y) : Vi.dec j x (l.drop j) =
    if j = 9 ∧ 1 < y.toNat then (0, 0, 5) else if 128 ≤ y.toNat then Vi.dec (j + 1) (x + y.toNat % 128 * 128 ^ j) (l.drop (j + 1))
    else if y.toNat = 0 ∧ 0 < j then (0, 0, 5) else (x + y.toNat % 128 * 128 ^ j, j + 1, 0) := by
  obtain ⟨hj, rfl⟩ := List.getElem?_eq_some_iff.1 h
  rw [List.drop_eq_getElem_cons hj]
  rfl

set_option maxHeartbeats 400000 in
set_option maxRecDepth 100000 in
theorem read_any (A : Option Addr) (n c B : Nat) (l : List UInt8) (w : World) (h : Rd w B 1 A n (bts l)) (hn : n ≤ 9223372036854775807) :
    Calls Try.prog 22 #[.slice A n c] w fun e w' => e = .returned (rd3 .u64 (Vi.dec 0 0 l)) ∧ w = w' := by
  have hl := h.1
  rw [bts_length, Nat.mul_one] at hl
  have HL := hid hl
  clear hl
  go_enter Try.func22, Try.ntmps22
  go_wp2_with fail
  go_loopg [2, 9] n (fun k xv i wr => ∃ (j x : Nat), j ≤ n ∧ j ≤ 9 ∧ k = n - j ∧ xv = .int .u64 x ∧ i = .int .i64 j ∧ x < 128 ^ j ∧ Vi.dec 0 0 l = Vi.dec j x (l.drop j) ∧ wr = w)
  case atStart => exact ⟨0, 0, by omega, by omega, rfl, rfl, rfl, by decide, rfl, rfl⟩
  case round =>
    obtain ⟨j, x, hj, hj9, rfl, rfl, rfl, hx, hd, rfl⟩ := hrel
    have HX := hid hx
    by_cases hlt : j < n
    · obtain ⟨b, off, y, rfl, hb, hy, hc⟩ := h.byte hlt
      rw [dec_cons j x l y hy] at hd
      have hy2 : y.toNat < 256 := y.toNat_lt
      clear hx hy h
      by_cases h1 : j = 9 ∧ 1 < y.toNat
      · obtain ⟨rfl, h1'⟩ := h1
        rw [if_pos ⟨rfl, h1'⟩] at hd
        have HD := hid hd
        clear hd
        go_wp2_with fail
        go_ret3
        exact ⟨by rw [HD.out]; rfl, rfl⟩
      · rw [if_neg h1] at hd
        have hor := hid (orDigit x y.toNat j HX.out hj9 hy2 (by omega))
        by_cases h2 : 128 ≤ y.toNat
        · rw [if_pos h2] at hd
          have HD := hid hd
          clear hd
          have h9 : ((j : Int) == 9) = false := by simp; omega
          go_wp2_with fail
          go_roundg (n - (j + 1))
          case measure => omega
          case rel => exact ⟨j + 1, x + y.toNat % 128 * 128 ^ j, by omega, by omega, rfl, by rw [hor.out], by go_num, Vi.digits_more _ _ _ HX.out (by omega), HD.out, rfl⟩
        · rw [if_neg h2] at hd
          have h9 : ((j : Int) == 9) = true ∧ ¬ 1 < y.toNat ∨ ((j : Int) == 9) = false := by
            rcases Nat.lt_or_ge j 9 with h9 | h9
            · right; simp; omega
            · left; exact ⟨by simp; omega, by omega⟩
          have hc9 : ¬ 1 < y.toNat ∨ j < 9 := by omega
          clear h1
          by_cases h3 : y.toNat = 0 ∧ 0 < j
          · rw [if_pos h3] at hd
            have HD := hid hd
            clear hd
            have h0 : ((y.toNat : Int) == 0) = true := by simp [h3.1]
            have hj0 : 0 < j := h3.2
            clear h3 hor
            rcases h9 with ⟨h9, h1⟩ | h9
            all_goals
              go_wp2_with fail
              go_ret3
              exact ⟨by rw [HD.out]; rfl, rfl⟩
          · rw [if_neg h3] at hd
            have HD := hid hd
            clear hd
            have h0 : ((y.toNat : Int) == 0) = true ∧ ¬ 0 < j ∨ ((y.toNat : Int) == 0) = false := by
              rcases Nat.eq_zero_or_pos y.toNat with h | h
              · left; exact ⟨by simp [h], by omega⟩
              · right; simp; omega
            clear h3
            rcases h9 with ⟨h9, h1⟩ | h9 <;> rcases h0 with ⟨h0, hj0⟩ | h0
            all_goals
              go_wp2_with fail
              go_ret3
              refine ⟨?_, rfl⟩
              rw [HD.out]
              show Ending.returned (.tuple #[.int .u64 (bits _ _ _ _), .int .i64 (↑j + 1), .int .i64 0]) = _
              rw [hor.out]
              rfl
    · obtain rfl : j = n := by omega
      have HD : Hid (Vi.dec 0 0 l = (0, 0, 5)) := by
        rw [hd, List.drop_eq_nil_of_le (by have := HL.out; omega)]; rfl
      clear hd hx
      go_wp2_with fail
      go_ret3
      exact ⟨by rw [HD.out]; rfl, rfl⟩
theorem ret3 {k : IntKind} {a : Int} {b c : Int} {r : Nat × Nat × Nat} (h1 : a = r.1) (h2 : b = r.2.1) (h3 : c = r.2.2) : Ending.returned (.tuple #[.int k a, .int .i64 b, .int .i64 c]) = .returned (rd3 k r) := by
  rw [h1, h2, h3]; rfl

set_option maxHeartbeats 400000 in
set_option maxRecDepth 100000 in
theorem small_any (A : Option Addr) (n c B : Nat) (l : List UInt8) (most : Int) (w : World) (h : Rd w B 1 A n (bts l)) (hn : n ≤ 9223372036854775807) (hm : most ≤ 9223372036854775807) :
    Calls Try.prog 25 #[.slice A n c, .int .i64 most] w fun e w' => e = .returned (rd3 .i64 (Vi.small most l)) ∧ w = w' := by
  go_enter Try.func25, Try.ntmps25
  go_wp2_with fail
  refine (read_any A n c B l w h hn).mono ?_
  rintro e w1 ⟨rfl, rfl⟩
  clear h
  have he := Vi.dec_err l 0 0
  have hs : Hid (Vi.small most l = if (Vi.dec 0 0 l).2.2 ≠ 0 ∨ most < 0 ∨ most < ((Vi.dec 0 0 l).1 : Int) then (0, 0, 5) else Vi.dec 0 0 l) := hid rfl
  unfold rd3
  generalize Vi.dec 0 0 l = r at he hs ⊢
  obtain ⟨v, k, e⟩ := r
  rcases he with he | he
  · dsimp at he
    subst he
    have h0 : (((0 : Nat) : Int) != 0) = false := rfl
    by_cases h1 : most < 0
    · go_wp2_with fail
      go_ret3
      exact ⟨ret3 (by rw [hs.out, if_pos (by simp; omega)]; rfl) (by rw [hs.out, if_pos (by simp; omega)]; rfl) (by rw [hs.out, if_pos (by simp; omega)]; rfl), rfl⟩
    · by_cases h2 : most < (v : Int)
      · go_wp2_with fail
        go_ret3
        exact ⟨ret3 (by rw [hs.out, if_pos (by simp; omega)]; rfl) (by rw [hs.out, if_pos (by simp; omega)]; rfl) (by rw [hs.out, if_pos (by simp; omega)]; rfl), rfl⟩
      · go_wp2_with fail
        go_ret3
        exact ⟨ret3 (by rw [hs.out, if_neg (by simp; omega)]) (by rw [hs.out, if_neg (by simp; omega)]) (by rw [hs.out, if_neg (by simp; omega)]; rfl), rfl⟩
  · injection he with e1 e2
    injection e2 with e2 e3
    subst e1 e2 e3
    have h0 : (((5 : Nat) : Int) != 0) = true := rfl
    go_wp2_with fail
    go_ret3
    exact ⟨ret3 (by rw [hs.out, if_pos (by simp)]; rfl) (by rw [hs.out, if_pos (by simp)]; rfl) (by rw [hs.out, if_pos (by simp)]; rfl), rfl⟩

theorem rem128 (y : Nat) (j : Nat) (hj : j ≤ 9) (hy : y < 128) : IntKind.u64.wrap ((y : Int) * 2 ^ (7 * j)) = ((Vi.digit j y * 128 ^ j : Nat) : Int) := by
  have e : (2 : Int) ^ (7 * j) = ((128 ^ j : Nat) : Int) := by rw [Int.pow_mul]; simp
  rw [e, ← Int.natCast_mul]
  unfold Vi.digit
  split
  · rename_i h9
    subst h9
    rw [IntKind.wrap_u64]
    have e1 : (128 : Nat) ^ 9 = 9223372036854775808 := by decide
    rw [e1]
    omega
  · exact IntWalk.u64_in _ (by have := Vi.digit_fits y j hj hy (by omega); omega)

theorem orRem (x y j : Nat) (hx : x < 128 ^ j) (hj : j ≤ 9) :
    bits .or .u64 (x : Int) (IntKind.u64.wrap ((y : Int) % 128 * 2 ^ (7 * j))) = ((x + Vi.digit j (y % 128) * 128 ^ j : Nat) : Int) := by
  have h1 := rem128 (y % 128) j hj (by omega)
  have e : ((y % 128 : Nat) : Int) = (y : Int) % 128 := by omega
  rw [e] at h1
  have hlt : Vi.digit j (y % 128) * 128 ^ j < 18446744073709551616 := Vi.digit_fits _ _ hj (by unfold Vi.digit; split <;> omega) (by intro h9; unfold Vi.digit; rw [if_pos h9]; omega)
  rw [h1, u64_or_nat _ _ (by have := Vi.pow_fits j hj; omega) hlt, Vi.or_digit _ _ _ hx]

set_option maxHeartbeats 400000 in
set_option maxRecDepth 100000 in
theorem refRead_any (A : Option Addr) (n c B : Nat) (l : List UInt8) (w : World) (h : Rd w B 1 A n (bts l)) (hn : n ≤ 9223372036854775807) :
    Calls Try.prog 26 #[.slice A n c] w fun e w' => e = .returned (rd3 .u64 (Vi.dec 0 0 l)) ∧ Below w.heap.size w w' := by
  have hl := h.1
  rw [bts_length, Nat.mul_one] at hl
  have HL := hid hl
  clear hl
  go_enter Try.func26, Try.ntmps26
  go_wp2_with fail
  go_loopg [5, 6] n (fun k xv i wr => ∃ (j x : Nat), j ≤ n ∧ j ≤ 10 ∧ k = n - j ∧ xv = .int .u64 x ∧ i = .int .i64 j ∧ (j ≤ 9 ∧ x < 128 ^ j ∧ Vi.dec 0 0 l = Vi.dec j x (l.drop j) ∨ j = 10 ∧ Vi.dec 0 0 l = (0, 0, 5)) ∧ wr = w)
  case atStart => exact ⟨0, 0, by omega, by omega, rfl, rfl, rfl, .inl ⟨by omega, by decide, rfl⟩, rfl⟩
  case round =>
    obtain ⟨j, x, hj, hj10, rfl, rfl, rfl, hd, rfl⟩ := hrel
    rcases hd with ⟨hj9, hx, hd⟩ | ⟨rfl, hd⟩
    · by_cases hlt : j < n
      · obtain ⟨b, off, y, rfl, hb, hy, hc⟩ := h.byte hlt
        rw [dec_cons j x l y hy] at hd
        have hy2 : y.toNat < 256 := y.toNat_lt
        have HX := hid hx
        clear hx hy h
        by_cases h2 : 128 ≤ y.toNat
        · have HD := hid hd
          have hor := hid (orRem x y.toNat j HX.out hj9)
          clear hd
          go_wp2_with fail
          go_roundg (n - (j + 1))
          case measure => omega
          case rel =>
            refine ⟨j + 1, _, by omega, by omega, rfl, by rw [hor.out], by go_num, ?_, rfl⟩
            have hd := HD.out
            rcases Nat.lt_or_ge j 9 with h9 | h9
            · left
              rw [if_neg (by omega), if_pos h2] at hd
              have e : Vi.digit j (y.toNat % 128) = y.toNat % 128 := by unfold Vi.digit; rw [if_neg (by omega)]
              rw [e]
              exact ⟨by omega, Vi.digits_more _ _ _ HX.out (by omega), hd⟩
            · right
              rw [if_pos (by omega)] at hd
              exact ⟨by omega, hd⟩
        · rw [if_neg h2] at hd
          have HD := hid hd
          have hor := hid (orRem x y.toNat j HX.out hj9)
          have hm : y.toNat % 128 = y.toNat := by omega
          rw [hm] at hor
          have hyes := Vi.check_yes x j y.toNat HX.out hj9 (by omega)
          have hno := Vi.check_no x j y.toNat HX.out hj9 (by omega)
          have hfit := Vi.digit_lt x j y.toNat HX.out hj9 (by omega)
          have hyv : UInt8.ofNat y.toNat = y := by simp
          rw [hyv] at hyes hno
          have Hyes := hid hyes
          have Hno := hid hno
          have Hfit := hid hfit
          clear hd hyes hno hfit hyv
          have HM := hid hm
          clear hm
          go_wp2_with fail
          rw [hor.out]
          clear hor
          obtain ⟨X, hX⟩ : ∃ X, X = x + Vi.digit j y.toNat * 128 ^ j := ⟨_, rfl⟩
          rw [← hX] at Hyes Hno Hfit ⊢
          have HXX := hid hX
          clear hX
          refine (refAppend_any none 0 0 [] X _ Rd.nil_ (by omega) Hfit.out).mono ?_
          rintro e w1 ⟨v1, rfl, hown, hb1⟩
          rw [List.nil_append] at hown
          by_cases hlen : (Vi.enc X).length = j + 1
          · rw [hlen] at hown
            obtain ⟨A1, c1, rfl, h3, h4⟩ := owned_slice hown
            obtain ⟨b1, off1, z, rfl, hb2, hz, hc2⟩ := (Rd.of_own hown).byte (show j < j + 1 by omega)
            have HZ := hid hz
            have Hlen := hid hlen
            clear hz hown hlen
            have hn1 : (((j + 1 : Nat) : Int) != (j : Int) + 1) = false := by simp
            have hn2 : (((j : Int) + 1) != (j : Int) + 1) = false := by simp
            by_cases hzy : z = y
            · subst hzy
              have hzz : ((z.toNat : Int) != (z.toNat : Int)) = false := by simp
              go_wp2_with fail
              go_ret3
              have hA : ¬ (j = 9 ∧ 1 < z.toNat) := fun hh => Hno.out (.inl hh) ⟨Hlen.out, HZ.out⟩
              have hB : ¬ (z.toNat = 0 ∧ 0 < j) := fun hh => Hno.out (.inr hh) ⟨Hlen.out, HZ.out⟩
              have hd := HD.out
              rw [if_neg hA, if_neg hB] at hd
              refine ⟨ret3 ?_ (by rw [hd]; rfl) (by rw [hd]; rfl), hb1⟩
              rw [hd, HXX.out, (Hyes.out hA hB).1]
              show _ = ((x + z.toNat % 128 * 128 ^ j : Nat) : Int)
              rw [HM.out]
            · have hzz : ((z.toNat : Int) != (y.toNat : Int)) = true := by
                simp only [bne_iff_ne, ne_eq]; intro he; exact hzy (UInt8.toNat_inj.1 (by omega))
              go_wp2_with fail
              go_ret3
              have hbad : (j = 9 ∧ 1 < y.toNat) ∨ (y.toNat = 0 ∧ 0 < j) := by
                rcases Classical.em ((j = 9 ∧ 1 < y.toNat) ∨ (y.toNat = 0 ∧ 0 < j)) with hh | hh
                · exact hh
                · exfalso
                  have := (Hyes.out (fun q => hh (.inl q)) (fun q => hh (.inr q))).2.2
                  rw [HZ.out] at this
                  exact hzy (Option.some.inj this)
              have hd : Vi.dec 0 0 l = (0, 0, 5) := by
                rw [HD.out]
                split
                · rfl
                · rename_i hq; rw [if_pos (hbad.resolve_left hq)]
              exact ⟨ret3 (by rw [hd]; rfl) (by rw [hd]; rfl) (by rw [hd]; rfl), hb1⟩
          · obtain ⟨A1, c1, rfl, h3, h4⟩ := owned_slice hown
            have hne : (((Vi.enc X).length : Int) != (j : Int) + 1) = true := by simp; omega
            have Hlen := hid hlen
            clear hown hlen
            go_wp2_with fail
            go_ret3
            have hbad : (j = 9 ∧ 1 < y.toNat) ∨ (y.toNat = 0 ∧ 0 < j) := by
              rcases Classical.em ((j = 9 ∧ 1 < y.toNat) ∨ (y.toNat = 0 ∧ 0 < j)) with hh | hh
              · exact hh
              · exact absurd (Hyes.out (fun q => hh (.inl q)) (fun q => hh (.inr q))).2.1 Hlen.out
            have hd : Vi.dec 0 0 l = (0, 0, 5) := by
              rw [HD.out]
              split
              · rfl
              · rename_i hq; rw [if_pos (hbad.resolve_left hq)]
            exact ⟨ret3 (by rw [hd]; rfl) (by rw [hd]; rfl) (by rw [hd]; rfl), hb1⟩
      · obtain rfl : j = n := by omega
        have HD : Hid (Vi.dec 0 0 l = (0, 0, 5)) := by
          rw [hd, List.drop_eq_nil_of_le (by have := HL.out; omega)]; rfl
        clear hd hx
        go_wp2_with fail
        go_ret3
        exact ⟨by rw [HD.out]; rfl, Below.refl _ _⟩
    · have HD := hid hd
      clear hd
      have h10 : ((10 : Nat) : Int) = 10 := rfl
      by_cases hlt : 10 < n
      all_goals
        go_wp2_with fail
        go_ret3
        exact ⟨by rw [HD.out]; rfl, Below.refl _ _⟩
set_option maxHeartbeats 400000 in
set_option maxRecDepth 100000 in
theorem refSmall_any (A : Option Addr) (n c B : Nat) (l : List UInt8) (most : Int) (w : World) (h : Rd w B 1 A n (bts l)) (hn : n ≤ 9223372036854775807) (hm : most ≤ 9223372036854775807) :
    Calls Try.prog 27 #[.slice A n c, .int .i64 most] w fun e w' => e = .returned (rd3 .i64 (Vi.small most l)) ∧ Below w.heap.size w w' := by
  go_enter Try.func27, Try.ntmps27
  go_wp2_with fail
  refine (refRead_any A n c B l w h hn).mono ?_
  rintro e w1 ⟨rfl, hb⟩
  clear h
  have he := Vi.dec_err l 0 0
  have hs : Hid (Vi.small most l = if (Vi.dec 0 0 l).2.2 ≠ 0 ∨ most < 0 ∨ most < ((Vi.dec 0 0 l).1 : Int) then (0, 0, 5) else Vi.dec 0 0 l) := hid rfl
  unfold rd3
  generalize Vi.dec 0 0 l = r at he hs ⊢
  obtain ⟨v, k, e⟩ := r
  rcases he with he | he
  · dsimp at he
    subst he
    have h0 : (((0 : Nat) : Int) != 0) = false := rfl
    by_cases h1 : most < 0
    · go_wp2_with fail
      go_ret3
      exact ⟨ret3 (by rw [hs.out, if_pos (by simp; omega)]; rfl) (by rw [hs.out, if_pos (by simp; omega)]; rfl) (by rw [hs.out, if_pos (by simp; omega)]; rfl), hb⟩
    · by_cases h2 : most < (v : Int)
      · go_wp2_with fail
        go_ret3
        exact ⟨ret3 (by rw [hs.out, if_pos (by simp; omega)]; rfl) (by rw [hs.out, if_pos (by simp; omega)]; rfl) (by rw [hs.out, if_pos (by simp; omega)]; rfl), hb⟩
      · go_wp2_with fail
        go_ret3
        exact ⟨ret3 (by rw [hs.out, if_neg (by simp; omega)]) (by rw [hs.out, if_neg (by simp; omega)]) (by rw [hs.out, if_neg (by simp; omega)]; rfl), hb⟩
  · injection he with e1 e2
    injection e2 with e2 e3
    subst e1 e2 e3
    have h0 : (((5 : Nat) : Int) != 0) = true := rfl
    go_wp2_with fail
    go_ret3
    exact ⟨ret3 (by rw [hs.out, if_pos (by simp)]; rfl) (by rw [hs.out, if_pos (by simp)]; rfl) (by rw [hs.out, if_pos (by simp)]; rfl), hb⟩

end Go.Proofs.Ythihhmmpkbdmnaa
