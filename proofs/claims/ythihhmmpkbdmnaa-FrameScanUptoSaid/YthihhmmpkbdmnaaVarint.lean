/- Plain facts about numbers of a few bytes, seven bits a byte. No program in sight. -/
namespace Vi

/-- The bytes of a number (at most ten of them). -/
def encF : Nat → Nat → List UInt8
  | 0, x => [UInt8.ofNat x]
  | f + 1, x => if x < 128 then [UInt8.ofNat x] else UInt8.ofNat (x % 128 + 128) :: encF f (x / 128)

def enc (x : Nat) : List UInt8 := encF 9 x

/-- Reading the number with which bytes begin: the number, how many bytes, the error. -/
def dec : Nat → Nat → List UInt8 → Nat × Nat × Nat
  | _, _, [] => (0, 0, 5)
  | i, x, c :: cs =>
    if i = 9 ∧ 1 < c.toNat then (0, 0, 5)
    else if 128 ≤ c.toNat then dec (i + 1) (x + c.toNat % 128 * 128 ^ i) cs
    else if c.toNat = 0 ∧ 0 < i then (0, 0, 5)
    else (x + c.toNat % 128 * 128 ^ i, i + 1, 0)

def small (most : Int) (bs : List UInt8) : Nat × Nat × Nat :=
  if (dec 0 0 bs).2.2 ≠ 0 ∨ most < 0 ∨ most < ((dec 0 0 bs).1 : Int) then (0, 0, 5) else dec 0 0 bs

theorem encF_pos (f x : Nat) : 0 < (encF f x).length := by
  cases f <;> simp only [encF]
  · simp
  · split <;> simp

theorem encF_len_le (f x : Nat) : (encF f x).length ≤ f + 1 := by
  induction f generalizing x with
  | zero => simp [encF]
  | succ f ih =>
    simp only [encF]
    split
    · simp
    · have := ih (x / 128); simp; omega

/-- A number in a certain range has a certain number of bytes, and its last byte is its top digit. -/
theorem encF_range (k : Nat) : ∀ f x, k ≤ f → 128 ^ k ≤ x → x < 128 ^ (k + 1) → (encF f x).length = k + 1 ∧ (encF f x)[k]? = some (UInt8.ofNat (x / 128 ^ k)) := by
  induction k with
  | zero =>
    intro f x _ _ h2
    simp at h2
    cases f with
    | zero => simp [encF]
    | succ f => simp [encF, h2]
  | succ k ih =>
    intro f x hf h1 h2
    obtain ⟨f, rfl⟩ : ∃ g, f = g + 1 := ⟨f - 1, by omega⟩
    have hp : 0 < 128 ^ k := Nat.pow_pos (by decide)
    have hx : ¬ x < 128 := by
      have : 128 ≤ 128 ^ (k + 1) := by rw [Nat.pow_succ]; omega
      omega
    have := ih f (x / 128) (by omega) (by rw [Nat.pow_succ] at h1; omega) (by rw [Nat.pow_succ] at h2; omega)
    simp only [encF, if_neg hx, List.length_cons, List.getElem?_cons_succ]
    refine ⟨by omega, ?_⟩
    rw [this.2, Nat.div_div_eq_div_mul, Nat.pow_succ, Nat.mul_comm]

theorem encF_zero (f x : Nat) (h : x < 128) : encF f x = [UInt8.ofNat x] := by
  cases f <;> simp [encF, h]

/-- Fewer digits, fewer bytes. -/
theorem encF_len_lt (k : Nat) : ∀ f x, x < 128 ^ k → (encF f x).length ≤ max k 1 := by
  induction k with
  | zero => intro f x h; have hx : x = 0 := by simpa using h
            subst hx; rw [encF_zero _ _ (by omega)]; simp
  | succ k ih =>
    intro f x h
    cases f with
    | zero => simp [encF]
    | succ f =>
      simp only [encF]
      split
      · simp only [List.length_cons, List.length_nil]; omega
      · have := ih f (x / 128) (by rw [Nat.pow_succ] at h; omega)
        rename_i hx
        rcases Nat.eq_zero_or_pos k with rfl | hk
        · simp at h; omega
        · simp only [List.length_cons]; omega

theorem enc_len_mono (f x y : Nat) (h : x ≤ y) : (encF f x).length ≤ (encF f y).length := by
  induction f generalizing x y with
  | zero => simp [encF]
  | succ f ih =>
    simp only [encF]
    split
    · have := encF_pos f (y / 128); split <;> simp
    · rename_i hx
      have hy : ¬ y < 128 := by omega
      rw [if_neg hy]
      have := ih (x / 128) (y / 128) (by omega)
      simp; omega

theorem u8_toNat (n : Nat) (h : n < 256) : (UInt8.ofNat n).toNat = n := by
  simp [UInt8.toNat_ofNat']; omega

/-- There and back. -/
theorem dec_encF (f : Nat) : ∀ i x v more, v < 2 * 128 ^ f → i + f = 9 → (i = 0 ∨ 0 < v) → dec i x (encF f v ++ more) = (x + v * 128 ^ i, i + (encF f v).length, 0) := by
  induction f with
  | zero =>
    intro i x v more hv hi h0
    simp at hv
    have hu := u8_toNat v (by omega)
    have h9 : i = 9 := by omega
    subst h9
    have : v = 1 := by omega
    subst this
    simp [encF, dec]
  | succ f ih =>
    intro i x v more hv hi h0
    simp only [encF]
    split
    · rename_i h
      have hu := u8_toNat v (by omega)
      simp only [List.singleton_append, dec, hu]
      rw [if_neg (by omega), if_neg (by omega), if_neg (by omega)]
      rw [Nat.mod_eq_of_lt h]; rfl
    · rename_i h
      have hu := u8_toNat (v % 128 + 128) (by omega)
      simp only [List.cons_append, dec, hu]
      rw [if_neg (by omega), if_pos (by omega)]
      rw [ih (i + 1) _ (v / 128) more (by rw [Nat.pow_succ] at hv; omega) (by omega) (by omega)]
      refine Prod.ext ?_ (Prod.ext ?_ rfl)
      · show x + (v % 128 + 128) % 128 * 128 ^ i + v / 128 * 128 ^ (i + 1) = x + v * 128 ^ i
        have e1 : (v % 128 + 128) % 128 = v % 128 := by omega
        have e2 : v / 128 * 128 ^ (i + 1) = 128 * (v / 128) * 128 ^ i := by rw [Nat.pow_succ]; ac_rfl
        rw [e1, e2, Nat.add_assoc, ← Nat.add_mul]
        congr 2
        omega
      · simp; omega

theorem two64 : (2 : Nat) ^ 64 = 2 * 128 ^ 9 := by decide

theorem dec_enc (v : Nat) (more : List UInt8) (h : v < 2 ^ 64) : dec 0 0 (enc v ++ more) = (v, (enc v).length, 0) := by
  have := dec_encF 9 0 0 v more (by rw [← two64]; exact h) rfl (Or.inl rfl)
  simpa [enc] using this

/-- What is read from a first part of a number's bytes that is not the whole: nothing. -/
theorem dec_encF_cut (f : Nat) : ∀ i x v k, v < 2 * 128 ^ f → i + f = 9 → k < (encF f v).length → dec i x ((encF f v).take k) = (0, 0, 5) := by
  induction f with
  | zero =>
    intro i x v k hv hi hk
    have : k = 0 := by simp [encF] at hk; omega
    subst this
    simp [dec]
  | succ f ih =>
    intro i x v k hv hi hk
    cases k with
    | zero => simp [dec]
    | succ k =>
      simp only [encF] at hk ⊢
      split at hk
      · simp at hk
      · rename_i h
        rw [if_neg h]
        have hu := u8_toNat (v % 128 + 128) (by omega)
        simp only [List.take_succ_cons, dec, hu]
        rw [if_neg (by omega), if_pos (by omega)]
        exact ih (i + 1) _ (v / 128) k (by rw [Nat.pow_succ] at hv; omega) (by omega) (by simpa using hk)

theorem dec_enc_cut (v k : Nat) (h : v < 2 ^ 64) (hk : k < (enc v).length) : dec 0 0 ((enc v).take k) = (0, 0, 5) :=
  dec_encF_cut 9 0 0 v k (by rw [← two64]; exact h) rfl hk

theorem fits (f y : Nat) (hf : f ≤ 9) (hy : y < 2 * 128 ^ f) : y < 2 ^ 64 := by
  have : 128 ^ f ≤ 128 ^ 9 := Nat.pow_le_pow_right (by decide) hf
  rw [two64]; omega

/-- One digit more is laid above the others. -/
theorem or_digit (x d j : Nat) (hx : x < 128 ^ j) : x ||| d * 128 ^ j = x + d * 128 ^ j := by
  have e : d * 128 ^ j = d <<< (7 * j) := by rw [Nat.shiftLeft_eq, Nat.pow_mul]
  have hx' : x < 2 ^ (7 * j) := by rw [Nat.pow_mul]; exact hx
  rw [e, Nat.or_comm, ← Nat.shiftLeft_add_eq_or_of_lt hx' d, Nat.add_comm]
theorem digit_fits (d j : Nat) (hj : j ≤ 9) (hd : d < 128) (h9 : j = 9 → d ≤ 1) : d * 128 ^ j < 18446744073709551616 := by
  rcases Nat.lt_or_ge j 9 with h | h
  · have h1 : 128 ^ j ≤ 128 ^ 8 := Nat.pow_le_pow_right (by decide) (by omega)
    have h2 := Nat.mul_le_mul (Nat.le_of_lt hd) h1
    exact Nat.lt_of_le_of_lt h2 (by decide)
  · have h9' : j = 9 := by omega
    subst h9'
    have h2 := Nat.mul_le_mul_right (128 ^ 9) (h9 rfl)
    exact Nat.lt_of_le_of_lt h2 (by decide)
theorem pow_fits (j : Nat) (hj : j ≤ 9) : 128 ^ j < 18446744073709551616 := by
  have h1 : 128 ^ j ≤ 128 ^ 9 := Nat.pow_le_pow_right (by decide) hj
  exact Nat.lt_of_le_of_lt h1 (by decide)
theorem digits_more (x d j : Nat) (hx : x < 128 ^ j) (hd : d < 128) : x + d * 128 ^ j < 128 ^ (j + 1) := by
  have h1 : (d + 1) * 128 ^ j ≤ 128 * 128 ^ j := Nat.mul_le_mul_right _ (by omega)
  rw [Nat.add_mul, Nat.one_mul] at h1
  rw [Nat.pow_succ, Nat.mul_comm (128 ^ j)]
  omega

/-- Unlike numbers have bytes neither of which begins the other's. -/
theorem enc_prefix (x y : Nat) (hx : x < 2 ^ 64) (hy : y < 2 ^ 64) (h : (enc x).take (min (enc x).length (enc y).length) = (enc y).take (min (enc x).length (enc y).length)) : x = y := by
  rcases Nat.le_total (enc x).length (enc y).length with hl | hl
  · rw [Nat.min_eq_left hl, List.take_length] at h
    have h1 := dec_enc x ((enc y).drop (enc x).length) hx
    have h2 := dec_enc y [] hy
    have he : enc x ++ (enc y).drop (enc x).length = enc y := by
      conv => lhs; lhs; rw [h]
      exact List.take_append_drop _ _
    rw [he] at h1
    rw [List.append_nil, h1] at h2
    exact congrArg (fun z => z.1) h2
  · rw [Nat.min_eq_right hl, List.take_length] at h
    have h1 := dec_enc y ((enc x).drop (enc y).length) hy
    have h2 := dec_enc x [] hx
    have he : enc y ++ (enc x).drop (enc y).length = enc x := by
      conv => lhs; lhs; rw [← h]
      exact List.take_append_drop _ _
    rw [he] at h1
    rw [List.append_nil, h1] at h2
    exact (congrArg (fun z => z.1) h2).symm

/-- What was read is at most ten bytes and fits. -/
theorem dec_fits (bs : List UInt8) : ∀ i x, i ≤ 9 → x < 128 ^ i → (dec i x bs).1 < 2 ^ 64 ∧ (dec i x bs).2.1 ≤ i + bs.length ∧ (dec i x bs).2.1 ≤ 10 := by
  induction bs with
  | nil => intro i x _ _; simp [dec]
  | cons c cs ih =>
    intro i x hi hx
    have hp : 0 < 128 ^ i := Nat.pow_pos (by decide)
    have hc := c.toNat_lt
    have hm : c.toNat % 128 < 128 := Nat.mod_lt _ (by decide)
    have hlt : x + c.toNat % 128 * 128 ^ i < 128 ^ (i + 1) := by
      have h1 : (c.toNat % 128 + 1) * 128 ^ i ≤ 128 * 128 ^ i := Nat.mul_le_mul_right _ (by omega)
      rw [Nat.add_mul, Nat.one_mul] at h1
      rw [Nat.pow_succ, Nat.mul_comm (128 ^ i)]
      omega
    simp only [dec]
    split
    · simp
    · split
      · rename_i h1 h2
        have hi' : i ≠ 9 := by omega
        have := ih (i + 1) _ (by omega) hlt
        refine ⟨this.1, ?_, this.2.2⟩
        have := this.2.1
        simp only [List.length_cons]; omega
      · split
        · simp
        · rename_i h1 h2 h3
          refine ⟨?_, by simp only [List.length_cons]; omega, by show i + 1 ≤ 10; omega⟩
          rcases Nat.lt_or_ge i 9 with h | h
          · have : 128 ^ (i + 1) ≤ 128 ^ 9 := Nat.pow_le_pow_right (by decide) (by omega)
            rw [two64]
            show x + c.toNat % 128 * 128 ^ i < _
            omega
          · have h9 : i = 9 := by omega
            subst h9
            have : c.toNat % 128 ≤ 1 := by omega
            rw [two64]
            show x + c.toNat % 128 * 128 ^ 9 < _
            have := Nat.mul_le_mul_right (128 ^ 9) this
            omega


/-- The digit that is left of a tenth byte. -/
def digit (j y : Nat) : Nat := if j = 9 then y % 2 else y

theorem check_yes (x j y : Nat) (hx : x < 128 ^ j) (hj : j ≤ 9) (hy : y < 128) (h1 : ¬ (j = 9 ∧ 1 < y)) (h2 : ¬ (y = 0 ∧ 0 < j)) :
    digit j y = y ∧ (enc (x + digit j y * 128 ^ j)).length = j + 1 ∧ (enc (x + digit j y * 128 ^ j))[j]? = some (UInt8.ofNat y) := by
  have hd : digit j y = y := by unfold digit; split <;> omega
  rw [hd]
  refine ⟨rfl, ?_⟩
  rcases Nat.eq_zero_or_pos j with rfl | hj0
  · have hx0 : x = 0 := by simpa using hx
    subst hx0
    simp [enc, encF_zero _ _ hy]
  · have hp : 0 < 128 ^ j := Nat.pow_pos (by decide)
    have hr := encF_range j 9 (x + y * 128 ^ j) hj (by have := Nat.mul_le_mul_right (128 ^ j) (show 1 ≤ y by omega); omega) (digits_more _ _ _ hx hy)
    refine ⟨hr.1, hr.2.trans ?_⟩
    rw [Nat.add_mul_div_right _ _ hp, Nat.div_eq_of_lt hx, Nat.zero_add]

theorem check_no (x j y : Nat) (hx : x < 128 ^ j) (hj : j ≤ 9) (hy : y < 128) (h : (j = 9 ∧ 1 < y) ∨ (y = 0 ∧ 0 < j)) :
    ¬ ((enc (x + digit j y * 128 ^ j)).length = j + 1 ∧ (enc (x + digit j y * 128 ^ j))[j]? = some (UInt8.ofNat y)) := by
  rintro ⟨h1, h2⟩
  have hp : 0 < 128 ^ j := Nat.pow_pos (by decide)
  by_cases hd : digit j y = 0
  · rw [hd, Nat.zero_mul, Nat.add_zero] at h1
    have := encF_len_lt j 9 x hx
    unfold enc at h1
    omega
  · have h9 : j = 9 ∧ 1 < y := by
      rcases h with h | h
      · exact h
      · exfalso; apply hd; unfold digit; split <;> omega
    have hd1 : digit j y = 1 := by unfold digit at hd ⊢; rw [if_pos h9.1] at hd ⊢; omega
    rw [hd1] at h2
    have hr := encF_range j 9 (x + 1 * 128 ^ j) hj (by omega) (digits_more _ _ _ hx (by decide))
    unfold enc at h2
    rw [hr.2, Nat.add_mul_div_right _ _ hp, Nat.div_eq_of_lt hx] at h2
    injection h2 with h2
    have := congrArg UInt8.toNat h2
    rw [u8_toNat _ (by omega), u8_toNat _ (by omega)] at this
    omega

theorem digit_lt (x j y : Nat) (hx : x < 128 ^ j) (hj : j ≤ 9) (hy : y < 128) : x + digit j y * 128 ^ j < 2 ^ 64 := by
  rcases Nat.lt_or_ge j 9 with h | h
  · have h1 := digits_more x (digit j y) j hx (by unfold digit; split <;> omega)
    have h2 : 128 ^ (j + 1) ≤ 128 ^ 9 := Nat.pow_le_pow_right (by decide) (by omega)
    rw [two64]; omega
  · have h9 : j = 9 := by omega
    subst h9
    have h2 := Nat.mul_le_mul_right (128 ^ 9) (show digit 9 y ≤ 1 by unfold digit; rw [if_pos rfl]; omega)
    rw [two64]; omega

theorem dec_err (bs : List UInt8) : ∀ i x, (dec i x bs).2.2 = 0 ∨ dec i x bs = (0, 0, 5) := by
  induction bs with
  | nil => intro i x; right; rfl
  | cons c cs ih =>
    intro i x
    simp only [dec]
    split
    · right; rfl
    · split
      · exact ih _ _
      · split
        · right; rfl
        · left; rfl

end Vi
