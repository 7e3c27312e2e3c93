/- Plain facts about records one behind the other. No program in sight. -/
import Derived.Test.YthihhmmpkbdmnaaVarint
namespace Vi

/-- A record's frame. -/
def fr (r : List UInt8) : List UInt8 := enc r.length ++ r
/-- The frame with which bytes begin: its record, its length. -/
def fread (b : List UInt8) : Option (List UInt8 × Nat) :=
  if (small 131072 b).2.2 ≠ 0 ∨ b.length < (small 131072 b).2.1 + (small 131072 b).1 then none
  else some ((b.drop (small 131072 b).2.1).take (small 131072 b).1, (small 131072 b).2.1 + (small 131072 b).1)

def scanF : Nat → List UInt8 → List (List UInt8) × Nat
  | 0, _ => ([], 0)
  | f + 1, b => match fread b with
    | none => ([], 0)
    | some (r, m) => (r :: (scanF f (b.drop m)).1, m + (scanF f (b.drop m)).2)
def scan (b : List UInt8) : List (List UInt8) × Nat := scanF (b.length + 1) b

theorem dec_pos (bs : List UInt8) : ∀ i x, (dec i x bs).2.2 = 0 → i < (dec i x bs).2.1 := by
  induction bs with
  | nil => intro i x h; simp [dec] at h
  | cons c cs ih =>
    intro i x h
    simp only [dec] at h ⊢
    split at h
    · simp at h
    · rename_i h1
      rw [if_neg h1]
      split at h
      · rename_i h2; rw [if_pos h2]; have := ih _ _ h; omega
      · rename_i h2
        rw [if_neg h2]
        split at h
        · simp at h
        · rename_i h3; rw [if_neg h3]; show i < i + 1; omega

theorem small_ok {m : Int} {b : List UInt8} (h : (small m b).2.2 = 0) : small m b = dec 0 0 b ∧ (dec 0 0 b).2.2 = 0 ∧ ((small m b).1 : Int) ≤ m := by
  unfold small at h ⊢
  split at h
  · simp at h
  · rename_i hc
    rw [if_neg hc]
    have : ¬ m < ((dec 0 0 b).1 : Int) := fun q => hc (.inr (.inr q))
    exact ⟨rfl, h, by omega⟩
theorem small_bad {m : Int} {b : List UInt8} (h : (small m b).2.2 ≠ 0) : small m b = (0, 0, 5) := by
  unfold small at h ⊢
  split at h
  · rename_i hc; rw [if_pos hc]
  · rename_i hc
    exfalso
    rcases dec_err b 0 0 with he | he
    · exact h he
    · exact hc (.inl (by rw [he]; decide))
theorem small_len {m : Int} {b : List UInt8} (h : (small m b).2.2 = 0) : 0 < (small m b).2.1 ∧ (small m b).2.1 ≤ b.length ∧ (small m b).2.1 ≤ 10 := by
  obtain ⟨h1, h2, _⟩ := small_ok h
  rw [h1]
  have := dec_fits b 0 0 (by omega) (by decide)
  exact ⟨dec_pos b 0 0 h2, by omega, this.2.2⟩

theorem fread_none {b : List UInt8} (h : (small 131072 b).2.2 ≠ 0 ∨ b.length < (small 131072 b).2.1 + (small 131072 b).1) : fread b = none := if_pos h
theorem fread_some {b : List UInt8} (h1 : (small 131072 b).2.2 = 0) (h2 : (small 131072 b).2.1 + (small 131072 b).1 ≤ b.length) :
    fread b = some ((b.drop (small 131072 b).2.1).take (small 131072 b).1, (small 131072 b).2.1 + (small 131072 b).1) :=
  if_neg (by rintro (h | h); exact h h1; omega)
theorem fread_fits {b r : List UInt8} {m : Nat} (h : fread b = some (r, m)) : 0 < m ∧ m ≤ b.length ∧ r.length ≤ 131072 ∧ r.length < m := by
  unfold fread at h
  split at h
  · cases h
  · rename_i hc
    have h0 : (small 131072 b).2.2 = 0 := by
      rcases Nat.eq_zero_or_pos (small 131072 b).2.2 with q | q
      · exact q
      · exact absurd (.inl (by omega)) hc
    have h1 := small_len h0
    have h2 := small_ok h0
    have h3 : ¬ b.length < (small 131072 b).2.1 + (small 131072 b).1 := fun q => hc (.inr q)
    simp only [Option.some.injEq, Prod.mk.injEq] at h
    obtain ⟨rfl, rfl⟩ := h
    rw [List.length_take, List.length_drop]
    omega

/-- A frame is read back, whatever stands behind it. -/
theorem fread_fr (r more : List UInt8) (h : r.length ≤ 131072) : fread (fr r ++ more) = some (r, (fr r).length) := by
  have hd : dec 0 0 (fr r ++ more) = (r.length, (enc r.length).length, 0) := by
    unfold fr; rw [List.append_assoc]; exact dec_enc _ _ (by omega)
  have hs : small 131072 (fr r ++ more) = (r.length, (enc r.length).length, 0) := by
    unfold small
    rw [if_neg (by rw [hd]; simp; omega), hd]
  have h2 := fread_some (b := fr r ++ more) (by rw [hs]) (by rw [hs]; simp [fr])
  rw [h2, hs]
  simp only [Option.some.injEq, Prod.mk.injEq]
  refine ⟨?_, by simp [fr]⟩
  unfold fr
  rw [List.append_assoc, List.drop_left, List.take_left]

/-- A first part of a frame that is not the whole is none. -/
theorem fread_cut (r : List UInt8) (k : Nat) (h : r.length ≤ 131072) (hk : k < (fr r).length) : fread ((fr r).take k) = none := by
  by_cases hk2 : k < (enc r.length).length
  · have e : (fr r).take k = (enc r.length).take k := by unfold fr; rw [List.take_append_of_le_length (by omega)]
    have hd := dec_enc_cut r.length k (by omega) hk2
    refine fread_none (.inl ?_)
    rw [e]
    unfold small
    rw [if_pos (.inl (by rw [hd]; decide))]
    decide
  · have e : (fr r).take k = enc r.length ++ r.take (k - (enc r.length).length) := by
      unfold fr; rw [List.take_append, List.take_of_length_le (by omega)]
    have hd : dec 0 0 ((fr r).take k) = (r.length, (enc r.length).length, 0) := by rw [e]; exact dec_enc _ _ (by omega)
    have hs : small 131072 ((fr r).take k) = (r.length, (enc r.length).length, 0) := by
      unfold small
      rw [if_neg (by rw [hd]; simp; omega), hd]
    refine fread_none (.inr ?_)
    rw [hs, List.length_take]
    have : (fr r).length = (enc r.length).length + r.length := by simp [fr]
    show min k (fr r).length < (enc r.length).length + r.length
    omega

/-- Fuel enough is fuel enough. -/
theorem scanF_fuel (f : Nat) : ∀ g b, b.length < f → b.length < g → scanF f b = scanF g b := by
  induction f with
  | zero => intro g b h _; omega
  | succ f ih =>
    intro g b h1 h2
    obtain ⟨g, rfl⟩ : ∃ g', g = g' + 1 := ⟨g - 1, by omega⟩
    simp only [scanF]
    cases hb : fread b with
    | none => rfl
    | some x =>
      obtain ⟨r, m⟩ := x
      have := fread_fits hb
      have e := ih g (b.drop m) (by simp; omega) (by simp; omega)
      show (r :: (scanF f (b.drop m)).1, m + (scanF f (b.drop m)).2) = (r :: (scanF g (b.drop m)).1, m + (scanF g (b.drop m)).2)
      rw [e]

theorem scan_none {b : List UInt8} (h : fread b = none) : scan b = ([], 0) := by simp [scan, scanF, h]
theorem scan_some {b r : List UInt8} {m : Nat} (h : fread b = some (r, m)) : scan b = (r :: (scan (b.drop m)).1, m + (scan (b.drop m)).2) := by
  have := fread_fits h
  have e : scanF b.length (b.drop m) = scanF ((b.drop m).length + 1) (b.drop m) := scanF_fuel _ _ _ (by simp; omega) (by omega)
  show (match fread b with | none => ([], 0) | some (r, m) => (r :: (scanF b.length (b.drop m)).1, m + (scanF b.length (b.drop m)).2)) = _
  rw [h]
  show (r :: (scanF b.length (b.drop m)).1, m + (scanF b.length (b.drop m)).2) = _
  rw [e]
  rfl

/-- How far the records go, and what stands behind them. -/
theorem scan_fits (f : Nat) : ∀ b, b.length < f → (scan b).2 ≤ b.length ∧ fread (b.drop (scan b).2) = none ∧ (scan b).1.length ≤ (scan b).2 := by
  induction f with
  | zero => intro b h; omega
  | succ f ih =>
    intro b h
    cases hb : fread b with
    | none => rw [scan_none hb]; simp [hb]
    | some x =>
      obtain ⟨r, m⟩ := x
      have h1 := fread_fits hb
      have h2 := ih (b.drop m) (by simp; omega)
      rw [scan_some hb]
      rw [List.drop_drop] at h2
      simp only [List.length_cons]
      rw [List.length_drop] at h2
      refine ⟨by omega, h2.2.1, by omega⟩

/-- Frames one behind the other are scanned as they were, and on behind them. -/
def frs (l : List (List UInt8)) : List UInt8 := l.flatMap fr
theorem scan_frs (l : List (List UInt8)) (more : List UInt8) (h : ∀ r ∈ l, r.length ≤ 131072) : scan (frs l ++ more) = (l ++ (scan more).1, (frs l).length + (scan more).2) := by
  induction l with
  | nil => simp [frs]
  | cons r l ih =>
    have hr := h r (by simp)
    have e : frs (r :: l) ++ more = fr r ++ (frs l ++ more) := by simp [frs]
    have e2 : (frs (r :: l)).length = (fr r).length + (frs l).length := by simp [frs]
    rw [e, scan_some (fread_fr r _ hr), List.drop_left, ih fun q hq => h q (by simp [hq]), e2]
    simp only [List.cons_append, Prod.mk.injEq, true_and]
    omega
theorem frs_snoc (l : List (List UInt8)) (r : List UInt8) : frs (l ++ [r]) = frs l ++ fr r := by simp [frs]

theorem dec_take (bs : List UInt8) : ∀ i x v n more, dec i x bs = (v, n, 0) → dec i x (bs.take (n - i) ++ more) = (v, n, 0) := by
  induction bs with
  | nil => intro i x v n more h; simp [dec] at h
  | cons c cs ih =>
    intro i x v n more h
    have hp := dec_pos (c :: cs) i x (by rw [h])
    rw [h] at hp
    have hp' : i < n := hp
    obtain ⟨d, hd⟩ : ∃ d, n - i = d + 1 := ⟨n - i - 1, by omega⟩
    rw [hd, List.take_succ_cons, List.cons_append]
    simp only [dec] at h ⊢
    split at h
    · cases h
    · rename_i h1
      rw [if_neg h1]
      split at h
      · rename_i h2
        rw [if_pos h2]
        have := ih (i + 1) _ v n more h
        rwa [show n - (i + 1) = d by omega] at this
      · rename_i h2
        rw [if_neg h2]
        split at h
        · cases h
        · rename_i h3; rw [if_neg h3]; exact h

theorem fread_ext {b r : List UInt8} {m : Nat} (more : List UInt8) (h : fread b = some (r, m)) : fread (b.take m ++ more) = some (r, m) := by
  have hfit := fread_fits h
  unfold fread at h
  split at h
  · cases h
  · rename_i hc
    have h0 : (small 131072 b).2.2 = 0 := by
      rcases Nat.eq_zero_or_pos (small 131072 b).2.2 with q | q
      · exact q
      · exact absurd (.inl (by omega)) hc
    obtain ⟨h1, h2, h3⟩ := small_ok h0
    have h4 := small_len h0
    simp only [Option.some.injEq, Prod.mk.injEq] at h
    obtain ⟨hr, hm⟩ := h
    obtain ⟨⟨k, n, e⟩, hd⟩ : ∃ q, dec 0 0 b = q := ⟨_, rfl⟩
    rw [h1, hd] at hr hm h3 h4
    rw [hd] at h2
    simp only at hr hm h2 h3 h4
    subst h2
    have hd2 := dec_take b 0 0 k n ((b.drop n).take (m - n) ++ more) hd
    have e1 : b.take (n - 0) ++ ((b.drop n).take (m - n) ++ more) = b.take m ++ more := by
      rw [Nat.sub_zero, ← List.append_assoc, ← List.take_add, show n + (m - n) = m by omega]
    rw [e1] at hd2
    have hs : small 131072 (b.take m ++ more) = (k, n, 0) := by
      unfold small
      rw [if_neg (by rw [hd2]; simp; omega), hd2]
    have h5 := fread_some (b := b.take m ++ more) (by rw [hs]) (by rw [hs, List.length_append, List.length_take]; simp only; omega)
    rw [h5, hs]
    simp only [Option.some.injEq, Prod.mk.injEq]
    refine ⟨?_, hm⟩
    rw [← hr, List.drop_append_of_le_length (by rw [List.length_take]; omega), List.drop_take, List.take_append_of_le_length (by rw [List.length_take, List.length_drop]; omega), List.take_take, Nat.min_eq_left (by omega)]

/-- Of what was cut to its good length the records are the same. -/
theorem scan_take (f : Nat) : ∀ b, b.length < f → ∀ more, scan (b.take (scan b).2 ++ more) = ((scan b).1 ++ (scan more).1, (scan b).2 + (scan more).2) := by
  induction f with
  | zero => intro b h; omega
  | succ f ih =>
    intro b h more
    cases hb : fread b with
    | none => rw [scan_none hb]; simp
    | some x =>
      obtain ⟨r, m⟩ := x
      have h1 := fread_fits hb
      have h2 := ih (b.drop m) (by simp; omega) more
      have hs := scan_some hb
      rw [hs]
      have e : b.take (m + (scan (b.drop m)).2) ++ more = b.take m ++ ((b.drop m).take (scan (b.drop m)).2 ++ more) := by
        rw [← List.append_assoc, List.take_add]
      have e2 : (b.take m).length = m := by rw [List.length_take]; omega
      have e3 : List.drop m (b.take m ++ ((b.drop m).take (scan (b.drop m)).2 ++ more)) = (b.drop m).take (scan (b.drop m)).2 ++ more := by
        rw [List.drop_append_of_le_length (by omega), List.drop_of_length_le (by omega), List.nil_append]
      simp only [e]
      rw [scan_some (fread_ext _ hb), e3, h2]
      simp only [List.cons_append, Prod.mk.injEq, true_and]
      omega
end Vi
