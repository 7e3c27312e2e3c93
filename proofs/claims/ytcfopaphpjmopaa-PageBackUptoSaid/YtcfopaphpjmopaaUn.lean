/- Unlike pages have unlike bytes. -/
import Derived.Test.YtcfopaphpjmopaaLv
namespace Go.Proofs.Ytcfopaphpjmopaa
open Go.RowKit Go.Lg
set_option linter.unusedVariables false
set_option linter.unusedSimpArgs false

theorem encN_prefix : ∀ (xs ys : List Nat), xs.length = ys.length → (∀ x ∈ xs, x < 2 ^ 64) → (∀ y ∈ ys, y < 2 ^ 64) →
    (encN xs).take (min (encN xs).length (encN ys).length) = (encN ys).take (min (encN xs).length (encN ys).length) → xs = ys
  | [], [], _, _, _, _ => rfl
  | x :: xs, y :: ys, hl, hx, hy, h => by
    have e1 : encN (x :: xs) = Vi.enc x ++ encN xs := rfl
    have e2 : encN (y :: ys) = Vi.enc y ++ encN ys := rfl
    rw [e1, e2] at h
    have hxy : x = y := by
      refine Vi.enc_prefix x y (hx x (by simp)) (hy y (by simp)) ?_
      have h2 := congrArg (List.take (min (Vi.enc x).length (Vi.enc y).length)) h
      simp only [List.take_take, List.length_append] at h2
      rw [Nat.min_eq_left (by omega), List.take_append_of_le_length (by omega), List.take_append_of_le_length (by omega)] at h2
      exact h2
    subst hxy
    have h3 := congrArg (List.drop (Vi.enc x).length) h
    simp only [List.drop_take, List.length_append, List.drop_left'] at h3
    have e3 : min ((Vi.enc x).length + (encN xs).length) ((Vi.enc x).length + (encN ys).length) - (Vi.enc x).length = min (encN xs).length (encN ys).length := by omega
    rw [e3] at h3
    rw [encN_prefix xs ys (by simpa using hl) (fun a ha => hx a (by simp [ha])) (fun a ha => hy a (by simp [ha])) h3]
theorem nums_fit {p : Pg} (h : Ok p) : ∀ x ∈ nums p, x < 2 ^ 64 := by
  obtain ⟨a1, a2, a3, a4, a5, a6⟩ := p
  obtain ⟨x1, x2, x3, x4, x5, x6, rfl, rfl, rfl, rfl, rfl, rfl, b1, b2, b3, b4, b5, b6⟩ := nat_page h
  intro x hx
  simp [nums] at hx
  omega
theorem nums_inj {p q : Pg} (hp : Ok p) (hq : Ok q) (h : nums p = nums q) : p = q := by
  obtain ⟨a1, a2, a3, a4, a5, a6⟩ := p
  obtain ⟨c1, c2, c3, c4, c5, c6⟩ := q
  obtain ⟨x1, x2, x3, x4, x5, x6, rfl, rfl, rfl, rfl, rfl, rfl, _⟩ := nat_page hp
  obtain ⟨y1, y2, y3, y4, y5, y6, rfl, rfl, rfl, rfl, rfl, rfl, _⟩ := nat_page hq
  simp [nums] at h
  obtain ⟨rfl, rfl, rfl, rfl, rfl, rfl⟩ := h
  rfl
theorem unlike {p q : Pg} (hp : Ok p) (hq : Ok q) : decide (p = q) = decide ((encP p).take (min (encP p).length (encP q).length) = (encP q).take (min (encP p).length (encP q).length)) := by
  by_cases h : p = q
  · subst h; simp
  · have h2 : ¬(encP p).take (min (encP p).length (encP q).length) = (encP q).take (min (encP p).length (encP q).length) := by
      intro h2
      exact h (nums_inj hp hq (encN_prefix (nums p) (nums q) rfl (nums_fit hp) (nums_fit hq) h2))
    simp [h, h2]
end Go.Proofs.Ytcfopaphpjmopaa
