/- Numbers read one behind the other by the reference's reader: the plain law. -/
import Derived.Test.YtcfopaphpjmopaaRa
import Derived.Test.YtcfopaphpjmopaaLast
namespace Go.Proofs.Ytcfopaphpjmopaa
open Go.RowKit Go.Lg
set_option linter.unusedVariables false
set_option linter.unusedSimpArgs false

def chain : List Nat → List UInt8 → Nat → Bool → List Nat × Nat × Bool
  | [], _, a, bad => ([], a, bad)
  | M :: Ms, l, a, bad => ((rst M l a bad).1 :: (chain Ms l (rst M l a bad).2.1 (rst M l a bad).2.2).1, (chain Ms l (rst M l a bad).2.1 (rst M l a bad).2.2).2)
theorem chain_bad : ∀ (Ms : List Nat) (l : List UInt8) (a : Nat), (chain Ms l a true).2.2 = true
  | [], _, _ => rfl
  | M :: Ms, l, a => chain_bad Ms l a
theorem chain_take : ∀ (Ms : List Nat) (l : List UInt8) (a : Nat), takeN Ms (l.drop a) = if (chain Ms l a false).2.2 = true then none else some ((chain Ms l a false).1, l.drop (chain Ms l a false).2.1)
  | [], l, a => by simp [takeN, chain]
  | M :: Ms, l, a => by
    by_cases h : (Vi.small M (l.drop a)).2.2 = 0
    · have hr : rst M l a false = ((Vi.small M (l.drop a)).1, a + (Vi.small M (l.drop a)).2.1, false) := by simp [rst, h]
      simp only [takeN, chain, hr, h, if_true, List.drop_drop]
      rw [chain_take Ms l (a + (Vi.small M (l.drop a)).2.1)]
      split <;> simp
    · have hr : rst M l a false = (0, a, true) := by simp [rst, h]
      simp only [takeN, chain, hr, h, if_false, chain_bad, if_true]
theorem rst_le (M : Nat) (l : List UInt8) (a : Nat) (bad : Bool) : (rst M l a bad).1 ≤ M := by
  unfold rst
  split
  · exact Nat.zero_le _
  · split
    · rename_i h
      have := (small_len (M : Int) (l.drop a) h).2
      show (Vi.small M (l.drop a)).1 ≤ M
      omega
    · exact Nat.zero_le _
theorem dec_chain {l : List UInt8} {x1 x2 x3 x4 x5 x6 a1 a2 a3 a4 a5 a6 : Nat} {b1 b2 b3 b4 b5 b6 : Bool}
    (h1 : rst 1048576 l 0 false = (x1, a1, b1)) (h2 : rst 3 l a1 b1 = (x2, a2, b2)) (h3 : rst 1048576 l a2 b2 = (x3, a3, b3)) (h4 : rst 4 l a3 b3 = (x4, a4, b4)) (h5 : rst 1048576 l a4 b4 = (x5, a5, b5)) (h6 : rst 1073741824 l a5 b5 = (x6, a6, b6)) (ha : a6 ≤ l.length) :
    decP l = if b6 = false ∧ a6 = l.length ∧ Ok ⟨x1, x2, x3, x4, x5, x6⟩ then some ⟨x1, x2, x3, x4, x5, x6⟩ else none := by
  have h := chain_take mosts l 0
  simp only [mosts, chain, h1, h2, h3, h4, h5, h6, List.drop_zero] at h
  unfold decP
  rw [show mosts = [1048576, 3, 1048576, 4, 1048576, 1073741824] from rfl, h]
  cases b6 with
  | true => simp
  | false =>
    simp only [Bool.false_eq_true, if_false]
    by_cases hl : a6 = l.length
    · subst hl
      rw [List.drop_length]
      by_cases hok : Ok ⟨x1, x2, x3, x4, x5, x6⟩ <;> simp [pageOf, hok]
    · have : l.drop a6 ≠ [] := by
        intro h0
        have := congrArg List.length h0
        simp only [List.length_drop, List.length_nil] at this
        omega
      rw [if_neg (by simp [hl])]
      cases hd : l.drop a6 with
      | nil => exact absurd hd this
      | cons x xs => rfl
end Go.Proofs.Ytcfopaphpjmopaa
