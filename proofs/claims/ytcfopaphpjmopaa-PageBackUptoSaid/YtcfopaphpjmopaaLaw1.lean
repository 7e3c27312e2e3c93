/- The statements on numbers of a few bytes: the walks through their own text. -/
import Derived.Test.YtcfopaphpjmopaaApart
import Derived.Test.YtcfopaphpjmopaaRead
namespace Go.Proofs.Ytcfopaphpjmopaa
open Go.RowKit Go.Lg

theorem lit_rd (w : World) (l : List UInt8) (cs : Array Value) (h : cs.toList = bts l) : Rd (w.alloc (.cells cs 5)) (w.heap.size + 1) 1 (some ⟨w.heap.size, 0, none⟩) l.length (bts l) := by
  have hs : cs.size = l.length * 1 := by rw [← Array.length_toList, h]; simp
  rw [← h]
  exact Rd.lit w cs 5 (0, 0) l.length hs

theorem read_at (A : Option Addr) (n c B : Nat) (l : List UInt8) (a b d : Nat) (w : World) (h : Rd w B 1 A n (bts l)) (hn : n ≤ 9223372036854775807) (hd : Vi.dec 0 0 l = (a, b, d)) :
    Calls Try.prog 38 #[.slice A n c] w fun e w' => e = .returned (.tuple #[.int .u64 a, .int .i64 b, .int .i64 d]) ∧ w = w' :=
  (read_any A n c B l w h hn).mono fun e w' ⟨h1, h2⟩ => ⟨by rw [h1, hd]; rfl, h2⟩

theorem enc300 : Vi.enc 300 = [172, 2] := by decide +kernel
theorem encMax : (Vi.enc 18446744073709551615).length = 10 := by decide +kernel

theorem append300 (w : World) : Calls Try.prog 29 #[.slice none 0 0, .int .u64 300] w (Fresh w [172, 2]) := by
  have h := append_any none 0 0 [] 300 w Rd.nil_ (by omega) (by decide)
  rwa [List.nil_append, enc300] at h
theorem kept_self (A A' : Option Addr) (n c n' c' : Nat) (l : List UInt8) (w : World) (h : Rd w w.heap.size 1 A n (bts (lent l))) (h' : Rd w w.heap.size 1 A' n' (bts l)) (hn : n ≤ 9223372036854775807) (hn' : n' ≤ 140737488354000) :
    Calls Try.prog 23 #[.slice A n c, .slice A' n' c'] w fun e w' => e = .returned (.bool true) ∧ Below w.heap.size w w' :=
  (kept_any A A' n c n' c' (lent l) l w h h' hn hn').mono fun e w' ⟨h1, h2⟩ => ⟨by rw [h1, decide_eq_true rfl], h2⟩

theorem lent_length (l : List UInt8) : (lent l).length = l.length + 3 := by simp [lent, spare]
theorem lent_take (l : List UInt8) (n : Nat) (h : l.length = n) : (bts (lent l)).take (n * 1) = bts l := by
  rw [Nat.mul_one, bts_take, ← h]; simp [lent]

theorem append_as (A : Option Addr) (n c : Nat) (l r : List UInt8) (x : Nat) (w : World) (hr : r = l ++ Vi.enc x) (h : Rd w w.heap.size 1 A n (bts l)) (hn : n ≤ 140737488354000) (hx : x < 2 ^ 64) :
    Calls Try.prog 29 #[.slice A n c, .int .u64 x] w (Fresh w r) := hr ▸ append_any A n c l x w h hn hx
theorem refAppend_as (A : Option Addr) (n c : Nat) (l r : List UInt8) (x : Nat) (w : World) (hr : r = l ++ Vi.enc x) (h : Rd w w.heap.size 1 A n (bts l)) (hn : n ≤ 140737488354000) (hx : x < 2 ^ 64) :
    Calls Try.prog 41 #[.slice A n c, .int .u64 x] w (Fresh w r) := hr ▸ refAppend_any A n c l x w h hn hx

theorem apart_of_pairs {vs : List Value} (h : vs.Pairwise fun a b => ∀ g, a.ownBlock = some g → b.ownBlock ≠ some g) :
    ∀ (i j : Nat) vi vj, vs[i]? = some vi → vs[j]? = some vj → i ≠ j → ∀ g, vi.ownBlock = some g → vj.ownBlock ≠ some g := by
  intro i j vi vj hi hj hne g hg hg'
  obtain ⟨hi1, rfl⟩ := List.getElem?_eq_some_iff.1 hi
  obtain ⟨hj1, rfl⟩ := List.getElem?_eq_some_iff.1 hj
  rcases Nat.lt_or_gt_of_ne hne with hlt | hlt
  · exact List.pairwise_iff_getElem.1 h i j hi1 hj1 hlt g hg hg'
  · exact List.pairwise_iff_getElem.1 h j i hj1 hi1 hlt g hg' hg

/-- Two rows of which one was made behind the other. -/
theorem apart_made {w w' : World} {b b' : Nat} {e e' : TypeId} {sz sz' n n' : Nat} {v v' : Value} {xs xs' : List Value} (h : w.ownsRow b e sz v n xs) (h' : w'.ownsRow b' e' sz' v' n' xs') (hlt : w.heap.size ≤ b') :
    (∀ g, v.ownBlock = some g → v'.ownBlock ≠ some g) ∧ (∀ g, v'.ownBlock = some g → v.ownBlock ≠ some g) :=
  ⟨fun g hg hg' => by have := (h.lt g hg).2; have := (h'.lt g hg').1; omega, fun g hg hg' => by have := (h.lt g hg').2; have := (h'.lt g hg).1; omega⟩

theorem pairs3 {a b c : Value} {R : Value → Value → Prop} (h1 : R a b) (h2 : R a c) (h3 : R b c) : [a, b, c].Pairwise R := by
  simp [h1, h2, h3]
theorem rows3 {Q : Value → List UInt8 → Prop} {a b c : Value} {la lb lc : List UInt8} (h1 : Q a la) (h2 : Q b lb) (h3 : Q c lc) :
    ∀ (i : Nat) v l, [a, b, c][i]? = some v → [la, lb, lc][i]? = some l → Q v l := by
  intro i v l hv hl
  match i, hv, hl with
  | 0, hv, hl => simp at hv hl; subst hv hl; exact h1
  | 1, hv, hl => simp at hv hl; subst hv hl; exact h2
  | 2, hv, hl => simp at hv hl; subst hv hl; exact h3
  | i + 3, hv, _ => simp at hv

end Go.Proofs.Ytcfopaphpjmopaa
