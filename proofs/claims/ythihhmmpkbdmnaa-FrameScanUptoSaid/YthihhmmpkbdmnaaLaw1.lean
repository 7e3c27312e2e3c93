/- The statements on numbers of a few bytes: the walks through their own text. -/
import Derived.Test.YthihhmmpkbdmnaaApart
import Derived.Test.YthihhmmpkbdmnaaRead
namespace Go.Proofs.Ythihhmmpkbdmnaa
open Go.RowKit Go.Lg

theorem lit_rd (w : World) (l : List UInt8) (cs : Array Value) (h : cs.toList = bts l) : Rd (w.alloc (.cells cs 5)) (w.heap.size + 1) 1 (some ⟨w.heap.size, 0, none⟩) l.length (bts l) := by
  have hs : cs.size = l.length * 1 := by rw [← Array.length_toList, h]; simp
  rw [← h]
  exact Rd.lit w cs 5 (0, 0) l.length hs

theorem read_at (A : Option Addr) (n c B : Nat) (l : List UInt8) (a b d : Nat) (w : World) (h : Rd w B 1 A n (bts l)) (hn : n ≤ 9223372036854775807) (hd : Vi.dec 0 0 l = (a, b, d)) :
    Calls Try.prog 22 #[.slice A n c] w fun e w' => e = .returned (.tuple #[.int .u64 a, .int .i64 b, .int .i64 d]) ∧ w = w' :=
  (read_any A n c B l w h hn).mono fun e w' ⟨h1, h2⟩ => ⟨by rw [h1, hd]; rfl, h2⟩

theorem enc300 : Vi.enc 300 = [172, 2] := by decide +kernel
theorem encMax : (Vi.enc 18446744073709551615).length = 10 := by decide +kernel

theorem append300 (w : World) : Calls Try.prog 14 #[.slice none 0 0, .int .u64 300] w (Fresh w [172, 2]) := by
  have h := append_any none 0 0 [] 300 w Rd.nil_ (by omega) (by decide)
  rwa [List.nil_append, enc300] at h
theorem sizeMax (w : World) : Calls Try.prog 18 #[.int .u64 18446744073709551615] w fun e w' => e = .returned (.int .i64 10) ∧ w = w' :=
  (size_any 18446744073709551615 w (by decide)).mono fun e w' ⟨h1, h2⟩ => ⟨by rw [h1, encMax]; rfl, h2⟩

set_option maxHeartbeats 400000 in
set_option maxRecDepth 100000 in
theorem lives_any (w : World) : Calls Try.prog 15 #[] w fun e w' => e = .returned (.bool true) ∧ Below w.heap.size w w' := by
  have hr := lit_rd w [172, 2, 9] #[.int .u8 172, .int .u8 2, .int .u8 9] rfl
  go_enter Try.func15, Try.ntmps15
  go_wp2_with fail
  refine (read_at _ 3 _ _ [172, 2, 9] 300 2 0 _ hr (by omega) (by decide +kernel)).mono ?_
  rintro e w1 ⟨rfl, rfl⟩
  go_wp2_with fail
  refine (append300 _).mono ?_
  rintro e w2 ⟨v, rfl, hown, hb⟩
  obtain ⟨A1, c1, rfl, h3, h4⟩ := owned_slice hown
  have hrd := Rd.of_own hown
  have hl2 := lit_rd w2 [172, 2] #[.int .u8 172, .int .u8 2] rfl
  have hb2 : Below w.heap.size w w2 := ((Below.refl _ _).alloc (Nat.le_refl _) _).trans (hb.mono (by simp))
  have hs2 := hb2.size
  clear hr hown hb
  go_wp2_with fail
  refine (same_self _ _ 2 _ _ _ _ _ [172, 2] _ (hrd.alloc (Nat.le_refl _) _) hl2 (by decide) (by decide)).mono ?_
  rintro e w3 ⟨rfl, d, rfl⟩
  go_wp2_with fail
  refine (sizeMax _).mono ?_
  rintro e w4 ⟨rfl, rfl⟩
  go_wp2_with fail
  go_ret
  exact ⟨rfl, below_drewN (hb2.alloc hs2 _) d⟩
theorem kept_self (A A' : Option Addr) (n c n' c' : Nat) (l : List UInt8) (w : World) (h : Rd w w.heap.size 1 A n (bts (lent l))) (h' : Rd w w.heap.size 1 A' n' (bts l)) (hn : n ≤ 9223372036854775807) (hn' : n' ≤ 140737488354000) :
    Calls Try.prog 20 #[.slice A n c, .slice A' n' c'] w fun e w' => e = .returned (.bool true) ∧ Below w.heap.size w w' :=
  (kept_any A A' n c n' c' (lent l) l w h h' hn hn').mono fun e w' ⟨h1, h2⟩ => ⟨by rw [h1, decide_eq_true rfl], h2⟩

theorem lent_length (l : List UInt8) : (lent l).length = l.length + 3 := by simp [lent, spare]
theorem lent_take (l : List UInt8) (n : Nat) (h : l.length = n) : (bts (lent l)).take (n * 1) = bts l := by
  rw [Nat.mul_one, bts_take, ← h]; simp [lent]

theorem append_as (A : Option Addr) (n c : Nat) (l r : List UInt8) (x : Nat) (w : World) (hr : r = l ++ Vi.enc x) (h : Rd w w.heap.size 1 A n (bts l)) (hn : n ≤ 140737488354000) (hx : x < 2 ^ 64) :
    Calls Try.prog 14 #[.slice A n c, .int .u64 x] w (Fresh w r) := hr ▸ append_any A n c l x w h hn hx
theorem refAppend_as (A : Option Addr) (n c : Nat) (l r : List UInt8) (x : Nat) (w : World) (hr : r = l ++ Vi.enc x) (h : Rd w w.heap.size 1 A n (bts l)) (hn : n ≤ 140737488354000) (hx : x < 2 ^ 64) :
    Calls Try.prog 17 #[.slice A n c, .int .u64 x] w (Fresh w r) := hr ▸ refAppend_any A n c l x w h hn hx

theorem apart_of_pairs {vs : List Value} (h : vs.Pairwise fun a b => ∀ g, a.ownBlock = some g → b.ownBlock ≠ some g) :
    ∀ (i j : Nat) vi vj, vs[i]? = some vi → vs[j]? = some vj → i ≠ j → ∀ g, vi.ownBlock = some g → vj.ownBlock ≠ some g := by
  intro i j vi vj hi hj hne g hg hg'
  obtain ⟨hi1, rfl⟩ := List.getElem?_eq_some_iff.1 hi
  obtain ⟨hj1, rfl⟩ := List.getElem?_eq_some_iff.1 hj
  rcases Nat.lt_or_gt_of_ne hne with hlt | hlt
  · exact List.pairwise_iff_getElem.1 h i j hi1 hj1 hlt g hg hg'
  · exact List.pairwise_iff_getElem.1 h j i hj1 hi1 hlt g hg' hg

/-- Two rows of which one was made behind the other. -/
theorem apart_made {w w' : World} {b b' : Nat} {e e' : TypeId} {sz sz' n n' : Nat} {v v' : Value} {xs xs' : List Value} (h : w.ownsRow b e sz v n xs) (h' : w'.ownsRow b' e' sz' v' n' xs') (hlt : w.heap.size ≤ b') :
    (∀ g, v.ownBlock = some g → v'.ownBlock ≠ some g) ∧ (∀ g, v'.ownBlock = some g → v.ownBlock ≠ some g) :=
  ⟨fun g hg hg' => by have := (h.lt g hg).2; have := (h'.lt g hg').1; omega, fun g hg hg' => by have := (h.lt g hg').2; have := (h'.lt g hg).1; omega⟩

theorem pairs3 {a b c : Value} {R : Value → Value → Prop} (h1 : R a b) (h2 : R a c) (h3 : R b c) : [a, b, c].Pairwise R := by
  simp [h1, h2, h3]
theorem rows3 {Q : Value → List UInt8 → Prop} {a b c : Value} {la lb lc : List UInt8} (h1 : Q a la) (h2 : Q b lb) (h3 : Q c lc) :
    ∀ (i : Nat) v l, [a, b, c][i]? = some v → [la, lb, lc][i]? = some l → Q v l := by
  intro i v l hv hl
  match i, hv, hl with
  | 0, hv, hl => simp at hv hl; subst hv hl; exact h1
  | 1, hv, hl => simp at hv hl; subst hv hl; exact h2
  | 2, hv, hl => simp at hv hl; subst hv hl; exact h3
  | i + 3, hv, _ => simp at hv

set_option maxHeartbeats 400000 in
set_option maxRecDepth 100000 in
theorem appends_walk (A : Option Addr) (n c : Nat) (l : List UInt8) (x : Nat) (w : World) (h : Rd w w.heap.size 1 A n (bts l)) (hn : n ≤ 140737488353000) (hx : x < 2 ^ 64) :
    Calls Try.prog 3 #[.slice A n c, .int .u64 x] w fun e w' => e = .returned (.bool true) ∧ Below w.heap.size w w' := by
  have hl := h.1
  rw [bts_length, Nat.mul_one] at hl
  have hll := lent_length l
  have HL := hid hl
  have HX := hid hx
  have hge : n ≤ (lent l).length := by omega
  have hle : (lent l).length ≤ 140737488354000 := by omega
  obtain ⟨ax, hax⟩ : ∃ ax, ax = l ++ Vi.enc x := ⟨_, rfl⟩
  have hae : ax.length ≤ 140737488354000 := by
    rw [hax]
    have := Vi.encF_len_le 9 x
    unfold Vi.enc
    rw [List.length_append]; omega
  have HAX := hid hax
  clear hl hx hll hax
  have hsz : (((Vi.enc x).length : Int) == ((Vi.enc x).length : Int)) = true := by simp
  go_enter Try.func3, Try.ntmps3
  go_wp2_with fail
  refine (lent_any A n c l w h (by omega)).mono ?_
  rintro e w1 ⟨f, rfl, hf, hb1⟩
  obtain ⟨A1, c1, rfl, h3, h4⟩ := owned_slice hf
  have hrf := Rd.of_own hf
  have hrt := hrf.take hge
  rw [lent_take l n HL.out] at hrt
  have HF := hid hf
  clear hf
  go_wp2_with fail
  refine (append_as A1 n c1 l ax x w1 HAX.out hrt (by omega) HX.out).mono ?_
  rintro e w2 ⟨a, rfl, ha, hb2⟩
  obtain ⟨A2, c2, rfl, h5, h6⟩ := owned_slice ha
  have hrt2 := (hrt.below hb2).more hb2.size
  have hra := Rd.of_own ha
  have HA := hid ha
  clear ha hrt
  go_wp2_with fail
  refine (append_as A1 n c1 l ax x w2 HAX.out hrt2 (by omega) HX.out).mono ?_
  rintro e w3 ⟨b, rfl, hbb, hb3⟩
  obtain ⟨A3, c3, rfl, h7, h8⟩ := owned_slice hbb
  have HB := hid hbb
  clear hbb hrt2
  go_wp2_with fail
  refine (lives_any w3).mono ?_
  rintro e w4 ⟨rfl, hb4⟩
  have b14 := hb1.trans ((hb2.mono hb1.size).trans ((hb3.mono (Nat.le_trans hb1.size hb2.size)).trans (hb4.mono (Nat.le_trans (Nat.le_trans hb1.size hb2.size) hb3.size))))
  go_wp2_with fail
  refine (refAppend_as A n c l ax x w4 HAX.out ((h.below b14).more b14.size) (by omega) HX.out).mono ?_
  rintro e w5 ⟨r, rfl, hr, hb5⟩
  obtain ⟨A5, c5, rfl, h9, h10⟩ := owned_slice hr
  have hrr := Rd.of_own hr
  clear hr
  have b25 := (hb3.trans (hb4.mono hb3.size)).trans (hb5.mono (Nat.le_trans hb3.size hb4.size))
  go_wp2_with fail
  refine (same_self _ _ _ _ _ _ _ _ ax w5 (hra.below b25) hrr (by omega) (by omega)).mono ?_
  rintro e w6 ⟨rfl, d, rfl⟩
  clear hra hrr
  go_wp2_with fail
  refine (size_any x _ HX.out).mono ?_
  rintro e w7 ⟨rfl, rfl⟩
  go_wp2_with fail
  refine (refSize_any x _ HX.out).mono ?_
  rintro e w7 ⟨rfl, rfl⟩
  go_wp2_with fail
  have b56 := below_drewN hb5 d
  have b47 := hb4.trans (b56.mono hb4.size)
  have b37 := hb3.trans (b47.mono hb3.size)
  have b27 := hb2.trans (b37.mono hb2.size)
  have b17 := hb1.trans (b27.mono hb1.size)
  have hrf6 : Rd (w5.drewN d) (w5.drewN d).heap.size 1 A1 (lent l).length (bts (lent l)) := (hrf.below b27).more b27.size
  have hr6 : Rd (w5.drewN d) (w5.drewN d).heap.size 1 A n (bts l) := (h.below b17).more b17.size
  refine (kept_self _ _ _ _ _ _ l _ hrf6 hr6 (by omega) (by omega)).mono ?_
  rintro e w7 ⟨rfl, hb7⟩
  have c47 := b47.trans (hb7.mono b47.size)
  have c37 := b37.trans (hb7.mono b37.size)
  have c27 := b27.trans (hb7.mono b27.size)
  have c17 := b17.trans (hb7.mono b17.size)
  have hf7 := owned_later HF.out c27
  have ha7 := owned_less (owned_later HA.out c37) hb1.size
  have hb7' := owned_less (owned_later HB.out c47) (Nat.le_trans hb1.size hb2.size)
  have p1 := apart_made HF.out HA.out (Nat.le_refl _)
  have p2 := apart_made HF.out HB.out hb2.size
  have p3 := apart_made HA.out HB.out (Nat.le_refl _)
  have HP1 := hid p1
  have HP2 := hid p2
  have HP3 := hid p3
  have HF7 := hid hf7
  have HA7 := hid ha7
  have HB7 := hid hb7'
  have hs17 := c17.size
  clear p1 p2 p3 hf7 ha7 hb7' hrf6 hr6 hrf
  go_wp2_with fail
  refine (apart_any w.heap.size 3 3 _ [_, _, _] [ax, ax, lent l] _ (Rd.lit0 (sz := 1) w7 _ 22 3 rfl) (by omega) rfl ?_ (rows3 (HA7.out.alloc _) (HB7.out.alloc _) (HF7.out.alloc _)) (apart_of_pairs (pairs3 HP3.out.1 HP1.out.2 HP2.out.2)) ?_ (by simp; omega)).mono ?_
  · intro q hq
    simp at hq
    rcases hq with rfl | rfl <;> omega
  · intro q off hq v hv hv2
    simp at hq
    simp at hv
    rcases hv with rfl | rfl | rfl
    · have := (HA7.out.lt q hv2).2; omega
    · have := (HB7.out.lt q hv2).2; omega
    · have := (HF7.out.lt q hv2).2; omega
  · rintro e w8 ⟨rfl, hb8⟩
    go_wp2_with fail
    go_ret
    exact ⟨rfl, (c17.alloc hs17 _).trans hb8⟩
end Go.Proofs.Ythihhmmpkbdmnaa
