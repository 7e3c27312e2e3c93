/- The worked examples of the chapter on transactions come out as they are written: the walk. -/
import Derived.Test.YtlbekgephjlffaaKi
namespace Go.Proofs.Ytlbekgephjlffaa
open Go.RowKit Go.Lg
set_option linter.unusedVariables false
set_option linter.unusedSimpArgs false

theorem u1 : undoE false [opA, opD] ((1 : Nat) : Int) = 0 := undoE_ok (by decide)
theorem u1o : undoO false [opA, opD] ((1 : Nat) : Int) = [opA] := undoO_ok u1
theorem u2 : undoE false [opA] 2 = 2 := undoE_bad (.inr (by decide))
theorem u2o : undoO false [opA] 2 = [opA] := undoO_ne (by rw [u2]; decide)
theorem g1 : getR false sA [opA] = (s1, true, true) := by
  show told (last sA ([] ++ [opA])) = _
  rw [last_hit (by simp)]
  rfl
/-- A row in memory of its own stays while a call turns a txn that lay ahead of it. -/
theorem owned_left {rf : Bool} {B z base : Nat} {sv : Value} {o' : Bool} {os' : List Op3} {w w' : World} {e : TypeId} {sz n : Nat} {v : Value} {xs : List Value} (hv : w.ownsRow base e sz v n xs) (hl : Left rf B z sv o' os' w w')
    (hz : ∀ g, v.ownBlock = some g → g ≠ z) (hs : ∀ g, v.ownBlock = some g → sv.ownBlock ≠ some g) : w'.ownsRow base e sz v n xs := by
  obtain ⟨sv', h1, h2, h3⟩ := hl
  exact owned_two hv h2 (fun g hg => ⟨hz g hg, hs g hg⟩)
set_option maxRecDepth 100000 in
set_option maxHeartbeats 8000000 in
theorem names4 (w : World) : Calls Try.prog 4 #[] w (Yes w) := by
  obtain ⟨B, hB⟩ : ∃ B, B = w.heap.size := ⟨_, rfl⟩
  have HBE := hid hB
  have hBe : B ≤ w.heap.size := Nat.le_of_eq hB
  clear hB
  go_enter Try.func4, Try.ntmps4
  go_wp2_with (go_at_call 8; refine stop_ (fun Ps hPs => ?_))
  refine hPs ?_
  clear hPs Ps
  refine (lives8 w).mono ?_
  rintro e w0 ⟨rfl, hb⟩
  have hs0 := Nat.le_trans hBe hb.size
  have hb := hb.mono hBe
  go_wp2_with (go_at_call 9; refine stop_ (fun Ps hPs => ?_))
  refine hPs ?_
  clear hPs Ps
  refine (begin9 (B := B) hs0).mono ?_
  rintro e w1 ⟨rfl, h1, hbn⟩
  have hb := hb.trans (hbn.mono hs0)
  clear hbn
  obtain ⟨z, hz⟩ : ∃ z, z = w0.heap.size := ⟨_, rfl⟩
  rw [← hz] at h1 ⊢
  clear hz hs0
  go_wp2_with (go_at_call 10; refine stop_ (fun Ps hPs => ?_))
  refine hPs ?_
  clear hPs Ps
  have ha := put10 h1 sA s1
  rw [e1, o1] at ha
  refine ha.mono ?_
  clear ha
  rintro e w2 ⟨rfl, hl⟩
  have hb := hb.trans (hl.below h1)
  obtain ⟨sv2, h2, _, _⟩ := hl
  clear h1
  go_wp2_with (go_at_call 12; refine stop_ (fun Ps hPs => ?_))
  refine hPs ?_
  clear hPs Ps
  have ha := delete12 h2 sA
  rw [e2, o2] at ha
  refine ha.mono ?_
  clear ha
  rintro e w3 ⟨rfl, hl⟩
  have hb := hb.trans (hl.below h2)
  obtain ⟨sv3, h3, _, _⟩ := hl
  clear h2
  go_wp2_with (go_at_call 13; refine stop_ (fun Ps hPs => ?_))
  refine hPs ?_
  clear hPs Ps
  have ha := undo13 h3 ((1 : Nat) : Int)
  rw [u1, u1o] at ha
  refine ha.mono ?_
  clear ha
  rintro e w4 ⟨rfl, hl⟩
  have hb := hb.trans (hl.below h3)
  obtain ⟨sv4, h4, _, _⟩ := hl
  clear h3
  go_wp2_with (go_at_call 17; refine stop_ (fun Ps hPs => ?_))
  refine hPs ?_
  clear hPs Ps
  have ha := get17 h4 sA
  rw [g1] at ha
  refine ha.mono ?_
  clear ha
  rintro e w5 ⟨rfl, hbn⟩
  have h5 := h4.later hbn
  have hb := hb.trans (hbn.mono h4.leB)
  clear h4 hbn
  go_wp2_with (go_at_call 13; refine stop_ (fun Ps hPs => ?_))
  refine hPs ?_
  clear hPs Ps
  have ha := undo13 h5 2
  rw [u2, u2o] at ha
  refine ha.mono ?_
  clear ha
  rintro e w6 ⟨rfl, hl⟩
  have hb := hb.trans (hl.below h5)
  obtain ⟨sv6, h6, _, _⟩ := hl
  clear h5
  go_wp2_with (go_at_call 14; refine stop_ (fun Ps hPs => ?_))
  refine hPs ?_
  clear hPs Ps
  have ha : Calls Try.prog 14 #[P z] w6 (Dones false B z sv6 0 [opA] true [] w6) := done14 h6
  refine ha.mono ?_
  clear ha
  rintro e w7 ⟨v7, rfl, hv7, hl⟩
  have hb := hb.trans (hl.left.below h6)
  have hzl := h6.blk.lt
  have hbs := h6.leB
  obtain ⟨sv7, ⟨h7, ht7, hn7⟩, hv7s⟩ := hl
  have hv7z : ∀ g, v7.ownBlock = some g → g ≠ z := fun g hg => by have := (hv7.lt g hg).1; omega
  have hv7 := owned_less hv7 hbs
  clear h6 ht7 hn7 hbs
  go_wp2_with (go_at_call 14; refine stop_ (fun Ps hPs => ?_))
  refine hPs ?_
  clear hPs Ps
  have ha : Calls Try.prog 14 #[P z] w7 (Dones false B z sv7 6 [] true [] w7) := done14 h7
  refine ha.mono ?_
  clear ha
  rintro e w8 ⟨v8, rfl, _, hl⟩
  have hl := hl.left
  have hb := hb.trans (hl.below h7)
  have hv8 := owned_left hv7 hl hv7z hv7s
  have hv8l : ∀ g, v7.ownBlock = some g → g < w8.heap.size := fun g hg => (hv8.lt g hg).2
  obtain ⟨sv8, h8, _, _⟩ := hl
  clear h7 hv7 hv7z hv7s
  have hzl8 := h8.blk.lt
  go_wp2_with (go_at_call 9; refine stop_ (fun Ps hPs => ?_))
  refine hPs ?_
  clear hPs Ps
  refine (begin9 (B := B) h8.leB).mono ?_
  rintro e w9 ⟨rfl, k9, hbn⟩
  have hb := hb.trans (hbn.mono h8.leB)
  have hv9 := owned_later hv8 hbn
  have h9 := h8.later hbn
  have hsv8 : ∀ g, sv8.ownBlock = some g → g < w8.heap.size := fun g hg => (h8.own.lt g hg).2
  clear hbn h8 hv8
  obtain ⟨z', hz'⟩ : ∃ z', z' = w8.heap.size := ⟨_, rfl⟩
  rw [← hz'] at k9 hv8l hzl8 hsv8 ⊢
  clear hz'
  go_wp2_with (go_at_call 14; refine stop_ (fun Ps hPs => ?_))
  refine hPs ?_
  clear hPs Ps
  have ha : Calls Try.prog 14 #[P z'] w9 (Dones false B z' (.slice none 0 0) 2 [] false [] w9) := done14 k9
  refine ha.mono ?_
  clear ha
  rintro e w10 ⟨v10, rfl, _, hl⟩
  have hl := hl.left
  have hb := hb.trans (hl.below k9)
  have hv10 := owned_left hv9 hl (fun g hg => by have := hv8l g hg; omega) (fun g hg hg2 => by cases hg2)
  have h10 : TX false w10 B z true sv8 [] := by
    obtain ⟨sv', q1, q2, q3⟩ := hl
    exact h9.two q2 (by omega) (fun b hb => by cases hb) (fun g hg => ⟨by have := hsv8 g hg; omega, fun h => by cases h⟩)
  clear h9 k9 hl hv9 hv8l hsv8 hzl8
  obtain ⟨A7, c7, rfl, hc1, hc2⟩ := owned_slice hv10
  have hos := Rd.of_own hv10
  clear hv10 hzl
  have q5 : (s1.toList == s1.toList) = true := by simp
  have HB := hid hb
  clear hb
  go_wp2_with (go_at_call 15; refine stop_ (fun Ps hPs => ?_))
  refine hPs ?_
  clear hPs Ps
  have k1 := Rd.lit w10 #[.bool true, .string sA, .string s1] 43 (0, 0) (sz := 3) 1 rfl
  refine (same15 A7 (some ⟨w10.heap.size, 0, none⟩) 1 c7 1 w10.heap.size (w10.heap.size + 1) [opA] (w10.alloc (.cells #[.bool true, .string sA, .string s1] 43)) ⟨hos.alloc (Nat.le_refl _) _, rfl⟩ ⟨k1, rfl⟩ (by decide)).mono ?_
  rintro e w11 ⟨rfl, d, hd⟩
  have hbn : Below w10.heap.size w10 w11 := by rw [hd]; exact below_drewN ((Below.refl _ _).alloc (Nat.le_refl _) _) d
  have h11 := h10.later hbn
  have hb := HB.out.trans (hbn.mono h10.leB)
  clear h10 hbn hos k1 hd HB
  go_wp2_with (go_at_call 10; refine stop_ (fun Ps hPs => ?_))
  refine hPs ?_
  clear hPs Ps
  have ha : Calls Try.prog 10 #[P z, .string ⟨#[98]⟩, .string ⟨#[50]⟩] w11 (Acts false B z sv8 6 true [] w11) := put10 h11 ⟨#[98]⟩ ⟨#[50]⟩
  refine ha.mono ?_
  clear ha
  rintro e w12 ⟨rfl, hl⟩
  have hb := hb.trans (hl.below h11)
  obtain ⟨sv12, h12, _, _⟩ := hl
  clear h11
  go_wp2_with (go_at_call 18; refine stop_ (fun Ps hPs => ?_))
  refine hPs ?_
  clear hPs Ps
  have ha : Calls Try.prog 18 #[P z] w12 (Acts false B z sv12 6 true [] w12) := drop18 h12
  refine ha.mono ?_
  clear ha
  rintro e w13 ⟨rfl, hl⟩
  have hb := hb.trans (hl.below h12)
  clear h12 hl
  rw [HBE.out] at hb
  go_wp2_with fail
  go_ret
  exact ⟨by simp, hb⟩
end Go.Proofs.Ytlbekgephjlffaa
