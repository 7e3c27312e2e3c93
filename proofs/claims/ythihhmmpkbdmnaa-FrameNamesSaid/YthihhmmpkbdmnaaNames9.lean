/- The statement FrameNames: the walk through its own text. -/
import Derived.Test.YthihhmmpkbdmnaaCalls9
namespace Go.Proofs.Ythihhmmpkbdmnaa
open Go.RowKit Go.Lg
set_option linter.unusedVariables false
set_option linter.unusedSimpArgs false

theorem made_zero (n : Nat) : (madeCells (Value.int .u8 0).cells (n * 1)).toList = bts (List.replicate n 0) := by
  apply List.ext_getElem
  · simp [madeCells, bts]
  · intro i h1 h2
    simp [madeCells, bts, Value.cells, Nat.mod_one]

theorem n9a : frd9 [2, 97, 98, 9] = ([97, 98], 3, 0) := by decide +kernel
theorem n9b : frd9 [2, 97] = ([], 0, 5) := by decide +kernel
theorem n9c : frd9 [128] = ([], 0, 5) := by decide +kernel
theorem n9d : Vi.scan [0, 0, 0] = ([[], [], []], 3) := by decide +kernel
theorem n9e : app9 [] (List.replicate 131073 0) = ([], 3) := by unfold app9; rw [if_pos (by rw [List.length_replicate]; decide)]
theorem n9f : ([7] ++ Vi.fr (List.replicate 131072 0)).length = 131076 := by
  rw [List.length_append, Vi.fr, List.length_append, List.length_replicate]
  have : (Vi.enc 131072).length = 3 := by decide +kernel
  rw [this]
  rfl

set_option maxHeartbeats 800000 in
set_option maxRecDepth 100000 in
theorem names9_walk (w : World) : Calls Try.prog 8 #[] w fun e w' => e = .returned (.bool true) ∧ Below w.heap.size w w' := by
  have kc := fun (w : World) (C : Array Value) (n c : Nat) => Lib.run_convert_bytes_const (P := Try.prog) w 22 5 C n c Try.underlying22 Try.underlying5
  obtain ⟨big7, hbig⟩ : ∃ b, b = List.replicate 131072 (0 : UInt8) := ⟨_, rfl⟩
  obtain ⟨out, hout⟩ : ∃ b, b = [7] ++ Vi.fr big7 := ⟨_, rfl⟩
  have hlen : out.length = 131076 := by rw [hout, hbig]; exact n9f
  have HBIG := hid hbig
  have HOUT := hid hout
  have HLEN := hid hlen
  obtain ⟨i0, hi, hz, hs1, hs2⟩ := info_parts Try.info5
  have l1 := lit_rd w [2, 97, 98, 9] #[.int .u8 2, .int .u8 97, .int .u8 98, .int .u8 9] rfl
  clear hout hlen hbig
  go_enter Try.func8, Try.ntmps8
  go_wp2_with fail
  refine (fRead_all _ 4 4 [2, 97, 98, 9] _ _ _ _ (by simpa using l1) (by decide) (by decide) (by decide) n9a).mono ?_
  rintro e w1 ⟨v1, rfl, hv1, hb1'⟩
  have hb1 : Below w.heap.size w w1 := ((Below.refl _ _).alloc (Nat.le_refl _) _).trans (hb1'.mono (by simp))
  obtain ⟨A1, c1, rfl, h3, h4⟩ := owned_slice hv1
  have hr1 := Rd.of_own hv1
  have l2 := lit_rd w1 [2, 97] #[.int .u8 2, .int .u8 97] rfl
  clear l1 hv1 hb1'
  go_wp2_with fail
  refine (fRead_all _ 2 2 [2, 97] _ _ _ _ (by simpa using l2) (by decide) (by decide) (by decide) n9b).mono ?_
  rintro e w2 ⟨v2, rfl, hv2, hb2'⟩
  have hb2 : Below w1.heap.size w1 w2 := ((Below.refl _ _).alloc (Nat.le_refl _) _).trans (hb2'.mono (by simp))
  have l3 := lit_rd w2 [128] #[.int .u8 128] rfl
  clear l2 hv2 hb2'
  go_wp2_with fail
  refine (fRead_all _ 1 1 [128] _ _ _ _ (by simpa using l3) (by decide) (by decide) (by decide) n9c).mono ?_
  rintro e w3 ⟨v3, rfl, hv3, hb3'⟩
  have hb3 : Below w2.heap.size w2 w3 := ((Below.refl _ _).alloc (Nat.le_refl _) _).trans (hb3'.mono (by simp))
  have l4 := lit_rd w3 [0, 0, 0] #[.int .u8 0, .int .u8 0, .int .u8 0] rfl
  clear l3 hv3 hb3'
  go_wp2_with fail
  refine (scan_as _ 3 3 [0, 0, 0] _ _ n9d (by simpa using l4) (by decide) (by decide) (by decide)).mono ?_
  rintro e w4 ⟨v4, vs, rfl, hrec, hb4'⟩
  have hb4 : Below w3.heap.size w3 w4 := ((Below.refl _ _).alloc (Nat.le_refl _) _).trans (hb4'.mono (by simp))
  obtain ⟨A4, c4, rfl, _, _⟩ := owned_slice hrec.out
  have b14 := bst (bst hb2 hb3) hb4
  have b04 := bst hb1 b14
  have hr4 := (hr1.below b14).more b14.size
  clear l4 hrec hb4' hr1
  go_wp2_with (at_make; refine stop_ (fun Ps hPs => ?_))
  refine hPs ?_
  clear hPs Ps
  refine wpList_make_full _ rfl _ _ 22 rfl w4.heap.size 5 i0 _ 1 T22.ht hi hz hs1 .i64 .i64 131073 131073 131073 rfl rfl rfl rfl (by rw [hs2]; decide) (by decide) (Nat.le_refl _) fun w5 hw5 hg5 => ?_
  have hb5 : Below w4.heap.size w4 w5 := (Below.refl _ _).grown hg5 (Nat.le_refl _) (by intro k hk; cases hk)
  rw [made_zero] at hw5
  have hr5 := Rd.of_own hw5
  clear hw5 hg5
  go_wp2_with fail
  refine (fAppend_long none _ 0 0 131073 131073 w5 (by decide) (by decide)).mono ?_
  rintro e w6 ⟨rfl, rfl⟩
  clear hr5
  have l7 := lit_rd w5 [7] #[.int .u8 7] rfl
  go_wp2_with (at_make; refine stop_ (fun Ps hPs => ?_))
  refine hPs ?_
  clear hPs Ps
  refine wpList_make_full _ rfl _ _ 22 rfl (w5.heap.size + 1) 5 i0 _ 1 T22.ht hi hz hs1 .i64 .i64 131072 131072 131072 rfl rfl rfl rfl (by rw [hs2]; decide) (by decide) (by simp) fun w7 hw7 hg7 => ?_
  have hb6' : Below w5.heap.size w5 (w5.alloc (.cells #[.int .u8 7] 5)) := (Below.refl _ _).alloc (Nat.le_refl _) _
  have hb7 : Below w5.heap.size w5 w7 := hb6'.grown hg7 (by simp) (by intro k hk; cases hk)
  have l7' : Rd w7 (w5.heap.size + 1) 1 (some ⟨w5.heap.size, 0, none⟩) 1 (bts [7]) := Rd.grown l7 hg7 (by simp) (by intro g hg; cases hg)
  rw [made_zero] at hw7
  have hs7 : w5.heap.size + 1 ≤ w7.heap.size := by have := hg7.size; simp at this; omega
  simp only [World.size_alloc] at hw7
  have hr7 := Rd.of_own hw7
  clear hw7 hg7 l7
  rw [← HBIG.out] at hr7
  go_wp2_with fail
  refine (fAppend_any _ _ 1 1 131072 131072 [7] big7 out w7 (l7'.more hs7) hr7 (by decide) (Nat.le_refl _) HOUT.out).mono ?_
  rintro e w8 ⟨v8, rfl, hv8, hb8⟩
  obtain ⟨A8, c8, hv8e, _, _⟩ := owned_slice hv8
  rw [HLEN.out] at hv8e
  subst hv8e
  have b48 := bst (bst hb5 hb7) hb8
  have b08 := bst b04 b48
  have hr8 := (hr4.below b48).more b48.size
  clear hv8 l7' hr7 hr4
  go_wp2_with fail
  refine (lives9_any w8).mono ?_
  rintro e w9 ⟨rfl, hb9⟩
  have b09 := bst b08 hb9
  have hr9 := (hr8.below hb9).more hb9.size
  have hab := Rd.lit (sz := 1) w9 #[.int .u8 97, .int .u8 98] 5 (2, 3) 2 rfl
  rw [show (#[Value.int .u8 97, Value.int .u8 98] : Array Value).toList = bts [97, 98] from rfl] at hab
  clear hr8
  go_wp2_with fail
  refine (same_self _ _ 2 _ 2 2 _ _ [97, 98] _ (hr9.alloc (Nat.le_refl _) _) hab (by decide) (by decide)).mono ?_
  rintro e w10 ⟨rfl, d, rfl⟩
  go_wp2_with fail
  go_ret
  exact ⟨rfl, below_drewN (b09.alloc b09.size _) d⟩
end Go.Proofs.Ythihhmmpkbdmnaa
