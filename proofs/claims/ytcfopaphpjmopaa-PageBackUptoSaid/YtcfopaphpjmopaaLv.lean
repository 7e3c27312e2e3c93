/- The chapter's first examples hold. -/
import Derived.Test.YtcfopaphpjmopaaLast
namespace Go.Proofs.Ytcfopaphpjmopaa
open Go.RowKit Go.Lg
set_option linter.unusedVariables false
set_option linter.unusedSimpArgs false

theorem ex_enc : encP ⟨3, 1, 7, 0, 0, 0⟩ = [3, 1, 7, 0, 0, 0] := by decide +kernel
theorem ex_ok : Ok ⟨3, 1, 7, 0, 0, 0⟩ := by decide
theorem ex_last : lastP ⟨1, 1, 0, 0, 0, 0⟩ [6, 2, 1, 4, 0, 0, 0, 6, 2] = (⟨2, 1, 4, 0, 0, 0⟩, 7) := by decide +kernel

set_option maxHeartbeats 4000000 in
set_option maxRecDepth 100000 in
theorem lives12 (w : World) : Calls Try.prog 12 #[] w (Yes w) := by
  have he := fun w => encode14_ok ex_ok w
  rw [ex_enc] at he
  go_enter Try.func12, Try.ntmps12
  go_wp2_with (go_at_call 14; refine stop_ (fun Ps hPs => ?_))
  refine hPs ?_
  clear hPs Ps
  refine (he _).mono ?_
  clear he
  rintro e w1 ⟨v, rfl, ho, hb⟩
  obtain ⟨A, c, rfl, g1, g2⟩ := owned_slice ho
  go_wp2_with (go_at_call 11; refine stop_ (fun Ps hPs => ?_))
  refine hPs ?_
  clear hPs Ps
  have r9 := lit_rd w1 [6, 2, 1, 4, 0, 0, 0, 6, 2] #[.int .u8 6, .int .u8 2, .int .u8 1, .int .u8 4, .int .u8 0, .int .u8 0, .int .u8 0, .int .u8 6, .int .u8 2] rfl
  have hsz : w1.heap.size + 1 = (w1.alloc (.cells #[.int .u8 6, .int .u8 2, .int .u8 1, .int .u8 4, .int .u8 0, .int .u8 0, .int .u8 0, .int .u8 6, .int .u8 2] 5)).heap.size := by simp
  rw [hsz] at r9
  have ho := ho.alloc (.cells #[.int .u8 6, .int .u8 2, .int .u8 1, .int .u8 4, .int .u8 0, .int .u8 0, .int .u8 0, .int .u8 6, .int .u8 2] 5)
  have hb := hb.alloc hb.size (.cells #[.int .u8 6, .int .u8 2, .int .u8 1, .int .u8 4, .int .u8 0, .int .u8 0, .int .u8 0, .int .u8 6, .int .u8 2] 5)
  have hl := last11 (some ⟨w1.heap.size, 0, none⟩) 9 9 0 1 1 0 0 0 0 [6, 2, 1, 4, 0, 0, 0, 6, 2] _ r9 (by decide) (by decide) (by decide) (by decide)
  rw [ex_last] at hl
  clear hsz r9
  refine hl.mono ?_
  clear hl
  rintro e w2 ⟨rfl, hb2⟩
  have ho := owned_later ho hb2
  have hb := bl_trans hb hb2 hb.size
  clear hb2
  have hs2 := same12_yes ⟨2, 1, 4, 0, 0, 0⟩
  go_wp2_with (go_at_call 18; refine stop_ (fun Ps hPs => ?_))
  refine hPs ?_
  clear hPs Ps
  have ho := (ho.alloc (.cells #[.int .i64 2, .int .u8 1, .int .i64 4, .int .u8 0, .int .i64 0, .int .i64 0] 25)).alloc (.cells #[.int .u8 3, .int .u8 1, .int .u8 7, .int .u8 0, .int .u8 0, .int .u8 0] 5)
  have kp := (Blk.new w2 25 #[.int .i64 2, .int .u8 1, .int .i64 4, .int .u8 0, .int .i64 0, .int .i64 0]).alloc (.cells #[.int .u8 3, .int .u8 1, .int .u8 7, .int .u8 0, .int .u8 0, .int .u8 0] 5)
  have r6 := lit_rd (w2.alloc (.cells #[.int .i64 2, .int .u8 1, .int .i64 4, .int .u8 0, .int .i64 0, .int .i64 0] 25)) [3, 1, 7, 0, 0, 0] #[.int .u8 3, .int .u8 1, .int .u8 7, .int .u8 0, .int .u8 0, .int .u8 0] rfl
  rw [World.size_alloc] at r6
  have hb9 := hb.size
  have hb := (hb.alloc hb.size (.cells #[.int .i64 2, .int .u8 1, .int .i64 4, .int .u8 0, .int .i64 0, .int .i64 0] 25)).alloc (by simp; omega) (.cells #[.int .u8 3, .int .u8 1, .int .u8 7, .int .u8 0, .int .u8 0, .int .u8 0] 5)
  refine (same_self A (some ⟨w2.heap.size + 1, 0, none⟩) 6 c 6 6 _ _ [3, 1, 7, 0, 0, 0] _ (Rd.of_own ho) r6 (by decide) (by decide)).mono ?_
  rintro e w3 ⟨rfl, d, rfl⟩
  have kp := kp.drewN d
  have hb := below_drewN hb d
  clear ho r6
  obtain ⟨W, hW⟩ : ∃ W, W = ((w2.alloc (.cells #[.int .i64 2, .int .u8 1, .int .i64 4, .int .u8 0, .int .i64 0, .int .i64 0] 25)).alloc (.cells #[.int .u8 3, .int .u8 1, .int .u8 7, .int .u8 0, .int .u8 0, .int .u8 0] 5)).drewN d := ⟨_, rfl⟩
  rw [← hW] at kp hb ⊢
  clear hW
  obtain ⟨⟨pc0, pc1, pc2, pc3, pc4, pc5⟩, pf0, pf1, pf2, pf3, pf4, pf5⟩ := page_cells kp
  go_wp2_with (go_at_call 9; refine (hs2 _).mono ?_; clear hs2; rintro e w4 ⟨rfl, hb4⟩; have hb := bl_trans hb hb4 hb.size)
  go_ret
  exact ⟨rfl, hb⟩
end Go.Proofs.Ytcfopaphpjmopaa
