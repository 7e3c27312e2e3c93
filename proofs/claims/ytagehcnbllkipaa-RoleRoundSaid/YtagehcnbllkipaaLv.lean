/- The chapter's first examples hold. -/
import Derived.Test.YtagehcnbllkipaaRf
import Derived.Test.YtagehcnbllkipaaTl
namespace Go.Proofs.Ytagehcnbllkipaa
open Go.RowKit Go.Lg
set_option linter.unusedVariables false
set_option linter.unusedSimpArgs false

set_option maxHeartbeats 4000000 in
set_option maxRecDepth 100000 in
theorem lives14 (w : World) : Calls Try.prog 14 #[] w (Yes w) := by
  have h7 : ∀ w, Calls Try.prog 7 #[(Pg.mk 1 2 0 0 0 0).v, .int .i64 8] w (Gives (⟨2, 1, 8, 0, 0, 0⟩, 0) w) := fun w => by
    have h := promote7 ⟨1, 2, 0, 0, 0, 0⟩ 8 w
    rwa [show promote ⟨1, 2, 0, 0, 0, 0⟩ 8 = (⟨2, 1, 8, 0, 0, 0⟩, 0) by decide] at h
  have h13 : ∀ w, Calls Try.prog 13 #[(Pg.mk 1 1 5 0 0 0).v, .int .i64 2] w (Gives3 (⟨2, 3, 0, 1, 0, 0⟩, true, 0) w) := fun w => by
    have h := hear13 ⟨1, 1, 5, 0, 0, 0⟩ 2 w
    rwa [show hear ⟨1, 1, 5, 0, 0, 0⟩ 2 = (⟨2, 3, 0, 1, 0, 0⟩, true, 0) by decide] at h
  have hs1 := same12_yes ⟨2, 1, 8, 0, 0, 0⟩
  have hs2 := same12_yes ⟨2, 3, 0, 1, 0, 0⟩
  go_enter Try.func14, Try.ntmps14
  go_wp2_with (go_at_call 7; refine stop_ (fun Ps hPs => ?_))
  refine hPs ?_
  clear hPs Ps
  refine (h7 _).mono ?_
  clear h7
  rintro e w1 ⟨rfl, hbn⟩
  have hb := hbn
  clear hbn
  go_wp2_with (go_at_call 13; refine stop_ (fun Ps hPs => ?_))
  refine hPs ?_
  clear hPs Ps
  have kp := Blk.new w1 25 #[.int .i64 2, .int .u8 1, .int .i64 8, .int .u8 0, .int .i64 0, .int .i64 0]
  have lep := hb.size
  have hb := hb.alloc hb.size (.cells #[.int .i64 2, .int .u8 1, .int .i64 8, .int .u8 0, .int .i64 0, .int .i64 0] 25)
  generalize hBp : w1.heap.size = bp at *
  clear hBp
  generalize hW : World.alloc w1 _ = w2 at *
  clear hW
  refine (h13 _).mono ?_
  clear h13
  rintro e w3 ⟨rfl, hbn⟩
  have kp := kp.later hbn
  have hb := bl_trans hb hbn hb.size
  clear hbn
  have jp := kp.alloc (.cells #[.int .i64 2, .int .u8 3, .int .i64 0, .int .u8 1, .int .i64 0, .int .i64 0] 25)
  obtain ⟨⟨pc0, pc1, pc2, pc3, pc4, pc5⟩, pf0, pf1, pf2, pf3, pf4, pf5⟩ := page_cells jp
  clear jp
  go_wp2_with (go_at_call 12; refine stop_ (fun Ps hPs => ?_))
  refine hPs ?_
  clear hPs Ps
  clear pc0 pf0 pc1 pf1 pc2 pf2 pc3 pf3 pc4 pf4 pc5 pf5
  have kq := Blk.new w3 25 #[.int .i64 2, .int .u8 3, .int .i64 0, .int .u8 1, .int .i64 0, .int .i64 0]
  have npq : bp ≠ w3.heap.size := Nat.ne_of_lt kp.lt
  have kp := kp.alloc (.cells #[.int .i64 2, .int .u8 3, .int .i64 0, .int .u8 1, .int .i64 0, .int .i64 0] 25)
  have leq := hb.size
  have hb := hb.alloc hb.size (.cells #[.int .i64 2, .int .u8 3, .int .i64 0, .int .u8 1, .int .i64 0, .int .i64 0] 25)
  generalize hBq : w3.heap.size = bq at *
  clear hBq
  generalize hW : World.alloc w3 _ = w4 at *
  clear hW
  refine (hs1 _).mono ?_
  clear hs1
  rintro e w5 ⟨rfl, hbn⟩
  have kp := kp.later hbn
  have kq := kq.later hbn
  have hb := bl_trans hb hbn hb.size
  clear hbn
  obtain ⟨⟨qc0, qc1, qc2, qc3, qc4, qc5⟩, qf0, qf1, qf2, qf3, qf4, qf5⟩ := page_cells kq
  go_wp2_with (go_at_call 12; refine stop_ (fun Ps hPs => ?_))
  refine hPs ?_
  clear hPs Ps
  clear qc0 qf0 qc1 qf1 qc2 qf2 qc3 qf3 qc4 qf4 qc5 qf5
  refine (hs2 _).mono ?_
  clear hs2
  rintro e w6 ⟨rfl, hbn⟩
  have kp := kp.later hbn
  have kq := kq.later hbn
  have hb := bl_trans hb hbn hb.size
  clear hbn
  go_wp2_with fail
  go_ret
  exact ⟨rfl, hb⟩
end Go.Proofs.Ytagehcnbllkipaa
