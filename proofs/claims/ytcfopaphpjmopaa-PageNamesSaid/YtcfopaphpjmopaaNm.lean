/- The worked examples on pages: the walk. -/
import Derived.Test.YtcfopaphpjmopaaLv
import Derived.Test.YtcfopaphpjmopaaLaw1
namespace Go.Proofs.Ytcfopaphpjmopaa
open Go.RowKit Go.Lg
set_option linter.unusedVariables false
set_option linter.unusedSimpArgs false

theorem d1 : decP [3, 2, 7, 0, 0, 0] = none := by decide +kernel
theorem d2 : decP [3, 3, 0, 1, 0, 0] = some ⟨3, 3, 0, 1, 0, 0⟩ := by decide +kernel
theorem d3 : decP [3, 3, 0, 2, 5, 9] = some ⟨3, 3, 0, 2, 5, 9⟩ := by decide +kernel
theorem last_none (w : World) : Calls Try.prog 11 #[.slice none 0 0, .int .i64 1] w (LastIs (⟨1, 2, 0, 0, 0, 0⟩, 0) w) := by
  have h := last11 none 0 0 1 1 2 0 0 0 0 [] w (by simpa [bts] using Rd.nil_) (by decide) (by decide) (by decide) (by decide)
  rwa [show lastP ⟨1, 2, 0, 0, 0, 0⟩ [] = (⟨1, 2, 0, 0, 0, 0⟩, 0) by decide +kernel] at h
set_option maxHeartbeats 16000000 in
set_option maxRecDepth 100000 in
theorem names3 (w : World) : Calls Try.prog 3 #[] w (Yes w) := by
  have h8a : ∀ w, Calls Try.prog 8 #[.int .i64 0] w (Gives (⟨1, 1, 0, 0, 0, 0⟩, 0) w) := fun w => first8 0 w
  have h8b : ∀ w, Calls Try.prog 8 #[.int .i64 1] w (Gives (⟨1, 2, 0, 0, 0, 0⟩, 0) w) := fun w => first8 1 w
  have h8c : ∀ w, Calls Try.prog 8 #[.int .i64 2] w (Gives (⟨0, 0, 0, 0, 0, 0⟩, 2) w) := fun w => first8 2 w
  have hs1 := same12_yes ⟨1, 1, 0, 0, 0, 0⟩
  have hs2 := same12_yes ⟨1, 2, 0, 0, 0, 0⟩
  have hs3 := same12_yes ⟨3, 3, 0, 1, 0, 0⟩
  have hs4 := same12_yes ⟨3, 3, 0, 2, 5, 9⟩
  have hs5 := same12_yes ⟨1, 2, 0, 0, 0, 0⟩
  have hlast := last_none
  have hl := lives12
  go_enter Try.func3, Try.ntmps3
  go_wp2_with (go_at_call 8; refine stop_ (fun Ps hPs => ?_))
  refine hPs ?_
  clear hPs Ps
  refine (h8a _).mono ?_
  clear h8a
  rintro e w1 ⟨rfl, hbn⟩
  have hb := hbn
  clear hbn
  go_wp2_with (go_at_call 8; refine stop_ (fun Ps hPs => ?_))
  refine hPs ?_
  clear hPs Ps
  have hz9 := World.size_alloc w1 (.cells #[.int .i64 1, .int .u8 1, .int .i64 0, .int .u8 0, .int .i64 0, .int .i64 0] 25)
  have ka := Blk.new w1 25 #[.int .i64 1, .int .u8 1, .int .i64 0, .int .u8 0, .int .i64 0, .int .i64 0]
  have lea := hb.size
  have hb := hb.alloc hb.size (.cells #[.int .i64 1, .int .u8 1, .int .i64 0, .int .u8 0, .int .i64 0, .int .i64 0] 25)
  generalize hBa : w1.heap.size = ba at *
  clear hBa
  generalize hW : World.alloc w1 _ = w2 at *
  clear hW
  clear hz9
  refine (h8b _).mono ?_
  clear h8b
  rintro e w3 ⟨rfl, hbn⟩
  have ka := ka.later hbn
  have hb := bl_trans hb hbn hb.size
  clear hbn
  go_wp2_with (go_at_call 8; refine stop_ (fun Ps hPs => ?_))
  refine hPs ?_
  clear hPs Ps
  have hz9 := World.size_alloc w3 (.cells #[.int .i64 1, .int .u8 2, .int .i64 0, .int .u8 0, .int .i64 0, .int .i64 0] 25)
  have kb := Blk.new w3 25 #[.int .i64 1, .int .u8 2, .int .i64 0, .int .u8 0, .int .i64 0, .int .i64 0]
  have nab : ba ≠ w3.heap.size := Nat.ne_of_lt ka.lt
  have ka := ka.alloc (.cells #[.int .i64 1, .int .u8 2, .int .i64 0, .int .u8 0, .int .i64 0, .int .i64 0] 25)
  have leb := hb.size
  have hb := hb.alloc hb.size (.cells #[.int .i64 1, .int .u8 2, .int .i64 0, .int .u8 0, .int .i64 0, .int .i64 0] 25)
  generalize hBb : w3.heap.size = bb at *
  clear hBb
  generalize hW : World.alloc w3 _ = w4 at *
  clear hW
  clear hz9
  refine (h8c _).mono ?_
  clear h8c
  rintro e w5 ⟨rfl, hbn⟩
  have ka := ka.later hbn
  have kb := kb.later hbn
  have hb := bl_trans hb hbn hb.size
  clear hbn
  have ja := ka.alloc (.cells #[.int .i64 0, .int .u8 0, .int .i64 0, .int .u8 0, .int .i64 0, .int .i64 0] 25)
  obtain ⟨⟨ac0, ac1, ac2, ac3, ac4, ac5⟩, af0, af1, af2, af3, af4, af5⟩ := page_cells ja
  clear ja
  go_wp2_with (go_at_call 9; refine stop_ (fun Ps hPs => ?_))
  refine hPs ?_
  clear hPs Ps
  have hz9 := World.size_alloc w5 (.cells #[.int .i64 0, .int .u8 0, .int .i64 0, .int .u8 0, .int .i64 0, .int .i64 0] 25)
  clear ac0 af0 ac1 af1 ac2 af2 ac3 af3 ac4 af4 ac5 af5
  have kc := Blk.new w5 25 #[.int .i64 0, .int .u8 0, .int .i64 0, .int .u8 0, .int .i64 0, .int .i64 0]
  have nac : ba ≠ w5.heap.size := Nat.ne_of_lt ka.lt
  have ka := ka.alloc (.cells #[.int .i64 0, .int .u8 0, .int .i64 0, .int .u8 0, .int .i64 0, .int .i64 0] 25)
  have nbc : bb ≠ w5.heap.size := Nat.ne_of_lt kb.lt
  have kb := kb.alloc (.cells #[.int .i64 0, .int .u8 0, .int .i64 0, .int .u8 0, .int .i64 0, .int .i64 0] 25)
  have lec := hb.size
  have hb := hb.alloc hb.size (.cells #[.int .i64 0, .int .u8 0, .int .i64 0, .int .u8 0, .int .i64 0, .int .i64 0] 25)
  generalize hBc : w5.heap.size = bc at *
  clear hBc
  generalize hW : World.alloc w5 _ = w6 at *
  clear hW
  clear hz9
  refine (hs1 _).mono ?_
  clear hs1
  rintro e w7 ⟨rfl, hbn⟩
  have ka := ka.later hbn
  have kb := kb.later hbn
  have kc := kc.later hbn
  have hb := bl_trans hb hbn hb.size
  clear hbn
  obtain ⟨⟨bc0, bc1, bc2, bc3, bc4, bc5⟩, bf0, bf1, bf2, bf3, bf4, bf5⟩ := page_cells kb
  go_wp2_with (go_at_call 9; refine stop_ (fun Ps hPs => ?_))
  refine hPs ?_
  clear hPs Ps
  clear bc0 bf0 bc1 bf1 bc2 bf2 bc3 bf3 bc4 bf4 bc5 bf5
  refine (hs2 _).mono ?_
  clear hs2
  rintro e w8 ⟨rfl, hbn⟩
  have ka := ka.later hbn
  have kb := kb.later hbn
  have kc := kc.later hbn
  have hb := bl_trans hb hbn hb.size
  clear hbn
  go_wp2_with (go_at_call 10; refine stop_ (fun Ps hPs => ?_))
  refine hPs ?_
  clear hPs Ps
  have r9 := lit_rd w8 [3, 2, 7, 0, 0, 0] #[.int .u8 3, .int .u8 2, .int .u8 7, .int .u8 0, .int .u8 0, .int .u8 0] rfl
  have hsz : w8.heap.size + 1 = (w8.alloc (.cells #[.int .u8 3, .int .u8 2, .int .u8 7, .int .u8 0, .int .u8 0, .int .u8 0] 5)).heap.size := by simp
  rw [hsz] at r9
  have hd := decode10 _ 6 6 [3, 2, 7, 0, 0, 0] _ r9 (by decide) (by decide) (by decide)
  rw [d1] at hd
  clear r9 hsz
  have ka := ka.alloc (.cells #[.int .u8 3, .int .u8 2, .int .u8 7, .int .u8 0, .int .u8 0, .int .u8 0] 5)
  have kb := kb.alloc (.cells #[.int .u8 3, .int .u8 2, .int .u8 7, .int .u8 0, .int .u8 0, .int .u8 0] 5)
  have kc := kc.alloc (.cells #[.int .u8 3, .int .u8 2, .int .u8 7, .int .u8 0, .int .u8 0, .int .u8 0] 5)
  have hb := hb.alloc hb.size (.cells #[.int .u8 3, .int .u8 2, .int .u8 7, .int .u8 0, .int .u8 0, .int .u8 0] 5)
  refine hd.mono ?_
  clear hd
  rintro e w9 ⟨rfl, hbn⟩
  have ka := ka.later hbn
  have kb := kb.later hbn
  have kc := kc.later hbn
  have hb := bl_trans hb hbn hb.size
  clear hbn
  go_wp2_with (go_at_call 10; refine stop_ (fun Ps hPs => ?_))
  refine hPs ?_
  clear hPs Ps
  have r9 := lit_rd w9 [3, 3, 0, 1, 0, 0] #[.int .u8 3, .int .u8 3, .int .u8 0, .int .u8 1, .int .u8 0, .int .u8 0] rfl
  have hsz : w9.heap.size + 1 = (w9.alloc (.cells #[.int .u8 3, .int .u8 3, .int .u8 0, .int .u8 1, .int .u8 0, .int .u8 0] 5)).heap.size := by simp
  rw [hsz] at r9
  have hd := decode10 _ 6 6 [3, 3, 0, 1, 0, 0] _ r9 (by decide) (by decide) (by decide)
  rw [d2] at hd
  clear r9 hsz
  have ka := ka.alloc (.cells #[.int .u8 3, .int .u8 3, .int .u8 0, .int .u8 1, .int .u8 0, .int .u8 0] 5)
  have kb := kb.alloc (.cells #[.int .u8 3, .int .u8 3, .int .u8 0, .int .u8 1, .int .u8 0, .int .u8 0] 5)
  have kc := kc.alloc (.cells #[.int .u8 3, .int .u8 3, .int .u8 0, .int .u8 1, .int .u8 0, .int .u8 0] 5)
  have hb := hb.alloc hb.size (.cells #[.int .u8 3, .int .u8 3, .int .u8 0, .int .u8 1, .int .u8 0, .int .u8 0] 5)
  refine hd.mono ?_
  clear hd
  rintro e w10 ⟨rfl, hbn⟩
  have ka := ka.later hbn
  have kb := kb.later hbn
  have kc := kc.later hbn
  have hb := bl_trans hb hbn hb.size
  clear hbn
  go_wp2_with (go_at_call 10; refine stop_ (fun Ps hPs => ?_))
  refine hPs ?_
  clear hPs Ps
  have hz9 := World.size_alloc w10 (.cells #[.int .i64 3, .int .u8 3, .int .i64 0, .int .u8 1, .int .i64 0, .int .i64 0] 25)
  have kd := Blk.new w10 25 #[.int .i64 3, .int .u8 3, .int .i64 0, .int .u8 1, .int .i64 0, .int .i64 0]
  have nad : ba ≠ w10.heap.size := Nat.ne_of_lt ka.lt
  have ka := ka.alloc (.cells #[.int .i64 3, .int .u8 3, .int .i64 0, .int .u8 1, .int .i64 0, .int .i64 0] 25)
  have nbd : bb ≠ w10.heap.size := Nat.ne_of_lt kb.lt
  have kb := kb.alloc (.cells #[.int .i64 3, .int .u8 3, .int .i64 0, .int .u8 1, .int .i64 0, .int .i64 0] 25)
  have ncd : bc ≠ w10.heap.size := Nat.ne_of_lt kc.lt
  have kc := kc.alloc (.cells #[.int .i64 3, .int .u8 3, .int .i64 0, .int .u8 1, .int .i64 0, .int .i64 0] 25)
  have led := hb.size
  have hb := hb.alloc hb.size (.cells #[.int .i64 3, .int .u8 3, .int .i64 0, .int .u8 1, .int .i64 0, .int .i64 0] 25)
  generalize hBd : w10.heap.size = bd at *
  clear hBd
  generalize hW : World.alloc w10 _ = w11 at *
  clear hW
  have r9 := lit_rd w11 [3, 3, 0, 2, 5, 9] #[.int .u8 3, .int .u8 3, .int .u8 0, .int .u8 2, .int .u8 5, .int .u8 9] rfl
  have hsz : w11.heap.size + 1 = (w11.alloc (.cells #[.int .u8 3, .int .u8 3, .int .u8 0, .int .u8 2, .int .u8 5, .int .u8 9] 5)).heap.size := by simp
  rw [hsz] at r9
  rw [hz9] at r9
  have hd := decode10 _ 6 6 [3, 3, 0, 2, 5, 9] _ r9 (by decide) (by decide) (by decide)
  rw [d3] at hd
  clear r9 hsz
  have ka := ka.alloc (.cells #[.int .u8 3, .int .u8 3, .int .u8 0, .int .u8 2, .int .u8 5, .int .u8 9] 5)
  have kb := kb.alloc (.cells #[.int .u8 3, .int .u8 3, .int .u8 0, .int .u8 2, .int .u8 5, .int .u8 9] 5)
  have kc := kc.alloc (.cells #[.int .u8 3, .int .u8 3, .int .u8 0, .int .u8 2, .int .u8 5, .int .u8 9] 5)
  have kd := kd.alloc (.cells #[.int .u8 3, .int .u8 3, .int .u8 0, .int .u8 2, .int .u8 5, .int .u8 9] 5)
  have hb := hb.alloc hb.size (.cells #[.int .u8 3, .int .u8 3, .int .u8 0, .int .u8 2, .int .u8 5, .int .u8 9] 5)
  refine hd.mono ?_
  clear hd
  rintro e w12 ⟨rfl, hbn⟩
  have ka := ka.later hbn
  have kb := kb.later hbn
  have kc := kc.later hbn
  have kd := kd.later hbn
  have hb := bl_trans hb hbn hb.size
  clear hbn
  have jd := kd.alloc (.cells #[.int .i64 3, .int .u8 3, .int .i64 0, .int .u8 2, .int .i64 5, .int .i64 9] 25)
  obtain ⟨⟨dc0, dc1, dc2, dc3, dc4, dc5⟩, df0, df1, df2, df3, df4, df5⟩ := page_cells jd
  clear jd
  clear hz9
  go_wp2_with (go_at_call 9; refine stop_ (fun Ps hPs => ?_))
  refine hPs ?_
  clear hPs Ps
  have hz9 := World.size_alloc w12 (.cells #[.int .i64 3, .int .u8 3, .int .i64 0, .int .u8 2, .int .i64 5, .int .i64 9] 25)
  clear dc0 df0 dc1 df1 dc2 df2 dc3 df3 dc4 df4 dc5 df5
  have ke := Blk.new w12 25 #[.int .i64 3, .int .u8 3, .int .i64 0, .int .u8 2, .int .i64 5, .int .i64 9]
  have nae : ba ≠ w12.heap.size := Nat.ne_of_lt ka.lt
  have ka := ka.alloc (.cells #[.int .i64 3, .int .u8 3, .int .i64 0, .int .u8 2, .int .i64 5, .int .i64 9] 25)
  have nbe : bb ≠ w12.heap.size := Nat.ne_of_lt kb.lt
  have kb := kb.alloc (.cells #[.int .i64 3, .int .u8 3, .int .i64 0, .int .u8 2, .int .i64 5, .int .i64 9] 25)
  have nce : bc ≠ w12.heap.size := Nat.ne_of_lt kc.lt
  have kc := kc.alloc (.cells #[.int .i64 3, .int .u8 3, .int .i64 0, .int .u8 2, .int .i64 5, .int .i64 9] 25)
  have nde : bd ≠ w12.heap.size := Nat.ne_of_lt kd.lt
  have kd := kd.alloc (.cells #[.int .i64 3, .int .u8 3, .int .i64 0, .int .u8 2, .int .i64 5, .int .i64 9] 25)
  have lee := hb.size
  have hb := hb.alloc hb.size (.cells #[.int .i64 3, .int .u8 3, .int .i64 0, .int .u8 2, .int .i64 5, .int .i64 9] 25)
  generalize hBe : w12.heap.size = be at *
  clear hBe
  generalize hW : World.alloc w12 _ = w13 at *
  clear hW
  clear hz9
  refine (hs3 _).mono ?_
  clear hs3
  rintro e w14 ⟨rfl, hbn⟩
  have ka := ka.later hbn
  have kb := kb.later hbn
  have kc := kc.later hbn
  have kd := kd.later hbn
  have ke := ke.later hbn
  have hb := bl_trans hb hbn hb.size
  clear hbn
  obtain ⟨⟨ec0, ec1, ec2, ec3, ec4, ec5⟩, ef0, ef1, ef2, ef3, ef4, ef5⟩ := page_cells ke
  go_wp2_with (go_at_call 9; refine stop_ (fun Ps hPs => ?_))
  refine hPs ?_
  clear hPs Ps
  clear ec0 ef0 ec1 ef1 ec2 ef2 ec3 ef3 ec4 ef4 ec5 ef5
  refine (hs4 _).mono ?_
  clear hs4
  rintro e w15 ⟨rfl, hbn⟩
  have ka := ka.later hbn
  have kb := kb.later hbn
  have kc := kc.later hbn
  have kd := kd.later hbn
  have ke := ke.later hbn
  have hb := bl_trans hb hbn hb.size
  clear hbn
  go_wp2_with (go_at_call 11; refine stop_ (fun Ps hPs => ?_))
  refine hPs ?_
  clear hPs Ps
  refine (hlast _).mono ?_
  clear hlast
  rintro e w16 ⟨rfl, hbn⟩
  have ka := ka.later hbn
  have kb := kb.later hbn
  have kc := kc.later hbn
  have kd := kd.later hbn
  have ke := ke.later hbn
  have hb := bl_trans hb hbn hb.size
  clear hbn
  go_wp2_with (go_at_call 12; refine stop_ (fun Ps hPs => ?_))
  refine hPs ?_
  clear hPs Ps
  have hz9 := World.size_alloc w16 (.cells #[.int .i64 1, .int .u8 2, .int .i64 0, .int .u8 0, .int .i64 0, .int .i64 0] 25)
  have kf := Blk.new w16 25 #[.int .i64 1, .int .u8 2, .int .i64 0, .int .u8 0, .int .i64 0, .int .i64 0]
  have naf : ba ≠ w16.heap.size := Nat.ne_of_lt ka.lt
  have ka := ka.alloc (.cells #[.int .i64 1, .int .u8 2, .int .i64 0, .int .u8 0, .int .i64 0, .int .i64 0] 25)
  have nbf : bb ≠ w16.heap.size := Nat.ne_of_lt kb.lt
  have kb := kb.alloc (.cells #[.int .i64 1, .int .u8 2, .int .i64 0, .int .u8 0, .int .i64 0, .int .i64 0] 25)
  have ncf : bc ≠ w16.heap.size := Nat.ne_of_lt kc.lt
  have kc := kc.alloc (.cells #[.int .i64 1, .int .u8 2, .int .i64 0, .int .u8 0, .int .i64 0, .int .i64 0] 25)
  have ndf : bd ≠ w16.heap.size := Nat.ne_of_lt kd.lt
  have kd := kd.alloc (.cells #[.int .i64 1, .int .u8 2, .int .i64 0, .int .u8 0, .int .i64 0, .int .i64 0] 25)
  have nef : be ≠ w16.heap.size := Nat.ne_of_lt ke.lt
  have ke := ke.alloc (.cells #[.int .i64 1, .int .u8 2, .int .i64 0, .int .u8 0, .int .i64 0, .int .i64 0] 25)
  have lef := hb.size
  have hb := hb.alloc hb.size (.cells #[.int .i64 1, .int .u8 2, .int .i64 0, .int .u8 0, .int .i64 0, .int .i64 0] 25)
  generalize hBf : w16.heap.size = bf at *
  clear hBf
  generalize hW : World.alloc w16 _ = w17 at *
  clear hW
  clear hz9
  refine (hl _).mono ?_
  clear hl
  rintro e w18 ⟨rfl, hbn⟩
  have ka := ka.later hbn
  have kb := kb.later hbn
  have kc := kc.later hbn
  have kd := kd.later hbn
  have ke := ke.later hbn
  have kf := kf.later hbn
  have hb := bl_trans hb hbn hb.size
  clear hbn
  obtain ⟨⟨fc0, fc1, fc2, fc3, fc4, fc5⟩, ff0, ff1, ff2, ff3, ff4, ff5⟩ := page_cells kf
  obtain ⟨⟨bc0, bc1, bc2, bc3, bc4, bc5⟩, bf0, bf1, bf2, bf3, bf4, bf5⟩ := page_cells kb
  go_wp2_with (go_at_call 9; refine stop_ (fun Ps hPs => ?_))
  refine hPs ?_
  clear hPs Ps
  clear bc0 bf0 bc1 bf1 bc2 bf2 bc3 bf3 bc4 bf4 bc5 bf5
  clear fc0 ff0 fc1 ff1 fc2 ff2 fc3 ff3 fc4 ff4 fc5 ff5
  refine (hs5 _).mono ?_
  clear hs5
  rintro e w19 ⟨rfl, hbn⟩
  have ka := ka.later hbn
  have kb := kb.later hbn
  have kc := kc.later hbn
  have kd := kd.later hbn
  have ke := ke.later hbn
  have kf := kf.later hbn
  have hb := bl_trans hb hbn hb.size
  clear hbn
  go_wp2_with fail
  go_ret
  exact ⟨rfl, hb⟩
end Go.Proofs.Ytcfopaphpjmopaa
