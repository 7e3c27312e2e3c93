/- The worked examples on roles. -/
import Derived.Test.YtagehcnbllkipaaLv
namespace Go.Proofs.Ytagehcnbllkipaa
open Go.RowKit Go.Lg
set_option linter.unusedVariables false
set_option linter.unusedSimpArgs false

set_option maxHeartbeats 8000000 in
set_option maxRecDepth 100000 in
theorem names3 (w : World) : Calls Try.prog 3 #[] w (Yes w) := by
  have h7a : ∀ w, Calls Try.prog 7 #[(Pg.mk 1 1 0 0 0 0).v, .int .i64 8] w (Gives (⟨0, 0, 0, 0, 0, 0⟩, 10) w) := fun w => by
    have h := promote7 ⟨1, 1, 0, 0, 0, 0⟩ 8 w
    rwa [show promote ⟨1, 1, 0, 0, 0, 0⟩ 8 = (⟨0, 0, 0, 0, 0, 0⟩, 10) by decide] at h
  have h7b : ∀ w, Calls Try.prog 7 #[(Pg.mk 2 3 0 1 0 0).v, .int .i64 8] w (Gives (⟨0, 0, 0, 0, 0, 0⟩, 9) w) := fun w => by
    have h := promote7 ⟨2, 3, 0, 1, 0, 0⟩ 8 w
    rwa [show promote ⟨2, 3, 0, 1, 0, 0⟩ 8 = (⟨0, 0, 0, 0, 0, 0⟩, 9) by decide] at h
  have h8a : ∀ w, Calls Try.prog 8 #[(Pg.mk 2 3 0 1 0 0).v] w (Gives (⟨0, 0, 0, 0, 0, 0⟩, 15) w) := fun w => by
    have h := file8 ⟨2, 3, 0, 1, 0, 0⟩ w
    rwa [show step ⟨2, 3, 0, 1, 0, 0⟩ 2 = (⟨0, 0, 0, 0, 0, 0⟩, 15) by decide] at h
  have h9 : ∀ w, Calls Try.prog 9 #[(Pg.mk 2 3 0 1 0 0).v, .int .i64 8, .int .i64 0] w (Gives (⟨2, 3, 0, 2, 8, 0⟩, 0) w) := fun w => by
    have h := fork9 ⟨2, 3, 0, 1, 0, 0⟩ 8 0 w
    rwa [show fork ⟨2, 3, 0, 1, 0, 0⟩ 8 0 = (⟨2, 3, 0, 2, 8, 0⟩, 0) by decide] at h
  have h8b : ∀ w, Calls Try.prog 8 #[(Pg.mk 2 3 0 2 8 0).v] w (Gives (⟨2, 3, 0, 3, 8, 0⟩, 0) w) := fun w => by
    have h := file8 ⟨2, 3, 0, 2, 8, 0⟩ w
    rwa [show step ⟨2, 3, 0, 2, 8, 0⟩ 2 = (⟨2, 3, 0, 3, 8, 0⟩, 0) by decide] at h
  have h10 : ∀ w, Calls Try.prog 10 #[(Pg.mk 2 3 0 3 8 0).v] w (Gives (⟨2, 3, 0, 4, 8, 0⟩, 0) w) := fun w => by
    have h := cut10 ⟨2, 3, 0, 3, 8, 0⟩ w
    rwa [show step ⟨2, 3, 0, 3, 8, 0⟩ 3 = (⟨2, 3, 0, 4, 8, 0⟩, 0) by decide] at h
  have h11 : ∀ w, Calls Try.prog 11 #[(Pg.mk 2 3 0 4 8 0).v] w (Gives (⟨2, 2, 0, 0, 0, 0⟩, 0) w) := fun w => by
    have h := rejoin11 ⟨2, 3, 0, 4, 8, 0⟩ w
    rwa [show rejoin ⟨2, 3, 0, 4, 8, 0⟩ = (⟨2, 2, 0, 0, 0, 0⟩, 0) by decide] at h
  have h13 : ∀ w, Calls Try.prog 13 #[(Pg.mk 2 2 0 0 0 0).v, .int .i64 2] w (Gives3 (⟨2, 2, 0, 0, 0, 0⟩, false, 0) w) := fun w => by
    have h := hear13 ⟨2, 2, 0, 0, 0, 0⟩ 2 w
    rwa [show hear ⟨2, 2, 0, 0, 0, 0⟩ 2 = (⟨2, 2, 0, 0, 0, 0⟩, false, 0) by decide] at h
  have h15a : ∀ w, Calls Try.prog 15 #[(Pg.mk 2 2 0 0 0 0).v] w (Num 11 w) := fun w => by
    have h := writes15 ⟨2, 2, 0, 0, 0, 0⟩ w
    rwa [show writes ⟨2, 2, 0, 0, 0, 0⟩ = 11 by decide] at h
  have h15b : ∀ w, Calls Try.prog 15 #[(Pg.mk 2 3 0 1 0 0).v] w (Num 9 w) := fun w => by
    have h := writes15 ⟨2, 3, 0, 1, 0, 0⟩ w
    rwa [show writes ⟨2, 3, 0, 1, 0, 0⟩ = 9 by decide] at h
  have h16a : ∀ w, Calls Try.prog 16 #[(Pg.mk 2 3 0 1 0 0).v] w (Num 9 w) := fun w => by
    have h := reads16 ⟨2, 3, 0, 1, 0, 0⟩ w
    rwa [show reads ⟨2, 3, 0, 1, 0, 0⟩ = 9 by decide] at h
  have h16b : ∀ w, Calls Try.prog 16 #[(Pg.mk 2 2 0 0 0 0).v] w (Num 0 w) := fun w => by
    have h := reads16 ⟨2, 2, 0, 0, 0, 0⟩ w
    rwa [show reads ⟨2, 2, 0, 0, 0, 0⟩ = 0 by decide] at h
  have hs1 := same12_yes ⟨2, 2, 0, 0, 0, 0⟩
  have hs2 := same12_yes ⟨2, 3, 0, 2, 8, 0⟩
  have hs3 := same12_yes ⟨2, 2, 0, 0, 0, 0⟩
  have hl := lives14
  go_enter Try.func3, Try.ntmps3
  go_wp2_with (go_at_call 7; refine stop_ (fun Ps hPs => ?_))
  refine hPs ?_
  clear hPs Ps
  have kh := Blk.new w 25 #[.int .i64 2, .int .u8 3, .int .i64 0, .int .u8 1, .int .i64 0, .int .i64 0]
  have hb := (Below.refl w.heap.size w).alloc (Nat.le_refl _) (.cells #[.int .i64 2, .int .u8 3, .int .i64 0, .int .u8 1, .int .i64 0, .int .i64 0] 25)
  have leh := Nat.le_refl w.heap.size
  generalize hW : World.alloc w _ = w1 at *
  clear hW
  refine (h7a _).mono ?_
  clear h7a
  rintro e w2 ⟨rfl, hbn⟩
  have kh := kh.later hbn
  have hb := bl_trans hb hbn hb.size
  clear hbn
  have jh := kh.alloc (.cells #[.int .i64 0, .int .u8 0, .int .i64 0, .int .u8 0, .int .i64 0, .int .i64 0] 25)
  obtain ⟨⟨hc0, hc1, hc2, hc3, hc4, hc5⟩, hf0, hf1, hf2, hf3, hf4, hf5⟩ := page_cells jh
  clear jh
  go_wp2_with (go_at_call 7; refine stop_ (fun Ps hPs => ?_))
  refine hPs ?_
  clear hPs Ps
  clear hc0 hf0 hc1 hf1 hc2 hf2 hc3 hf3 hc4 hf4 hc5 hf5
  have ka := Blk.new w2 25 #[.int .i64 0, .int .u8 0, .int .i64 0, .int .u8 0, .int .i64 0, .int .i64 0]
  have nha : w.heap.size ≠ w2.heap.size := Nat.ne_of_lt kh.lt
  have kh := kh.alloc (.cells #[.int .i64 0, .int .u8 0, .int .i64 0, .int .u8 0, .int .i64 0, .int .i64 0] 25)
  have lea := hb.size
  have hb := hb.alloc hb.size (.cells #[.int .i64 0, .int .u8 0, .int .i64 0, .int .u8 0, .int .i64 0, .int .i64 0] 25)
  generalize hBa : w2.heap.size = ba at *
  clear hBa
  generalize hW : World.alloc w2 _ = w3 at *
  clear hW
  refine (h7b _).mono ?_
  clear h7b
  rintro e w4 ⟨rfl, hbn⟩
  have kh := kh.later hbn
  have ka := ka.later hbn
  have hb := bl_trans hb hbn hb.size
  clear hbn
  have jh := kh.alloc (.cells #[.int .i64 0, .int .u8 0, .int .i64 0, .int .u8 0, .int .i64 0, .int .i64 0] 25)
  obtain ⟨⟨hc0, hc1, hc2, hc3, hc4, hc5⟩, hf0, hf1, hf2, hf3, hf4, hf5⟩ := page_cells jh
  clear jh
  go_wp2_with (go_at_call 8; refine stop_ (fun Ps hPs => ?_))
  refine hPs ?_
  clear hPs Ps
  clear hc0 hf0 hc1 hf1 hc2 hf2 hc3 hf3 hc4 hf4 hc5 hf5
  have kb := Blk.new w4 25 #[.int .i64 0, .int .u8 0, .int .i64 0, .int .u8 0, .int .i64 0, .int .i64 0]
  have nhb : w.heap.size ≠ w4.heap.size := Nat.ne_of_lt kh.lt
  have kh := kh.alloc (.cells #[.int .i64 0, .int .u8 0, .int .i64 0, .int .u8 0, .int .i64 0, .int .i64 0] 25)
  have nab : ba ≠ w4.heap.size := Nat.ne_of_lt ka.lt
  have ka := ka.alloc (.cells #[.int .i64 0, .int .u8 0, .int .i64 0, .int .u8 0, .int .i64 0, .int .i64 0] 25)
  have leb := hb.size
  have hb := hb.alloc hb.size (.cells #[.int .i64 0, .int .u8 0, .int .i64 0, .int .u8 0, .int .i64 0, .int .i64 0] 25)
  generalize hBb : w4.heap.size = bb at *
  clear hBb
  generalize hW : World.alloc w4 _ = w5 at *
  clear hW
  refine (h8a _).mono ?_
  clear h8a
  rintro e w6 ⟨rfl, hbn⟩
  have kh := kh.later hbn
  have ka := ka.later hbn
  have kb := kb.later hbn
  have hb := bl_trans hb hbn hb.size
  clear hbn
  have jh := kh.alloc (.cells #[.int .i64 0, .int .u8 0, .int .i64 0, .int .u8 0, .int .i64 0, .int .i64 0] 25)
  obtain ⟨⟨hc0, hc1, hc2, hc3, hc4, hc5⟩, hf0, hf1, hf2, hf3, hf4, hf5⟩ := page_cells jh
  clear jh
  go_wp2_with (go_at_call 9; refine stop_ (fun Ps hPs => ?_))
  refine hPs ?_
  clear hPs Ps
  clear hc0 hf0 hc1 hf1 hc2 hf2 hc3 hf3 hc4 hf4 hc5 hf5
  have kc := Blk.new w6 25 #[.int .i64 0, .int .u8 0, .int .i64 0, .int .u8 0, .int .i64 0, .int .i64 0]
  have nhc : w.heap.size ≠ w6.heap.size := Nat.ne_of_lt kh.lt
  have kh := kh.alloc (.cells #[.int .i64 0, .int .u8 0, .int .i64 0, .int .u8 0, .int .i64 0, .int .i64 0] 25)
  have nac : ba ≠ w6.heap.size := Nat.ne_of_lt ka.lt
  have ka := ka.alloc (.cells #[.int .i64 0, .int .u8 0, .int .i64 0, .int .u8 0, .int .i64 0, .int .i64 0] 25)
  have nbc : bb ≠ w6.heap.size := Nat.ne_of_lt kb.lt
  have kb := kb.alloc (.cells #[.int .i64 0, .int .u8 0, .int .i64 0, .int .u8 0, .int .i64 0, .int .i64 0] 25)
  have lec := hb.size
  have hb := hb.alloc hb.size (.cells #[.int .i64 0, .int .u8 0, .int .i64 0, .int .u8 0, .int .i64 0, .int .i64 0] 25)
  generalize hBc : w6.heap.size = bc at *
  clear hBc
  generalize hW : World.alloc w6 _ = w7 at *
  clear hW
  refine (h9 _).mono ?_
  clear h9
  rintro e w8 ⟨rfl, hbn⟩
  have kh := kh.later hbn
  have ka := ka.later hbn
  have kb := kb.later hbn
  have kc := kc.later hbn
  have hb := bl_trans hb hbn hb.size
  clear hbn
  go_wp2_with (go_at_call 8; refine stop_ (fun Ps hPs => ?_))
  refine hPs ?_
  clear hPs Ps
  have kp := Blk.new w8 25 #[.int .i64 2, .int .u8 3, .int .i64 0, .int .u8 2, .int .i64 8, .int .i64 0]
  have nhp : w.heap.size ≠ w8.heap.size := Nat.ne_of_lt kh.lt
  have kh := kh.alloc (.cells #[.int .i64 2, .int .u8 3, .int .i64 0, .int .u8 2, .int .i64 8, .int .i64 0] 25)
  have nap : ba ≠ w8.heap.size := Nat.ne_of_lt ka.lt
  have ka := ka.alloc (.cells #[.int .i64 2, .int .u8 3, .int .i64 0, .int .u8 2, .int .i64 8, .int .i64 0] 25)
  have nbp : bb ≠ w8.heap.size := Nat.ne_of_lt kb.lt
  have kb := kb.alloc (.cells #[.int .i64 2, .int .u8 3, .int .i64 0, .int .u8 2, .int .i64 8, .int .i64 0] 25)
  have ncp : bc ≠ w8.heap.size := Nat.ne_of_lt kc.lt
  have kc := kc.alloc (.cells #[.int .i64 2, .int .u8 3, .int .i64 0, .int .u8 2, .int .i64 8, .int .i64 0] 25)
  have lep := hb.size
  have hb := hb.alloc hb.size (.cells #[.int .i64 2, .int .u8 3, .int .i64 0, .int .u8 2, .int .i64 8, .int .i64 0] 25)
  generalize hBp : w8.heap.size = bp at *
  clear hBp
  generalize hW : World.alloc w8 _ = w9 at *
  clear hW
  refine (h8b _).mono ?_
  clear h8b
  rintro e w10 ⟨rfl, hbn⟩
  have kh := kh.later hbn
  have ka := ka.later hbn
  have kb := kb.later hbn
  have kc := kc.later hbn
  have kp := kp.later hbn
  have hb := bl_trans hb hbn hb.size
  clear hbn
  go_wp2_with (go_at_call 10; refine stop_ (fun Ps hPs => ?_))
  refine hPs ?_
  clear hPs Ps
  have kq := Blk.new w10 25 #[.int .i64 2, .int .u8 3, .int .i64 0, .int .u8 3, .int .i64 8, .int .i64 0]
  have nhq : w.heap.size ≠ w10.heap.size := Nat.ne_of_lt kh.lt
  have kh := kh.alloc (.cells #[.int .i64 2, .int .u8 3, .int .i64 0, .int .u8 3, .int .i64 8, .int .i64 0] 25)
  have naq : ba ≠ w10.heap.size := Nat.ne_of_lt ka.lt
  have ka := ka.alloc (.cells #[.int .i64 2, .int .u8 3, .int .i64 0, .int .u8 3, .int .i64 8, .int .i64 0] 25)
  have nbq : bb ≠ w10.heap.size := Nat.ne_of_lt kb.lt
  have kb := kb.alloc (.cells #[.int .i64 2, .int .u8 3, .int .i64 0, .int .u8 3, .int .i64 8, .int .i64 0] 25)
  have ncq : bc ≠ w10.heap.size := Nat.ne_of_lt kc.lt
  have kc := kc.alloc (.cells #[.int .i64 2, .int .u8 3, .int .i64 0, .int .u8 3, .int .i64 8, .int .i64 0] 25)
  have npq : bp ≠ w10.heap.size := Nat.ne_of_lt kp.lt
  have kp := kp.alloc (.cells #[.int .i64 2, .int .u8 3, .int .i64 0, .int .u8 3, .int .i64 8, .int .i64 0] 25)
  have leq := hb.size
  have hb := hb.alloc hb.size (.cells #[.int .i64 2, .int .u8 3, .int .i64 0, .int .u8 3, .int .i64 8, .int .i64 0] 25)
  generalize hBq : w10.heap.size = bq at *
  clear hBq
  generalize hW : World.alloc w10 _ = w11 at *
  clear hW
  refine (h10 _).mono ?_
  clear h10
  rintro e w12 ⟨rfl, hbn⟩
  have kh := kh.later hbn
  have ka := ka.later hbn
  have kb := kb.later hbn
  have kc := kc.later hbn
  have kp := kp.later hbn
  have kq := kq.later hbn
  have hb := bl_trans hb hbn hb.size
  clear hbn
  go_wp2_with (go_at_call 11; refine stop_ (fun Ps hPs => ?_))
  refine hPs ?_
  clear hPs Ps
  have kr := Blk.new w12 25 #[.int .i64 2, .int .u8 3, .int .i64 0, .int .u8 4, .int .i64 8, .int .i64 0]
  have nhr : w.heap.size ≠ w12.heap.size := Nat.ne_of_lt kh.lt
  have kh := kh.alloc (.cells #[.int .i64 2, .int .u8 3, .int .i64 0, .int .u8 4, .int .i64 8, .int .i64 0] 25)
  have nar : ba ≠ w12.heap.size := Nat.ne_of_lt ka.lt
  have ka := ka.alloc (.cells #[.int .i64 2, .int .u8 3, .int .i64 0, .int .u8 4, .int .i64 8, .int .i64 0] 25)
  have nbr : bb ≠ w12.heap.size := Nat.ne_of_lt kb.lt
  have kb := kb.alloc (.cells #[.int .i64 2, .int .u8 3, .int .i64 0, .int .u8 4, .int .i64 8, .int .i64 0] 25)
  have ncr : bc ≠ w12.heap.size := Nat.ne_of_lt kc.lt
  have kc := kc.alloc (.cells #[.int .i64 2, .int .u8 3, .int .i64 0, .int .u8 4, .int .i64 8, .int .i64 0] 25)
  have npr : bp ≠ w12.heap.size := Nat.ne_of_lt kp.lt
  have kp := kp.alloc (.cells #[.int .i64 2, .int .u8 3, .int .i64 0, .int .u8 4, .int .i64 8, .int .i64 0] 25)
  have nqr : bq ≠ w12.heap.size := Nat.ne_of_lt kq.lt
  have kq := kq.alloc (.cells #[.int .i64 2, .int .u8 3, .int .i64 0, .int .u8 4, .int .i64 8, .int .i64 0] 25)
  have ler := hb.size
  have hb := hb.alloc hb.size (.cells #[.int .i64 2, .int .u8 3, .int .i64 0, .int .u8 4, .int .i64 8, .int .i64 0] 25)
  generalize hBr : w12.heap.size = br at *
  clear hBr
  generalize hW : World.alloc w12 _ = w13 at *
  clear hW
  refine (h11 _).mono ?_
  clear h11
  rintro e w14 ⟨rfl, hbn⟩
  have kh := kh.later hbn
  have ka := ka.later hbn
  have kb := kb.later hbn
  have kc := kc.later hbn
  have kp := kp.later hbn
  have kq := kq.later hbn
  have kr := kr.later hbn
  have hb := bl_trans hb hbn hb.size
  clear hbn
  go_wp2_with (go_at_call 12; refine stop_ (fun Ps hPs => ?_))
  refine hPs ?_
  clear hPs Ps
  have ks := Blk.new w14 25 #[.int .i64 2, .int .u8 2, .int .i64 0, .int .u8 0, .int .i64 0, .int .i64 0]
  have nhs : w.heap.size ≠ w14.heap.size := Nat.ne_of_lt kh.lt
  have kh := kh.alloc (.cells #[.int .i64 2, .int .u8 2, .int .i64 0, .int .u8 0, .int .i64 0, .int .i64 0] 25)
  have nas : ba ≠ w14.heap.size := Nat.ne_of_lt ka.lt
  have ka := ka.alloc (.cells #[.int .i64 2, .int .u8 2, .int .i64 0, .int .u8 0, .int .i64 0, .int .i64 0] 25)
  have nbs : bb ≠ w14.heap.size := Nat.ne_of_lt kb.lt
  have kb := kb.alloc (.cells #[.int .i64 2, .int .u8 2, .int .i64 0, .int .u8 0, .int .i64 0, .int .i64 0] 25)
  have ncs : bc ≠ w14.heap.size := Nat.ne_of_lt kc.lt
  have kc := kc.alloc (.cells #[.int .i64 2, .int .u8 2, .int .i64 0, .int .u8 0, .int .i64 0, .int .i64 0] 25)
  have nps : bp ≠ w14.heap.size := Nat.ne_of_lt kp.lt
  have kp := kp.alloc (.cells #[.int .i64 2, .int .u8 2, .int .i64 0, .int .u8 0, .int .i64 0, .int .i64 0] 25)
  have nqs : bq ≠ w14.heap.size := Nat.ne_of_lt kq.lt
  have kq := kq.alloc (.cells #[.int .i64 2, .int .u8 2, .int .i64 0, .int .u8 0, .int .i64 0, .int .i64 0] 25)
  have nrs : br ≠ w14.heap.size := Nat.ne_of_lt kr.lt
  have kr := kr.alloc (.cells #[.int .i64 2, .int .u8 2, .int .i64 0, .int .u8 0, .int .i64 0, .int .i64 0] 25)
  have les := hb.size
  have hb := hb.alloc hb.size (.cells #[.int .i64 2, .int .u8 2, .int .i64 0, .int .u8 0, .int .i64 0, .int .i64 0] 25)
  generalize hBs : w14.heap.size = bs at *
  clear hBs
  generalize hW : World.alloc w14 _ = w15 at *
  clear hW
  refine (hs1 _).mono ?_
  clear hs1
  rintro e w16 ⟨rfl, hbn⟩
  have kh := kh.later hbn
  have ka := ka.later hbn
  have kb := kb.later hbn
  have kc := kc.later hbn
  have kp := kp.later hbn
  have kq := kq.later hbn
  have kr := kr.later hbn
  have ks := ks.later hbn
  have hb := bl_trans hb hbn hb.size
  clear hbn
  obtain ⟨⟨pc0, pc1, pc2, pc3, pc4, pc5⟩, pf0, pf1, pf2, pf3, pf4, pf5⟩ := page_cells kp
  go_wp2_with (go_at_call 12; refine stop_ (fun Ps hPs => ?_))
  refine hPs ?_
  clear hPs Ps
  clear pc0 pf0 pc1 pf1 pc2 pf2 pc3 pf3 pc4 pf4 pc5 pf5
  refine (hs2 _).mono ?_
  clear hs2
  rintro e w17 ⟨rfl, hbn⟩
  have kh := kh.later hbn
  have ka := ka.later hbn
  have kb := kb.later hbn
  have kc := kc.later hbn
  have kp := kp.later hbn
  have kq := kq.later hbn
  have kr := kr.later hbn
  have ks := ks.later hbn
  have hb := bl_trans hb hbn hb.size
  clear hbn
  obtain ⟨⟨sc0, sc1, sc2, sc3, sc4, sc5⟩, sf0, sf1, sf2, sf3, sf4, sf5⟩ := page_cells ks
  go_wp2_with (go_at_call 13; refine stop_ (fun Ps hPs => ?_))
  refine hPs ?_
  clear hPs Ps
  clear sc0 sf0 sc1 sf1 sc2 sf2 sc3 sf3 sc4 sf4 sc5 sf5
  refine (h13 _).mono ?_
  clear h13
  rintro e w18 ⟨rfl, hbn⟩
  have kh := kh.later hbn
  have ka := ka.later hbn
  have kb := kb.later hbn
  have kc := kc.later hbn
  have kp := kp.later hbn
  have kq := kq.later hbn
  have kr := kr.later hbn
  have ks := ks.later hbn
  have hb := bl_trans hb hbn hb.size
  clear hbn
  have js := ks.alloc (.cells #[.int .i64 2, .int .u8 2, .int .i64 0, .int .u8 0, .int .i64 0, .int .i64 0] 25)
  obtain ⟨⟨sc0, sc1, sc2, sc3, sc4, sc5⟩, sf0, sf1, sf2, sf3, sf4, sf5⟩ := page_cells js
  clear js
  go_wp2_with (go_at_call 14; refine stop_ (fun Ps hPs => ?_))
  refine hPs ?_
  clear hPs Ps
  clear sc0 sf0 sc1 sf1 sc2 sf2 sc3 sf3 sc4 sf4 sc5 sf5
  have kx := Blk.new w18 25 #[.int .i64 2, .int .u8 2, .int .i64 0, .int .u8 0, .int .i64 0, .int .i64 0]
  have nhx : w.heap.size ≠ w18.heap.size := Nat.ne_of_lt kh.lt
  have kh := kh.alloc (.cells #[.int .i64 2, .int .u8 2, .int .i64 0, .int .u8 0, .int .i64 0, .int .i64 0] 25)
  have nax : ba ≠ w18.heap.size := Nat.ne_of_lt ka.lt
  have ka := ka.alloc (.cells #[.int .i64 2, .int .u8 2, .int .i64 0, .int .u8 0, .int .i64 0, .int .i64 0] 25)
  have nbx : bb ≠ w18.heap.size := Nat.ne_of_lt kb.lt
  have kb := kb.alloc (.cells #[.int .i64 2, .int .u8 2, .int .i64 0, .int .u8 0, .int .i64 0, .int .i64 0] 25)
  have ncx : bc ≠ w18.heap.size := Nat.ne_of_lt kc.lt
  have kc := kc.alloc (.cells #[.int .i64 2, .int .u8 2, .int .i64 0, .int .u8 0, .int .i64 0, .int .i64 0] 25)
  have npx : bp ≠ w18.heap.size := Nat.ne_of_lt kp.lt
  have kp := kp.alloc (.cells #[.int .i64 2, .int .u8 2, .int .i64 0, .int .u8 0, .int .i64 0, .int .i64 0] 25)
  have nqx : bq ≠ w18.heap.size := Nat.ne_of_lt kq.lt
  have kq := kq.alloc (.cells #[.int .i64 2, .int .u8 2, .int .i64 0, .int .u8 0, .int .i64 0, .int .i64 0] 25)
  have nrx : br ≠ w18.heap.size := Nat.ne_of_lt kr.lt
  have kr := kr.alloc (.cells #[.int .i64 2, .int .u8 2, .int .i64 0, .int .u8 0, .int .i64 0, .int .i64 0] 25)
  have nsx : bs ≠ w18.heap.size := Nat.ne_of_lt ks.lt
  have ks := ks.alloc (.cells #[.int .i64 2, .int .u8 2, .int .i64 0, .int .u8 0, .int .i64 0, .int .i64 0] 25)
  have lex := hb.size
  have hb := hb.alloc hb.size (.cells #[.int .i64 2, .int .u8 2, .int .i64 0, .int .u8 0, .int .i64 0, .int .i64 0] 25)
  generalize hBx : w18.heap.size = bx at *
  clear hBx
  generalize hW : World.alloc w18 _ = w19 at *
  clear hW
  refine (hl _).mono ?_
  clear hl
  rintro e w20 ⟨rfl, hbn⟩
  have kh := kh.later hbn
  have ka := ka.later hbn
  have kb := kb.later hbn
  have kc := kc.later hbn
  have kp := kp.later hbn
  have kq := kq.later hbn
  have kr := kr.later hbn
  have ks := ks.later hbn
  have kx := kx.later hbn
  have hb := bl_trans hb hbn hb.size
  clear hbn
  obtain ⟨⟨xc0, xc1, xc2, xc3, xc4, xc5⟩, xf0, xf1, xf2, xf3, xf4, xf5⟩ := page_cells kx
  obtain ⟨⟨sc0, sc1, sc2, sc3, sc4, sc5⟩, sf0, sf1, sf2, sf3, sf4, sf5⟩ := page_cells ks
  go_wp2_with (go_at_call 12; refine stop_ (fun Ps hPs => ?_))
  refine hPs ?_
  clear hPs Ps
  clear sc0 sf0 sc1 sf1 sc2 sf2 sc3 sf3 sc4 sf4 sc5 sf5
  clear xc0 xf0 xc1 xf1 xc2 xf2 xc3 xf3 xc4 xf4 xc5 xf5
  refine (hs3 _).mono ?_
  clear hs3
  rintro e w21 ⟨rfl, hbn⟩
  have kh := kh.later hbn
  have ka := ka.later hbn
  have kb := kb.later hbn
  have kc := kc.later hbn
  have kp := kp.later hbn
  have kq := kq.later hbn
  have kr := kr.later hbn
  have ks := ks.later hbn
  have kx := kx.later hbn
  have hb := bl_trans hb hbn hb.size
  clear hbn
  obtain ⟨⟨sc0, sc1, sc2, sc3, sc4, sc5⟩, sf0, sf1, sf2, sf3, sf4, sf5⟩ := page_cells ks
  go_wp2_with (go_at_call 15; refine stop_ (fun Ps hPs => ?_))
  refine hPs ?_
  clear hPs Ps
  clear sc0 sf0 sc1 sf1 sc2 sf2 sc3 sf3 sc4 sf4 sc5 sf5
  refine (h15a _).mono ?_
  clear h15a
  rintro e w22 ⟨rfl, hbn⟩
  have kh := kh.later hbn
  have ka := ka.later hbn
  have kb := kb.later hbn
  have kc := kc.later hbn
  have kp := kp.later hbn
  have kq := kq.later hbn
  have kr := kr.later hbn
  have ks := ks.later hbn
  have kx := kx.later hbn
  have hb := bl_trans hb hbn hb.size
  clear hbn
  obtain ⟨⟨hc0, hc1, hc2, hc3, hc4, hc5⟩, hf0, hf1, hf2, hf3, hf4, hf5⟩ := page_cells kh
  go_wp2_with (go_at_call 15; refine stop_ (fun Ps hPs => ?_))
  refine hPs ?_
  clear hPs Ps
  clear hc0 hf0 hc1 hf1 hc2 hf2 hc3 hf3 hc4 hf4 hc5 hf5
  refine (h15b _).mono ?_
  clear h15b
  rintro e w23 ⟨rfl, hbn⟩
  have kh := kh.later hbn
  have ka := ka.later hbn
  have kb := kb.later hbn
  have kc := kc.later hbn
  have kp := kp.later hbn
  have kq := kq.later hbn
  have kr := kr.later hbn
  have ks := ks.later hbn
  have kx := kx.later hbn
  have hb := bl_trans hb hbn hb.size
  clear hbn
  obtain ⟨⟨hc0, hc1, hc2, hc3, hc4, hc5⟩, hf0, hf1, hf2, hf3, hf4, hf5⟩ := page_cells kh
  go_wp2_with (go_at_call 16; refine stop_ (fun Ps hPs => ?_))
  refine hPs ?_
  clear hPs Ps
  clear hc0 hf0 hc1 hf1 hc2 hf2 hc3 hf3 hc4 hf4 hc5 hf5
  refine (h16a _).mono ?_
  clear h16a
  rintro e w24 ⟨rfl, hbn⟩
  have kh := kh.later hbn
  have ka := ka.later hbn
  have kb := kb.later hbn
  have kc := kc.later hbn
  have kp := kp.later hbn
  have kq := kq.later hbn
  have kr := kr.later hbn
  have ks := ks.later hbn
  have kx := kx.later hbn
  have hb := bl_trans hb hbn hb.size
  clear hbn
  obtain ⟨⟨sc0, sc1, sc2, sc3, sc4, sc5⟩, sf0, sf1, sf2, sf3, sf4, sf5⟩ := page_cells ks
  go_wp2_with (go_at_call 16; refine stop_ (fun Ps hPs => ?_))
  refine hPs ?_
  clear hPs Ps
  clear sc0 sf0 sc1 sf1 sc2 sf2 sc3 sf3 sc4 sf4 sc5 sf5
  refine (h16b _).mono ?_
  clear h16b
  rintro e w25 ⟨rfl, hbn⟩
  have kh := kh.later hbn
  have ka := ka.later hbn
  have kb := kb.later hbn
  have kc := kc.later hbn
  have kp := kp.later hbn
  have kq := kq.later hbn
  have kr := kr.later hbn
  have ks := ks.later hbn
  have kx := kx.later hbn
  have hb := bl_trans hb hbn hb.size
  clear hbn
  go_wp2_with fail
  go_ret
  exact ⟨rfl, hb⟩
end Go.Proofs.Ytagehcnbllkipaa
