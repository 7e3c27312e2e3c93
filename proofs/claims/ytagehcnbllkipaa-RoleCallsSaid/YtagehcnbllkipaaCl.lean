/- From any page each step answers as the document's own. -/
import Derived.Test.YtagehcnbllkipaaLv
import Derived.Test.YtagehcnbllkipaaRj
namespace Go.Proofs.Ytagehcnbllkipaa
open Go.RowKit Go.Lg
set_option linter.unusedVariables false
set_option linter.unusedSimpArgs false

set_option maxHeartbeats 16000000 in
set_option maxRecDepth 100000 in
theorem calls6 (p : Pg) (n m : Int) (w : World) : Calls Try.prog 6 #[p.v, .int .i64 n, .int .i64 m] w (Yes w) := by
  obtain ⟨a1, a2, a3, a4, a5, a6⟩ := p
  obtain ⟨rb, eb⟩ : ∃ r, promote ⟨a1, a2, a3, a4, a5, a6⟩ n = r := ⟨_, rfl⟩
  have h7 : ∀ w, Calls Try.prog 7 #[(Pg.mk a1 a2 a3 a4 a5 a6).v, .int .i64 n] w (Gives rb w) := fun w => by
    have h := promote7 ⟨a1, a2, a3, a4, a5, a6⟩ n w
    rwa [eb] at h
  have h22 : ∀ w, Calls Try.prog 22 #[(Pg.mk a1 a2 a3 a4 a5 a6).v, .int .i64 n] w (Gives rb w) := fun w => by
    have h := promote22 ⟨a1, a2, a3, a4, a5, a6⟩ n w
    rwa [eb] at h
  obtain ⟨rc, ec⟩ : ∃ r, hear ⟨a1, a2, a3, a4, a5, a6⟩ n = r := ⟨_, rfl⟩
  have h13 : ∀ w, Calls Try.prog 13 #[(Pg.mk a1 a2 a3 a4 a5 a6).v, .int .i64 n] w (Gives3 rc w) := fun w => by
    have h := hear13 ⟨a1, a2, a3, a4, a5, a6⟩ n w
    rwa [ec] at h
  have h23 : ∀ w, Calls Try.prog 23 #[(Pg.mk a1 a2 a3 a4 a5 a6).v, .int .i64 n] w (Gives3 rc w) := fun w => by
    have h := hear23 ⟨a1, a2, a3, a4, a5, a6⟩ n w
    rwa [ec] at h
  obtain ⟨rd, ed⟩ : ∃ r, fork ⟨a1, a2, a3, a4, a5, a6⟩ n m = r := ⟨_, rfl⟩
  have h9 : ∀ w, Calls Try.prog 9 #[(Pg.mk a1 a2 a3 a4 a5 a6).v, .int .i64 n, .int .i64 m] w (Gives rd w) := fun w => by
    have h := fork9 ⟨a1, a2, a3, a4, a5, a6⟩ n m w
    rwa [ed] at h
  have h25 : ∀ w, Calls Try.prog 25 #[(Pg.mk a1 a2 a3 a4 a5 a6).v, .int .i64 n, .int .i64 m] w (Gives rd w) := fun w => by
    have h := fork25 ⟨a1, a2, a3, a4, a5, a6⟩ n m w
    rwa [ed] at h
  obtain ⟨re, ee⟩ : ∃ r, acked ⟨a1, a2, a3, a4, a5, a6⟩ n = r := ⟨_, rfl⟩
  have h26 : ∀ w, Calls Try.prog 26 #[(Pg.mk a1 a2 a3 a4 a5 a6).v, .int .i64 n] w (Gives3 re w) := fun w => by
    have h := acked26 ⟨a1, a2, a3, a4, a5, a6⟩ n w
    rwa [ee] at h
  have h27 : ∀ w, Calls Try.prog 27 #[(Pg.mk a1 a2 a3 a4 a5 a6).v, .int .i64 n] w (Gives3 re w) := fun w => by
    have h := acked27 ⟨a1, a2, a3, a4, a5, a6⟩ n w
    rwa [ee] at h
  obtain ⟨rf, ef⟩ : ∃ r, step ⟨a1, a2, a3, a4, a5, a6⟩ 2 = r := ⟨_, rfl⟩
  have h8 : ∀ w, Calls Try.prog 8 #[(Pg.mk a1 a2 a3 a4 a5 a6).v] w (Gives rf w) := fun w => by
    have h := file8 ⟨a1, a2, a3, a4, a5, a6⟩  w
    rwa [ef] at h
  have h28 : ∀ w, Calls Try.prog 28 #[(Pg.mk a1 a2 a3 a4 a5 a6).v] w (Gives rf w) := fun w => by
    have h := file28 ⟨a1, a2, a3, a4, a5, a6⟩  w
    rwa [ef] at h
  obtain ⟨rg, eg⟩ : ∃ r, step ⟨a1, a2, a3, a4, a5, a6⟩ 3 = r := ⟨_, rfl⟩
  have h10 : ∀ w, Calls Try.prog 10 #[(Pg.mk a1 a2 a3 a4 a5 a6).v] w (Gives rg w) := fun w => by
    have h := cut10 ⟨a1, a2, a3, a4, a5, a6⟩  w
    rwa [eg] at h
  have h29 : ∀ w, Calls Try.prog 29 #[(Pg.mk a1 a2 a3 a4 a5 a6).v] w (Gives rg w) := fun w => by
    have h := cut29 ⟨a1, a2, a3, a4, a5, a6⟩  w
    rwa [eg] at h
  obtain ⟨rh, eh⟩ : ∃ r, rejoin ⟨a1, a2, a3, a4, a5, a6⟩ = r := ⟨_, rfl⟩
  have h11 : ∀ w, Calls Try.prog 11 #[(Pg.mk a1 a2 a3 a4 a5 a6).v] w (Gives rh w) := fun w => by
    have h := rejoin11 ⟨a1, a2, a3, a4, a5, a6⟩  w
    rwa [eh] at h
  have h30 : ∀ w, Calls Try.prog 30 #[(Pg.mk a1 a2 a3 a4 a5 a6).v] w (Gives rh w) := fun w => by
    have h := rejoin30 ⟨a1, a2, a3, a4, a5, a6⟩  w
    rwa [eh] at h
  clear eb
  obtain ⟨⟨bq1, bq2, bq3, bq4, bq5, bq6⟩, zb⟩ := rb
  clear ec
  obtain ⟨⟨cq1, cq2, cq3, cq4, cq5, cq6⟩, oc, zc⟩ := rc
  clear ed
  obtain ⟨⟨dq1, dq2, dq3, dq4, dq5, dq6⟩, zd⟩ := rd
  clear ee
  obtain ⟨⟨eq1, eq2, eq3, eq4, eq5, eq6⟩, oe, ze⟩ := re
  clear ef
  obtain ⟨⟨fq1, fq2, fq3, fq4, fq5, fq6⟩, zf⟩ := rf
  clear eg
  obtain ⟨⟨gq1, gq2, gq3, gq4, gq5, gq6⟩, zg⟩ := rg
  clear eh
  obtain ⟨⟨hq1, hq2, hq3, hq4, hq5, hq6⟩, zh⟩ := rh
  have tb := told24 ⟨bq1, bq2, bq3, bq4, bq5, bq6⟩ zb
  have tc := told24 ⟨cq1, cq2, cq3, cq4, cq5, cq6⟩ zc
  have td := told24 ⟨dq1, dq2, dq3, dq4, dq5, dq6⟩ zd
  have te := told24 ⟨eq1, eq2, eq3, eq4, eq5, eq6⟩ ze
  have tf := told24 ⟨fq1, fq2, fq3, fq4, fq5, fq6⟩ zf
  have tg := told24 ⟨gq1, gq2, gq3, gq4, gq5, gq6⟩ zg
  have th := told24 ⟨hq1, hq2, hq3, hq4, hq5, hq6⟩ zh
  have h15 := writes15 ⟨a1, a2, a3, a4, a5, a6⟩
  have h31 := writes31 ⟨a1, a2, a3, a4, a5, a6⟩
  have h16 := reads16 ⟨a1, a2, a3, a4, a5, a6⟩
  have h32 := reads32 ⟨a1, a2, a3, a4, a5, a6⟩
  obtain ⟨kw, ew⟩ : ∃ k, writes ⟨a1, a2, a3, a4, a5, a6⟩ = k := ⟨_, rfl⟩
  obtain ⟨kr, er⟩ : ∃ k, reads ⟨a1, a2, a3, a4, a5, a6⟩ = k := ⟨_, rfl⟩
  rw [ew] at h15 h31
  rw [er] at h16 h32
  clear ew er
  have hl := lives14
  go_enter Try.func6, Try.ntmps6
  go_wp2_with (go_at_call 7; refine stop_ (fun Ps hPs => ?_))
  refine hPs ?_
  clear hPs Ps
  have kp := Blk.new w 25 #[.int .i64 a1, .int .u8 a2, .int .i64 a3, .int .u8 a4, .int .i64 a5, .int .i64 a6]
  have hb := (Below.refl w.heap.size w).alloc (Nat.le_refl _) (.cells #[.int .i64 a1, .int .u8 a2, .int .i64 a3, .int .u8 a4, .int .i64 a5, .int .i64 a6] 25)
  have lep := Nat.le_refl w.heap.size
  generalize hW : World.alloc w _ = w1 at *
  clear hW
  refine (h7 _).mono ?_
  clear h7
  rintro e w2 ⟨rfl, hbn⟩
  have kp := kp.later hbn
  have hb := bl_trans hb hbn hb.size
  clear hbn
  have jp := kp.alloc (.cells #[.int .i64 bq1, .int .u8 bq2, .int .i64 bq3, .int .u8 bq4, .int .i64 bq5, .int .i64 bq6] 25)
  obtain ⟨⟨pc0, pc1, pc2, pc3, pc4, pc5⟩, pf0, pf1, pf2, pf3, pf4, pf5⟩ := page_cells jp
  clear jp
  go_wp2_with (go_at_call 22; refine stop_ (fun Ps hPs => ?_))
  refine hPs ?_
  clear hPs Ps
  clear pc0 pf0 pc1 pf1 pc2 pf2 pc3 pf3 pc4 pf4 pc5 pf5
  have ka := Blk.new w2 25 #[.int .i64 bq1, .int .u8 bq2, .int .i64 bq3, .int .u8 bq4, .int .i64 bq5, .int .i64 bq6]
  have npa : w.heap.size ≠ w2.heap.size := Nat.ne_of_lt kp.lt
  have kp := kp.alloc (.cells #[.int .i64 bq1, .int .u8 bq2, .int .i64 bq3, .int .u8 bq4, .int .i64 bq5, .int .i64 bq6] 25)
  have lea := hb.size
  have hb := hb.alloc hb.size (.cells #[.int .i64 bq1, .int .u8 bq2, .int .i64 bq3, .int .u8 bq4, .int .i64 bq5, .int .i64 bq6] 25)
  generalize hBa : w2.heap.size = ba at *
  clear hBa
  generalize hW : World.alloc w2 _ = w3 at *
  clear hW
  refine (h22 _).mono ?_
  clear h22
  rintro e w4 ⟨rfl, hbn⟩
  have kp := kp.later hbn
  have ka := ka.later hbn
  have hb := bl_trans hb hbn hb.size
  clear hbn
  have jp := kp.alloc (.cells #[.int .i64 bq1, .int .u8 bq2, .int .i64 bq3, .int .u8 bq4, .int .i64 bq5, .int .i64 bq6] 25)
  obtain ⟨⟨pc0, pc1, pc2, pc3, pc4, pc5⟩, pf0, pf1, pf2, pf3, pf4, pf5⟩ := page_cells jp
  clear jp
  go_wp2_with (go_at_call 13; refine stop_ (fun Ps hPs => ?_))
  refine hPs ?_
  clear hPs Ps
  clear pc0 pf0 pc1 pf1 pc2 pf2 pc3 pf3 pc4 pf4 pc5 pf5
  have kb := Blk.new w4 25 #[.int .i64 bq1, .int .u8 bq2, .int .i64 bq3, .int .u8 bq4, .int .i64 bq5, .int .i64 bq6]
  have npb : w.heap.size ≠ w4.heap.size := Nat.ne_of_lt kp.lt
  have kp := kp.alloc (.cells #[.int .i64 bq1, .int .u8 bq2, .int .i64 bq3, .int .u8 bq4, .int .i64 bq5, .int .i64 bq6] 25)
  have nab : ba ≠ w4.heap.size := Nat.ne_of_lt ka.lt
  have ka := ka.alloc (.cells #[.int .i64 bq1, .int .u8 bq2, .int .i64 bq3, .int .u8 bq4, .int .i64 bq5, .int .i64 bq6] 25)
  have leb := hb.size
  have hb := hb.alloc hb.size (.cells #[.int .i64 bq1, .int .u8 bq2, .int .i64 bq3, .int .u8 bq4, .int .i64 bq5, .int .i64 bq6] 25)
  generalize hBb : w4.heap.size = bb at *
  clear hBb
  generalize hW : World.alloc w4 _ = w5 at *
  clear hW
  refine (h13 _).mono ?_
  clear h13
  rintro e w6 ⟨rfl, hbn⟩
  have kp := kp.later hbn
  have ka := ka.later hbn
  have kb := kb.later hbn
  have hb := bl_trans hb hbn hb.size
  clear hbn
  have jp := kp.alloc (.cells #[.int .i64 cq1, .int .u8 cq2, .int .i64 cq3, .int .u8 cq4, .int .i64 cq5, .int .i64 cq6] 25)
  obtain ⟨⟨pc0, pc1, pc2, pc3, pc4, pc5⟩, pf0, pf1, pf2, pf3, pf4, pf5⟩ := page_cells jp
  clear jp
  go_wp2_with (go_at_call 23; refine stop_ (fun Ps hPs => ?_))
  refine hPs ?_
  clear hPs Ps
  clear pc0 pf0 pc1 pf1 pc2 pf2 pc3 pf3 pc4 pf4 pc5 pf5
  have kc := Blk.new w6 25 #[.int .i64 cq1, .int .u8 cq2, .int .i64 cq3, .int .u8 cq4, .int .i64 cq5, .int .i64 cq6]
  have npc : w.heap.size ≠ w6.heap.size := Nat.ne_of_lt kp.lt
  have kp := kp.alloc (.cells #[.int .i64 cq1, .int .u8 cq2, .int .i64 cq3, .int .u8 cq4, .int .i64 cq5, .int .i64 cq6] 25)
  have nac : ba ≠ w6.heap.size := Nat.ne_of_lt ka.lt
  have ka := ka.alloc (.cells #[.int .i64 cq1, .int .u8 cq2, .int .i64 cq3, .int .u8 cq4, .int .i64 cq5, .int .i64 cq6] 25)
  have nbc : bb ≠ w6.heap.size := Nat.ne_of_lt kb.lt
  have kb := kb.alloc (.cells #[.int .i64 cq1, .int .u8 cq2, .int .i64 cq3, .int .u8 cq4, .int .i64 cq5, .int .i64 cq6] 25)
  have lec := hb.size
  have hb := hb.alloc hb.size (.cells #[.int .i64 cq1, .int .u8 cq2, .int .i64 cq3, .int .u8 cq4, .int .i64 cq5, .int .i64 cq6] 25)
  generalize hBc : w6.heap.size = bc at *
  clear hBc
  generalize hW : World.alloc w6 _ = w7 at *
  clear hW
  refine (h23 _).mono ?_
  clear h23
  rintro e w8 ⟨rfl, hbn⟩
  have kp := kp.later hbn
  have ka := ka.later hbn
  have kb := kb.later hbn
  have kc := kc.later hbn
  have hb := bl_trans hb hbn hb.size
  clear hbn
  go_wp2_with (go_at_call 14; refine stop_ (fun Ps hPs => ?_))
  refine hPs ?_
  clear hPs Ps
  have kd := Blk.new w8 25 #[.int .i64 cq1, .int .u8 cq2, .int .i64 cq3, .int .u8 cq4, .int .i64 cq5, .int .i64 cq6]
  have npd : w.heap.size ≠ w8.heap.size := Nat.ne_of_lt kp.lt
  have kp := kp.alloc (.cells #[.int .i64 cq1, .int .u8 cq2, .int .i64 cq3, .int .u8 cq4, .int .i64 cq5, .int .i64 cq6] 25)
  have nad : ba ≠ w8.heap.size := Nat.ne_of_lt ka.lt
  have ka := ka.alloc (.cells #[.int .i64 cq1, .int .u8 cq2, .int .i64 cq3, .int .u8 cq4, .int .i64 cq5, .int .i64 cq6] 25)
  have nbd : bb ≠ w8.heap.size := Nat.ne_of_lt kb.lt
  have kb := kb.alloc (.cells #[.int .i64 cq1, .int .u8 cq2, .int .i64 cq3, .int .u8 cq4, .int .i64 cq5, .int .i64 cq6] 25)
  have ncd : bc ≠ w8.heap.size := Nat.ne_of_lt kc.lt
  have kc := kc.alloc (.cells #[.int .i64 cq1, .int .u8 cq2, .int .i64 cq3, .int .u8 cq4, .int .i64 cq5, .int .i64 cq6] 25)
  have led := hb.size
  have hb := hb.alloc hb.size (.cells #[.int .i64 cq1, .int .u8 cq2, .int .i64 cq3, .int .u8 cq4, .int .i64 cq5, .int .i64 cq6] 25)
  generalize hBd : w8.heap.size = bd at *
  clear hBd
  generalize hW : World.alloc w8 _ = w9 at *
  clear hW
  refine (hl _).mono ?_
  clear hl
  rintro e w10 ⟨rfl, hbn⟩
  have kp := kp.later hbn
  have ka := ka.later hbn
  have kb := kb.later hbn
  have kc := kc.later hbn
  have kd := kd.later hbn
  have hb := bl_trans hb hbn hb.size
  clear hbn
  obtain ⟨⟨ac0, ac1, ac2, ac3, ac4, ac5⟩, af0, af1, af2, af3, af4, af5⟩ := page_cells ka
  obtain ⟨⟨bc0, bc1, bc2, bc3, bc4, bc5⟩, bf0, bf1, bf2, bf3, bf4, bf5⟩ := page_cells kb
  go_wp2_with (go_at_call 24; refine stop_ (fun Ps hPs => ?_))
  refine hPs ?_
  clear hPs Ps
  clear ac0 af0 ac1 af1 ac2 af2 ac3 af3 ac4 af4 ac5 af5
  clear bc0 bf0 bc1 bf1 bc2 bf2 bc3 bf3 bc4 bf4 bc5 bf5
  refine (tb _).mono ?_
  clear tb
  rintro e w11 ⟨rfl, hbn⟩
  have kp := kp.later hbn
  have ka := ka.later hbn
  have kb := kb.later hbn
  have kc := kc.later hbn
  have kd := kd.later hbn
  have hb := bl_trans hb hbn hb.size
  clear hbn
  obtain ⟨⟨cc0, cc1, cc2, cc3, cc4, cc5⟩, cf0, cf1, cf2, cf3, cf4, cf5⟩ := page_cells kc
  obtain ⟨⟨dc0, dc1, dc2, dc3, dc4, dc5⟩, df0, df1, df2, df3, df4, df5⟩ := page_cells kd
  go_wp2_with (go_at_call 24; refine stop_ (fun Ps hPs => ?_))
  refine hPs ?_
  clear hPs Ps
  clear cc0 cf0 cc1 cf1 cc2 cf2 cc3 cf3 cc4 cf4 cc5 cf5
  clear dc0 df0 dc1 df1 dc2 df2 dc3 df3 dc4 df4 dc5 df5
  refine (tc _).mono ?_
  clear tc
  rintro e w12 ⟨rfl, hbn⟩
  have kp := kp.later hbn
  have ka := ka.later hbn
  have kb := kb.later hbn
  have kc := kc.later hbn
  have kd := kd.later hbn
  have hb := bl_trans hb hbn hb.size
  clear hbn
  obtain ⟨⟨pc0, pc1, pc2, pc3, pc4, pc5⟩, pf0, pf1, pf2, pf3, pf4, pf5⟩ := page_cells kp
  go_wp2_with (go_at_call 9; refine stop_ (fun Ps hPs => ?_))
  refine hPs ?_
  clear hPs Ps
  clear pc0 pf0 pc1 pf1 pc2 pf2 pc3 pf3 pc4 pf4 pc5 pf5
  refine (h9 _).mono ?_
  clear h9
  rintro e w13 ⟨rfl, hbn⟩
  have kp := kp.later hbn
  have ka := ka.later hbn
  have kb := kb.later hbn
  have kc := kc.later hbn
  have kd := kd.later hbn
  have hb := bl_trans hb hbn hb.size
  clear hbn
  obtain ⟨⟨ac0, ac1, ac2, ac3, ac4, ac5⟩, af0, af1, af2, af3, af4, af5⟩ := page_cells ka
  have jp := kp.page_far (b := ba) npa (.int .i64 dq1) (.int .u8 dq2) (.int .i64 dq3) (.int .u8 dq4) (.int .i64 dq5) (.int .i64 dq6)
  obtain ⟨⟨pzc0, pzc1, pzc2, pzc3, pzc4, pzc5⟩, pzf0, pzf1, pzf2, pzf3, pzf4, pzf5⟩ := page_cells jp
  clear jp
  go_wp2_with (go_at_call 25; refine stop_ (fun Ps hPs => ?_))
  refine hPs ?_
  clear hPs Ps
  clear ac0 af0 ac1 af1 ac2 af2 ac3 af3 ac4 af4 ac5 af5
  clear pzc0 pzf0 pzc1 pzf1 pzc2 pzf2 pzc3 pzf3 pzc4 pzf4 pzc5 pzf5
  have kp := kp.page_far (b := ba) npa (.int .i64 dq1) (.int .u8 dq2) (.int .i64 dq3) (.int .u8 dq4) (.int .i64 dq5) (.int .i64 dq6)
  have kb := kb.page_far (b := ba) nab.symm (.int .i64 dq1) (.int .u8 dq2) (.int .i64 dq3) (.int .u8 dq4) (.int .i64 dq5) (.int .i64 dq6)
  have kc := kc.page_far (b := ba) nac.symm (.int .i64 dq1) (.int .u8 dq2) (.int .i64 dq3) (.int .u8 dq4) (.int .i64 dq5) (.int .i64 dq6)
  have kd := kd.page_far (b := ba) nad.symm (.int .i64 dq1) (.int .u8 dq2) (.int .i64 dq3) (.int .u8 dq4) (.int .i64 dq5) (.int .i64 dq6)
  have ka := ka.page (.int .i64 dq1) (.int .u8 dq2) (.int .i64 dq3) (.int .u8 dq4) (.int .i64 dq5) (.int .i64 dq6)
  have hb := below_page hb (b := ba) lea (.int .i64 dq1) (.int .u8 dq2) (.int .i64 dq3) (.int .u8 dq4) (.int .i64 dq5) (.int .i64 dq6)
  generalize hW : World.setCell (World.setCell (World.setCell (World.setCell (World.setCell (World.setCell w13 _ _) _ _) _ _) _ _) _ _) _ _ = w14 at *
  clear hW
  refine (h25 _).mono ?_
  clear h25
  rintro e w15 ⟨rfl, hbn⟩
  have kp := kp.later hbn
  have ka := ka.later hbn
  have kb := kb.later hbn
  have kc := kc.later hbn
  have kd := kd.later hbn
  have hb := bl_trans hb hbn hb.size
  clear hbn
  obtain ⟨⟨bc0, bc1, bc2, bc3, bc4, bc5⟩, bf0, bf1, bf2, bf3, bf4, bf5⟩ := page_cells kb
  have jp := kp.page_far (b := bb) npb (.int .i64 dq1) (.int .u8 dq2) (.int .i64 dq3) (.int .u8 dq4) (.int .i64 dq5) (.int .i64 dq6)
  obtain ⟨⟨pzc0, pzc1, pzc2, pzc3, pzc4, pzc5⟩, pzf0, pzf1, pzf2, pzf3, pzf4, pzf5⟩ := page_cells jp
  clear jp
  go_wp2_with (go_at_call 26; refine stop_ (fun Ps hPs => ?_))
  refine hPs ?_
  clear hPs Ps
  clear bc0 bf0 bc1 bf1 bc2 bf2 bc3 bf3 bc4 bf4 bc5 bf5
  clear pzc0 pzf0 pzc1 pzf1 pzc2 pzf2 pzc3 pzf3 pzc4 pzf4 pzc5 pzf5
  have kp := kp.page_far (b := bb) npb (.int .i64 dq1) (.int .u8 dq2) (.int .i64 dq3) (.int .u8 dq4) (.int .i64 dq5) (.int .i64 dq6)
  have ka := ka.page_far (b := bb) nab (.int .i64 dq1) (.int .u8 dq2) (.int .i64 dq3) (.int .u8 dq4) (.int .i64 dq5) (.int .i64 dq6)
  have kc := kc.page_far (b := bb) nbc.symm (.int .i64 dq1) (.int .u8 dq2) (.int .i64 dq3) (.int .u8 dq4) (.int .i64 dq5) (.int .i64 dq6)
  have kd := kd.page_far (b := bb) nbd.symm (.int .i64 dq1) (.int .u8 dq2) (.int .i64 dq3) (.int .u8 dq4) (.int .i64 dq5) (.int .i64 dq6)
  have kb := kb.page (.int .i64 dq1) (.int .u8 dq2) (.int .i64 dq3) (.int .u8 dq4) (.int .i64 dq5) (.int .i64 dq6)
  have hb := below_page hb (b := bb) leb (.int .i64 dq1) (.int .u8 dq2) (.int .i64 dq3) (.int .u8 dq4) (.int .i64 dq5) (.int .i64 dq6)
  generalize hW : World.setCell (World.setCell (World.setCell (World.setCell (World.setCell (World.setCell w15 _ _) _ _) _ _) _ _) _ _) _ _ = w16 at *
  clear hW
  refine (h26 _).mono ?_
  clear h26
  rintro e w17 ⟨rfl, hbn⟩
  have kp := kp.later hbn
  have ka := ka.later hbn
  have kb := kb.later hbn
  have kc := kc.later hbn
  have kd := kd.later hbn
  have hb := bl_trans hb hbn hb.size
  clear hbn
  obtain ⟨⟨cc0, cc1, cc2, cc3, cc4, cc5⟩, cf0, cf1, cf2, cf3, cf4, cf5⟩ := page_cells kc
  have jp := kp.page_far (b := bc) npc (.int .i64 eq1) (.int .u8 eq2) (.int .i64 eq3) (.int .u8 eq4) (.int .i64 eq5) (.int .i64 eq6)
  obtain ⟨⟨pzc0, pzc1, pzc2, pzc3, pzc4, pzc5⟩, pzf0, pzf1, pzf2, pzf3, pzf4, pzf5⟩ := page_cells jp
  clear jp
  go_wp2_with (go_at_call 27; refine stop_ (fun Ps hPs => ?_))
  refine hPs ?_
  clear hPs Ps
  clear cc0 cf0 cc1 cf1 cc2 cf2 cc3 cf3 cc4 cf4 cc5 cf5
  clear pzc0 pzf0 pzc1 pzf1 pzc2 pzf2 pzc3 pzf3 pzc4 pzf4 pzc5 pzf5
  have kp := kp.page_far (b := bc) npc (.int .i64 eq1) (.int .u8 eq2) (.int .i64 eq3) (.int .u8 eq4) (.int .i64 eq5) (.int .i64 eq6)
  have ka := ka.page_far (b := bc) nac (.int .i64 eq1) (.int .u8 eq2) (.int .i64 eq3) (.int .u8 eq4) (.int .i64 eq5) (.int .i64 eq6)
  have kb := kb.page_far (b := bc) nbc (.int .i64 eq1) (.int .u8 eq2) (.int .i64 eq3) (.int .u8 eq4) (.int .i64 eq5) (.int .i64 eq6)
  have kd := kd.page_far (b := bc) ncd.symm (.int .i64 eq1) (.int .u8 eq2) (.int .i64 eq3) (.int .u8 eq4) (.int .i64 eq5) (.int .i64 eq6)
  have kc := kc.page (.int .i64 eq1) (.int .u8 eq2) (.int .i64 eq3) (.int .u8 eq4) (.int .i64 eq5) (.int .i64 eq6)
  have hb := below_page hb (b := bc) lec (.int .i64 eq1) (.int .u8 eq2) (.int .i64 eq3) (.int .u8 eq4) (.int .i64 eq5) (.int .i64 eq6)
  generalize hW : World.setCell (World.setCell (World.setCell (World.setCell (World.setCell (World.setCell w17 _ _) _ _) _ _) _ _) _ _) _ _ = w18 at *
  clear hW
  refine (h27 _).mono ?_
  clear h27
  rintro e w19 ⟨rfl, hbn⟩
  have kp := kp.later hbn
  have ka := ka.later hbn
  have kb := kb.later hbn
  have kc := kc.later hbn
  have kd := kd.later hbn
  have hb := bl_trans hb hbn hb.size
  clear hbn
  obtain ⟨⟨dc0, dc1, dc2, dc3, dc4, dc5⟩, df0, df1, df2, df3, df4, df5⟩ := page_cells kd
  have ja := ka.page_far (b := bd) nad (.int .i64 eq1) (.int .u8 eq2) (.int .i64 eq3) (.int .u8 eq4) (.int .i64 eq5) (.int .i64 eq6)
  obtain ⟨⟨azc0, azc1, azc2, azc3, azc4, azc5⟩, azf0, azf1, azf2, azf3, azf4, azf5⟩ := page_cells ja
  clear ja
  have jb := kb.page_far (b := bd) nbd (.int .i64 eq1) (.int .u8 eq2) (.int .i64 eq3) (.int .u8 eq4) (.int .i64 eq5) (.int .i64 eq6)
  obtain ⟨⟨bzc0, bzc1, bzc2, bzc3, bzc4, bzc5⟩, bzf0, bzf1, bzf2, bzf3, bzf4, bzf5⟩ := page_cells jb
  clear jb
  go_wp2_with (go_at_call 24; refine stop_ (fun Ps hPs => ?_))
  refine hPs ?_
  clear hPs Ps
  clear azc0 azf0 azc1 azf1 azc2 azf2 azc3 azf3 azc4 azf4 azc5 azf5
  clear bzc0 bzf0 bzc1 bzf1 bzc2 bzf2 bzc3 bzf3 bzc4 bzf4 bzc5 bzf5
  clear dc0 df0 dc1 df1 dc2 df2 dc3 df3 dc4 df4 dc5 df5
  have kp := kp.page_far (b := bd) npd (.int .i64 eq1) (.int .u8 eq2) (.int .i64 eq3) (.int .u8 eq4) (.int .i64 eq5) (.int .i64 eq6)
  have ka := ka.page_far (b := bd) nad (.int .i64 eq1) (.int .u8 eq2) (.int .i64 eq3) (.int .u8 eq4) (.int .i64 eq5) (.int .i64 eq6)
  have kb := kb.page_far (b := bd) nbd (.int .i64 eq1) (.int .u8 eq2) (.int .i64 eq3) (.int .u8 eq4) (.int .i64 eq5) (.int .i64 eq6)
  have kc := kc.page_far (b := bd) ncd (.int .i64 eq1) (.int .u8 eq2) (.int .i64 eq3) (.int .u8 eq4) (.int .i64 eq5) (.int .i64 eq6)
  have kd := kd.page (.int .i64 eq1) (.int .u8 eq2) (.int .i64 eq3) (.int .u8 eq4) (.int .i64 eq5) (.int .i64 eq6)
  have hb := below_page hb (b := bd) led (.int .i64 eq1) (.int .u8 eq2) (.int .i64 eq3) (.int .u8 eq4) (.int .i64 eq5) (.int .i64 eq6)
  generalize hW : World.setCell (World.setCell (World.setCell (World.setCell (World.setCell (World.setCell w19 _ _) _ _) _ _) _ _) _ _) _ _ = w20 at *
  clear hW
  refine (td _).mono ?_
  clear td
  rintro e w21 ⟨rfl, hbn⟩
  have kp := kp.later hbn
  have ka := ka.later hbn
  have kb := kb.later hbn
  have kc := kc.later hbn
  have kd := kd.later hbn
  have hb := bl_trans hb hbn hb.size
  clear hbn
  obtain ⟨⟨cc0, cc1, cc2, cc3, cc4, cc5⟩, cf0, cf1, cf2, cf3, cf4, cf5⟩ := page_cells kc
  obtain ⟨⟨dc0, dc1, dc2, dc3, dc4, dc5⟩, df0, df1, df2, df3, df4, df5⟩ := page_cells kd
  go_wp2_with (go_at_call 24; refine stop_ (fun Ps hPs => ?_))
  refine hPs ?_
  clear hPs Ps
  clear cc0 cf0 cc1 cf1 cc2 cf2 cc3 cf3 cc4 cf4 cc5 cf5
  clear dc0 df0 dc1 df1 dc2 df2 dc3 df3 dc4 df4 dc5 df5
  refine (te _).mono ?_
  clear te
  rintro e w22 ⟨rfl, hbn⟩
  have kp := kp.later hbn
  have ka := ka.later hbn
  have kb := kb.later hbn
  have kc := kc.later hbn
  have kd := kd.later hbn
  have hb := bl_trans hb hbn hb.size
  clear hbn
  obtain ⟨⟨pc0, pc1, pc2, pc3, pc4, pc5⟩, pf0, pf1, pf2, pf3, pf4, pf5⟩ := page_cells kp
  go_wp2_with (go_at_call 8; refine stop_ (fun Ps hPs => ?_))
  refine hPs ?_
  clear hPs Ps
  clear pc0 pf0 pc1 pf1 pc2 pf2 pc3 pf3 pc4 pf4 pc5 pf5
  refine (h8 _).mono ?_
  clear h8
  rintro e w23 ⟨rfl, hbn⟩
  have kp := kp.later hbn
  have ka := ka.later hbn
  have kb := kb.later hbn
  have kc := kc.later hbn
  have kd := kd.later hbn
  have hb := bl_trans hb hbn hb.size
  clear hbn
  obtain ⟨⟨ac0, ac1, ac2, ac3, ac4, ac5⟩, af0, af1, af2, af3, af4, af5⟩ := page_cells ka
  have jp := kp.page_far (b := ba) npa (.int .i64 fq1) (.int .u8 fq2) (.int .i64 fq3) (.int .u8 fq4) (.int .i64 fq5) (.int .i64 fq6)
  obtain ⟨⟨pzc0, pzc1, pzc2, pzc3, pzc4, pzc5⟩, pzf0, pzf1, pzf2, pzf3, pzf4, pzf5⟩ := page_cells jp
  clear jp
  go_wp2_with (go_at_call 28; refine stop_ (fun Ps hPs => ?_))
  refine hPs ?_
  clear hPs Ps
  clear ac0 af0 ac1 af1 ac2 af2 ac3 af3 ac4 af4 ac5 af5
  clear pzc0 pzf0 pzc1 pzf1 pzc2 pzf2 pzc3 pzf3 pzc4 pzf4 pzc5 pzf5
  have kp := kp.page_far (b := ba) npa (.int .i64 fq1) (.int .u8 fq2) (.int .i64 fq3) (.int .u8 fq4) (.int .i64 fq5) (.int .i64 fq6)
  have kb := kb.page_far (b := ba) nab.symm (.int .i64 fq1) (.int .u8 fq2) (.int .i64 fq3) (.int .u8 fq4) (.int .i64 fq5) (.int .i64 fq6)
  have kc := kc.page_far (b := ba) nac.symm (.int .i64 fq1) (.int .u8 fq2) (.int .i64 fq3) (.int .u8 fq4) (.int .i64 fq5) (.int .i64 fq6)
  have kd := kd.page_far (b := ba) nad.symm (.int .i64 fq1) (.int .u8 fq2) (.int .i64 fq3) (.int .u8 fq4) (.int .i64 fq5) (.int .i64 fq6)
  have ka := ka.page (.int .i64 fq1) (.int .u8 fq2) (.int .i64 fq3) (.int .u8 fq4) (.int .i64 fq5) (.int .i64 fq6)
  have hb := below_page hb (b := ba) lea (.int .i64 fq1) (.int .u8 fq2) (.int .i64 fq3) (.int .u8 fq4) (.int .i64 fq5) (.int .i64 fq6)
  generalize hW : World.setCell (World.setCell (World.setCell (World.setCell (World.setCell (World.setCell w23 _ _) _ _) _ _) _ _) _ _) _ _ = w24 at *
  clear hW
  refine (h28 _).mono ?_
  clear h28
  rintro e w25 ⟨rfl, hbn⟩
  have kp := kp.later hbn
  have ka := ka.later hbn
  have kb := kb.later hbn
  have kc := kc.later hbn
  have kd := kd.later hbn
  have hb := bl_trans hb hbn hb.size
  clear hbn
  obtain ⟨⟨bc0, bc1, bc2, bc3, bc4, bc5⟩, bf0, bf1, bf2, bf3, bf4, bf5⟩ := page_cells kb
  have jp := kp.page_far (b := bb) npb (.int .i64 fq1) (.int .u8 fq2) (.int .i64 fq3) (.int .u8 fq4) (.int .i64 fq5) (.int .i64 fq6)
  obtain ⟨⟨pzc0, pzc1, pzc2, pzc3, pzc4, pzc5⟩, pzf0, pzf1, pzf2, pzf3, pzf4, pzf5⟩ := page_cells jp
  clear jp
  go_wp2_with (go_at_call 10; refine stop_ (fun Ps hPs => ?_))
  refine hPs ?_
  clear hPs Ps
  clear bc0 bf0 bc1 bf1 bc2 bf2 bc3 bf3 bc4 bf4 bc5 bf5
  clear pzc0 pzf0 pzc1 pzf1 pzc2 pzf2 pzc3 pzf3 pzc4 pzf4 pzc5 pzf5
  have kp := kp.page_far (b := bb) npb (.int .i64 fq1) (.int .u8 fq2) (.int .i64 fq3) (.int .u8 fq4) (.int .i64 fq5) (.int .i64 fq6)
  have ka := ka.page_far (b := bb) nab (.int .i64 fq1) (.int .u8 fq2) (.int .i64 fq3) (.int .u8 fq4) (.int .i64 fq5) (.int .i64 fq6)
  have kc := kc.page_far (b := bb) nbc.symm (.int .i64 fq1) (.int .u8 fq2) (.int .i64 fq3) (.int .u8 fq4) (.int .i64 fq5) (.int .i64 fq6)
  have kd := kd.page_far (b := bb) nbd.symm (.int .i64 fq1) (.int .u8 fq2) (.int .i64 fq3) (.int .u8 fq4) (.int .i64 fq5) (.int .i64 fq6)
  have kb := kb.page (.int .i64 fq1) (.int .u8 fq2) (.int .i64 fq3) (.int .u8 fq4) (.int .i64 fq5) (.int .i64 fq6)
  have hb := below_page hb (b := bb) leb (.int .i64 fq1) (.int .u8 fq2) (.int .i64 fq3) (.int .u8 fq4) (.int .i64 fq5) (.int .i64 fq6)
  generalize hW : World.setCell (World.setCell (World.setCell (World.setCell (World.setCell (World.setCell w25 _ _) _ _) _ _) _ _) _ _) _ _ = w26 at *
  clear hW
  refine (h10 _).mono ?_
  clear h10
  rintro e w27 ⟨rfl, hbn⟩
  have kp := kp.later hbn
  have ka := ka.later hbn
  have kb := kb.later hbn
  have kc := kc.later hbn
  have kd := kd.later hbn
  have hb := bl_trans hb hbn hb.size
  clear hbn
  obtain ⟨⟨cc0, cc1, cc2, cc3, cc4, cc5⟩, cf0, cf1, cf2, cf3, cf4, cf5⟩ := page_cells kc
  have jp := kp.page_far (b := bc) npc (.int .i64 gq1) (.int .u8 gq2) (.int .i64 gq3) (.int .u8 gq4) (.int .i64 gq5) (.int .i64 gq6)
  obtain ⟨⟨pzc0, pzc1, pzc2, pzc3, pzc4, pzc5⟩, pzf0, pzf1, pzf2, pzf3, pzf4, pzf5⟩ := page_cells jp
  clear jp
  go_wp2_with (go_at_call 29; refine stop_ (fun Ps hPs => ?_))
  refine hPs ?_
  clear hPs Ps
  clear cc0 cf0 cc1 cf1 cc2 cf2 cc3 cf3 cc4 cf4 cc5 cf5
  clear pzc0 pzf0 pzc1 pzf1 pzc2 pzf2 pzc3 pzf3 pzc4 pzf4 pzc5 pzf5
  have kp := kp.page_far (b := bc) npc (.int .i64 gq1) (.int .u8 gq2) (.int .i64 gq3) (.int .u8 gq4) (.int .i64 gq5) (.int .i64 gq6)
  have ka := ka.page_far (b := bc) nac (.int .i64 gq1) (.int .u8 gq2) (.int .i64 gq3) (.int .u8 gq4) (.int .i64 gq5) (.int .i64 gq6)
  have kb := kb.page_far (b := bc) nbc (.int .i64 gq1) (.int .u8 gq2) (.int .i64 gq3) (.int .u8 gq4) (.int .i64 gq5) (.int .i64 gq6)
  have kd := kd.page_far (b := bc) ncd.symm (.int .i64 gq1) (.int .u8 gq2) (.int .i64 gq3) (.int .u8 gq4) (.int .i64 gq5) (.int .i64 gq6)
  have kc := kc.page (.int .i64 gq1) (.int .u8 gq2) (.int .i64 gq3) (.int .u8 gq4) (.int .i64 gq5) (.int .i64 gq6)
  have hb := below_page hb (b := bc) lec (.int .i64 gq1) (.int .u8 gq2) (.int .i64 gq3) (.int .u8 gq4) (.int .i64 gq5) (.int .i64 gq6)
  generalize hW : World.setCell (World.setCell (World.setCell (World.setCell (World.setCell (World.setCell w27 _ _) _ _) _ _) _ _) _ _) _ _ = w28 at *
  clear hW
  refine (h29 _).mono ?_
  clear h29
  rintro e w29 ⟨rfl, hbn⟩
  have kp := kp.later hbn
  have ka := ka.later hbn
  have kb := kb.later hbn
  have kc := kc.later hbn
  have kd := kd.later hbn
  have hb := bl_trans hb hbn hb.size
  clear hbn
  obtain ⟨⟨dc0, dc1, dc2, dc3, dc4, dc5⟩, df0, df1, df2, df3, df4, df5⟩ := page_cells kd
  have ja := ka.page_far (b := bd) nad (.int .i64 gq1) (.int .u8 gq2) (.int .i64 gq3) (.int .u8 gq4) (.int .i64 gq5) (.int .i64 gq6)
  obtain ⟨⟨azc0, azc1, azc2, azc3, azc4, azc5⟩, azf0, azf1, azf2, azf3, azf4, azf5⟩ := page_cells ja
  clear ja
  have jb := kb.page_far (b := bd) nbd (.int .i64 gq1) (.int .u8 gq2) (.int .i64 gq3) (.int .u8 gq4) (.int .i64 gq5) (.int .i64 gq6)
  obtain ⟨⟨bzc0, bzc1, bzc2, bzc3, bzc4, bzc5⟩, bzf0, bzf1, bzf2, bzf3, bzf4, bzf5⟩ := page_cells jb
  clear jb
  go_wp2_with (go_at_call 24; refine stop_ (fun Ps hPs => ?_))
  refine hPs ?_
  clear hPs Ps
  clear azc0 azf0 azc1 azf1 azc2 azf2 azc3 azf3 azc4 azf4 azc5 azf5
  clear bzc0 bzf0 bzc1 bzf1 bzc2 bzf2 bzc3 bzf3 bzc4 bzf4 bzc5 bzf5
  clear dc0 df0 dc1 df1 dc2 df2 dc3 df3 dc4 df4 dc5 df5
  have kp := kp.page_far (b := bd) npd (.int .i64 gq1) (.int .u8 gq2) (.int .i64 gq3) (.int .u8 gq4) (.int .i64 gq5) (.int .i64 gq6)
  have ka := ka.page_far (b := bd) nad (.int .i64 gq1) (.int .u8 gq2) (.int .i64 gq3) (.int .u8 gq4) (.int .i64 gq5) (.int .i64 gq6)
  have kb := kb.page_far (b := bd) nbd (.int .i64 gq1) (.int .u8 gq2) (.int .i64 gq3) (.int .u8 gq4) (.int .i64 gq5) (.int .i64 gq6)
  have kc := kc.page_far (b := bd) ncd (.int .i64 gq1) (.int .u8 gq2) (.int .i64 gq3) (.int .u8 gq4) (.int .i64 gq5) (.int .i64 gq6)
  have kd := kd.page (.int .i64 gq1) (.int .u8 gq2) (.int .i64 gq3) (.int .u8 gq4) (.int .i64 gq5) (.int .i64 gq6)
  have hb := below_page hb (b := bd) led (.int .i64 gq1) (.int .u8 gq2) (.int .i64 gq3) (.int .u8 gq4) (.int .i64 gq5) (.int .i64 gq6)
  generalize hW : World.setCell (World.setCell (World.setCell (World.setCell (World.setCell (World.setCell w29 _ _) _ _) _ _) _ _) _ _) _ _ = w30 at *
  clear hW
  refine (tf _).mono ?_
  clear tf
  rintro e w31 ⟨rfl, hbn⟩
  have kp := kp.later hbn
  have ka := ka.later hbn
  have kb := kb.later hbn
  have kc := kc.later hbn
  have kd := kd.later hbn
  have hb := bl_trans hb hbn hb.size
  clear hbn
  obtain ⟨⟨cc0, cc1, cc2, cc3, cc4, cc5⟩, cf0, cf1, cf2, cf3, cf4, cf5⟩ := page_cells kc
  obtain ⟨⟨dc0, dc1, dc2, dc3, dc4, dc5⟩, df0, df1, df2, df3, df4, df5⟩ := page_cells kd
  go_wp2_with (go_at_call 24; refine stop_ (fun Ps hPs => ?_))
  refine hPs ?_
  clear hPs Ps
  clear cc0 cf0 cc1 cf1 cc2 cf2 cc3 cf3 cc4 cf4 cc5 cf5
  clear dc0 df0 dc1 df1 dc2 df2 dc3 df3 dc4 df4 dc5 df5
  refine (tg _).mono ?_
  clear tg
  rintro e w32 ⟨rfl, hbn⟩
  have kp := kp.later hbn
  have ka := ka.later hbn
  have kb := kb.later hbn
  have kc := kc.later hbn
  have kd := kd.later hbn
  have hb := bl_trans hb hbn hb.size
  clear hbn
  obtain ⟨⟨pc0, pc1, pc2, pc3, pc4, pc5⟩, pf0, pf1, pf2, pf3, pf4, pf5⟩ := page_cells kp
  go_wp2_with (go_at_call 11; refine stop_ (fun Ps hPs => ?_))
  refine hPs ?_
  clear hPs Ps
  clear pc0 pf0 pc1 pf1 pc2 pf2 pc3 pf3 pc4 pf4 pc5 pf5
  refine (h11 _).mono ?_
  clear h11
  rintro e w33 ⟨rfl, hbn⟩
  have kp := kp.later hbn
  have ka := ka.later hbn
  have kb := kb.later hbn
  have kc := kc.later hbn
  have kd := kd.later hbn
  have hb := bl_trans hb hbn hb.size
  clear hbn
  obtain ⟨⟨ac0, ac1, ac2, ac3, ac4, ac5⟩, af0, af1, af2, af3, af4, af5⟩ := page_cells ka
  have jp := kp.page_far (b := ba) npa (.int .i64 hq1) (.int .u8 hq2) (.int .i64 hq3) (.int .u8 hq4) (.int .i64 hq5) (.int .i64 hq6)
  obtain ⟨⟨pzc0, pzc1, pzc2, pzc3, pzc4, pzc5⟩, pzf0, pzf1, pzf2, pzf3, pzf4, pzf5⟩ := page_cells jp
  clear jp
  go_wp2_with (go_at_call 30; refine stop_ (fun Ps hPs => ?_))
  refine hPs ?_
  clear hPs Ps
  clear ac0 af0 ac1 af1 ac2 af2 ac3 af3 ac4 af4 ac5 af5
  clear pzc0 pzf0 pzc1 pzf1 pzc2 pzf2 pzc3 pzf3 pzc4 pzf4 pzc5 pzf5
  have kp := kp.page_far (b := ba) npa (.int .i64 hq1) (.int .u8 hq2) (.int .i64 hq3) (.int .u8 hq4) (.int .i64 hq5) (.int .i64 hq6)
  have kb := kb.page_far (b := ba) nab.symm (.int .i64 hq1) (.int .u8 hq2) (.int .i64 hq3) (.int .u8 hq4) (.int .i64 hq5) (.int .i64 hq6)
  have kc := kc.page_far (b := ba) nac.symm (.int .i64 hq1) (.int .u8 hq2) (.int .i64 hq3) (.int .u8 hq4) (.int .i64 hq5) (.int .i64 hq6)
  have kd := kd.page_far (b := ba) nad.symm (.int .i64 hq1) (.int .u8 hq2) (.int .i64 hq3) (.int .u8 hq4) (.int .i64 hq5) (.int .i64 hq6)
  have ka := ka.page (.int .i64 hq1) (.int .u8 hq2) (.int .i64 hq3) (.int .u8 hq4) (.int .i64 hq5) (.int .i64 hq6)
  have hb := below_page hb (b := ba) lea (.int .i64 hq1) (.int .u8 hq2) (.int .i64 hq3) (.int .u8 hq4) (.int .i64 hq5) (.int .i64 hq6)
  generalize hW : World.setCell (World.setCell (World.setCell (World.setCell (World.setCell (World.setCell w33 _ _) _ _) _ _) _ _) _ _) _ _ = w34 at *
  clear hW
  refine (h30 _).mono ?_
  clear h30
  rintro e w35 ⟨rfl, hbn⟩
  have kp := kp.later hbn
  have ka := ka.later hbn
  have kb := kb.later hbn
  have kc := kc.later hbn
  have kd := kd.later hbn
  have hb := bl_trans hb hbn hb.size
  clear hbn
  obtain ⟨⟨bc0, bc1, bc2, bc3, bc4, bc5⟩, bf0, bf1, bf2, bf3, bf4, bf5⟩ := page_cells kb
  have ja := ka.page_far (b := bb) nab (.int .i64 hq1) (.int .u8 hq2) (.int .i64 hq3) (.int .u8 hq4) (.int .i64 hq5) (.int .i64 hq6)
  obtain ⟨⟨azc0, azc1, azc2, azc3, azc4, azc5⟩, azf0, azf1, azf2, azf3, azf4, azf5⟩ := page_cells ja
  clear ja
  have jb := kb.page (.int .i64 hq1) (.int .u8 hq2) (.int .i64 hq3) (.int .u8 hq4) (.int .i64 hq5) (.int .i64 hq6)
  obtain ⟨⟨bzc0, bzc1, bzc2, bzc3, bzc4, bzc5⟩, bzf0, bzf1, bzf2, bzf3, bzf4, bzf5⟩ := page_cells jb
  clear jb
  have jp := kp.page_far (b := bb) npb (.int .i64 hq1) (.int .u8 hq2) (.int .i64 hq3) (.int .u8 hq4) (.int .i64 hq5) (.int .i64 hq6)
  obtain ⟨⟨pzc0, pzc1, pzc2, pzc3, pzc4, pzc5⟩, pzf0, pzf1, pzf2, pzf3, pzf4, pzf5⟩ := page_cells jp
  clear jp
  go_wp2_with fail
  clear azc0 azf0 azc1 azf1 azc2 azf2 azc3 azf3 azc4 azf4 azc5 azf5
  clear bc0 bf0 bc1 bf1 bc2 bf2 bc3 bf3 bc4 bf4 bc5 bf5
  clear bzc0 bzf0 bzc1 bzf1 bzc2 bzf2 bzc3 bzf3 bzc4 bzf4 bzc5 bzf5
  clear pzc0 pzf0 pzc1 pzf1 pzc2 pzf2 pzc3 pzf3 pzc4 pzf4 pzc5 pzf5
  have kp := kp.page_far (b := bb) npb (.int .i64 hq1) (.int .u8 hq2) (.int .i64 hq3) (.int .u8 hq4) (.int .i64 hq5) (.int .i64 hq6)
  have ka := ka.page_far (b := bb) nab (.int .i64 hq1) (.int .u8 hq2) (.int .i64 hq3) (.int .u8 hq4) (.int .i64 hq5) (.int .i64 hq6)
  have kc := kc.page_far (b := bb) nbc.symm (.int .i64 hq1) (.int .u8 hq2) (.int .i64 hq3) (.int .u8 hq4) (.int .i64 hq5) (.int .i64 hq6)
  have kd := kd.page_far (b := bb) nbd.symm (.int .i64 hq1) (.int .u8 hq2) (.int .i64 hq3) (.int .u8 hq4) (.int .i64 hq5) (.int .i64 hq6)
  have kb := kb.page (.int .i64 hq1) (.int .u8 hq2) (.int .i64 hq3) (.int .u8 hq4) (.int .i64 hq5) (.int .i64 hq6)
  have hb := below_page hb (b := bb) leb (.int .i64 hq1) (.int .u8 hq2) (.int .i64 hq3) (.int .u8 hq4) (.int .i64 hq5) (.int .i64 hq6)
  generalize hW : World.setCell (World.setCell (World.setCell (World.setCell (World.setCell (World.setCell w35 _ _) _ _) _ _) _ _) _ _) _ _ = w36 at *
  clear hW
  obtain ⟨⟨ac0, ac1, ac2, ac3, ac4, ac5⟩, af0, af1, af2, af3, af4, af5⟩ := page_cells ka
  obtain ⟨⟨bc0, bc1, bc2, bc3, bc4, bc5⟩, bf0, bf1, bf2, bf3, bf4, bf5⟩ := page_cells kb
  obtain ⟨⟨pc0, pc1, pc2, pc3, pc4, pc5⟩, pf0, pf1, pf2, pf3, pf4, pf5⟩ := page_cells kp
  go_region_held3 (fun w' => (w'.cell? ⟨ba, 0, none⟩ = some (Value.int .i64 hq1) ∧ w'.cell? ⟨ba, 1, none⟩ = some (Value.int .u8 hq2) ∧ w'.cell? ⟨ba, 2, none⟩ = some (Value.int .i64 hq3) ∧ w'.cell? ⟨ba, 3, none⟩ = some (Value.int .u8 hq4) ∧ w'.cell? ⟨ba, 4, none⟩ = some (Value.int .i64 hq5) ∧ w'.cell? ⟨ba, 5, none⟩ = some (Value.int .i64 hq6)) ∧ (w'.cell? ⟨bb, 0, none⟩ = some (Value.int .i64 hq1) ∧ w'.cell? ⟨bb, 1, none⟩ = some (Value.int .u8 hq2) ∧ w'.cell? ⟨bb, 2, none⟩ = some (Value.int .i64 hq3) ∧ w'.cell? ⟨bb, 3, none⟩ = some (Value.int .u8 hq4) ∧ w'.cell? ⟨bb, 4, none⟩ = some (Value.int .i64 hq5) ∧ w'.cell? ⟨bb, 5, none⟩ = some (Value.int .i64 hq6)) ∧ (w'.cell? ⟨w.heap.size, 0, none⟩ = some (Value.int .i64 a1) ∧ w'.cell? ⟨w.heap.size, 1, none⟩ = some (Value.int .u8 a2) ∧ w'.cell? ⟨w.heap.size, 2, none⟩ = some (Value.int .i64 a3) ∧ w'.cell? ⟨w.heap.size, 3, none⟩ = some (Value.int .u8 a4) ∧ w'.cell? ⟨w.heap.size, 4, none⟩ = some (Value.int .i64 a5) ∧ w'.cell? ⟨w.heap.size, 5, none⟩ = some (Value.int .i64 a6))) (exact ⟨⟨ac0, ac1, ac2, ac3, ac4, ac5⟩, ⟨bc0, bc1, bc2, bc3, bc4, bc5⟩, ⟨pc0, pc1, pc2, pc3, pc4, pc5⟩⟩)
    (first
      | (go_at_call 24; refine (th _).mono ?_; rintro e v1 ⟨rfl, hq0⟩; have hq1 := below_src hq0; have ka := ka.later hq1; obtain ⟨⟨ac0, ac1, ac2, ac3, ac4, ac5⟩, _⟩ := page_cells ka; have kb := kb.later hq1; obtain ⟨⟨bc0, bc1, bc2, bc3, bc4, bc5⟩, _⟩ := page_cells kb; have kp := kp.later hq1; obtain ⟨⟨pc0, pc1, pc2, pc3, pc4, pc5⟩, _⟩ := page_cells kp; have hb := bl_trans hb hq1 hb.size)
      | (go_at_call 15; refine (h15 _).mono ?_; rintro e v1 ⟨rfl, hq1⟩; have ka := ka.later hq1; obtain ⟨⟨ac0, ac1, ac2, ac3, ac4, ac5⟩, _⟩ := page_cells ka; have kb := kb.later hq1; obtain ⟨⟨bc0, bc1, bc2, bc3, bc4, bc5⟩, _⟩ := page_cells kb; have kp := kp.later hq1; obtain ⟨⟨pc0, pc1, pc2, pc3, pc4, pc5⟩, _⟩ := page_cells kp; have hb := bl_trans hb hq1 hb.size)
      | (go_at_call 31; refine (h31 _).mono ?_; rintro e v1 ⟨rfl, hq1⟩; have ka := ka.later hq1; obtain ⟨⟨ac0, ac1, ac2, ac3, ac4, ac5⟩, _⟩ := page_cells ka; have kb := kb.later hq1; obtain ⟨⟨bc0, bc1, bc2, bc3, bc4, bc5⟩, _⟩ := page_cells kb; have kp := kp.later hq1; obtain ⟨⟨pc0, pc1, pc2, pc3, pc4, pc5⟩, _⟩ := page_cells kp; have hb := bl_trans hb hq1 hb.size)
      | (go_at_call 16; refine (h16 _).mono ?_; rintro e v1 ⟨rfl, hq1⟩; have ka := ka.later hq1; obtain ⟨⟨ac0, ac1, ac2, ac3, ac4, ac5⟩, _⟩ := page_cells ka; have kb := kb.later hq1; obtain ⟨⟨bc0, bc1, bc2, bc3, bc4, bc5⟩, _⟩ := page_cells kb; have kp := kp.later hq1; obtain ⟨⟨pc0, pc1, pc2, pc3, pc4, pc5⟩, _⟩ := page_cells kp; have hb := bl_trans hb hq1 hb.size)
      | (go_at_call 32; refine (h32 _).mono ?_; rintro e v1 ⟨rfl, hq1⟩; have ka := ka.later hq1; obtain ⟨⟨ac0, ac1, ac2, ac3, ac4, ac5⟩, _⟩ := page_cells ka; have kb := kb.later hq1; obtain ⟨⟨bc0, bc1, bc2, bc3, bc4, bc5⟩, _⟩ := page_cells kb; have kp := kp.later hq1; obtain ⟨⟨pc0, pc1, pc2, pc3, pc4, pc5⟩, _⟩ := page_cells kp; have hb := bl_trans hb hq1 hb.size))
  all_goals
    go_wp2_with fail
    go_ret
    exact ⟨rfl, hb⟩
end Go.Proofs.Ytagehcnbllkipaa
