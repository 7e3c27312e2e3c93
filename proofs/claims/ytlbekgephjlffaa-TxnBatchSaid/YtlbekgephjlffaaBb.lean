/- A finished transaction is a proper batch of just what was put into it: the walk. -/
import Derived.Test.YtlbekgephjlffaaBa
namespace Go.Proofs.Ytlbekgephjlffaa
open Go.RowKit Go.Lg
set_option linter.unusedVariables false
set_option linter.unusedSimpArgs false

set_option maxRecDepth 100000 in
set_option maxHeartbeats 16000000 in
theorem batch7 (A : Option Addr) (n c : Nat) (l : List Ac) (w : World) (ha : AS w w.heap.size A n l) (hn9 : n ≤ 9223372036854775807) : Calls Try.prog 7 #[.slice A n c] w (Yes w) := by
  obtain ⟨B, hB⟩ : ∃ B, B = w.heap.size := ⟨_, rfl⟩
  have HBE := hid hB
  have hBe : B ≤ w.heap.size := Nat.le_of_eq hB
  rw [← hB] at ha
  clear hB
  go_enter Try.func7, Try.ntmps7
  go_wp2_with (go_at_call 8; refine stop_ (fun Ps hPs => ?_))
  refine hPs ?_
  clear hPs Ps
  refine (lives8 w).mono ?_
  rintro e w0 ⟨rfl, hb⟩
  have hs0 := Nat.le_trans hBe hb.size
  have hb := hb.mono hBe
  by_cases g0 : 60 < n
  · have q0 : (60 : Int) < (n : Int) := by omega
    rw [HBE.out] at hb
    go_wp2_with fail
    go_ret
    exact ⟨rfl, hb⟩
  have q0 : ¬(60 : Int) < (n : Int) := by omega
  go_wp2_with (go_at_call 9; refine stop_ (fun Ps hPs => ?_))
  refine hPs ?_
  clear hPs Ps
  refine (begin9 (B := B) hs0).mono ?_
  rintro e w1 ⟨rfl, h1, hbn⟩
  have hb := hb.trans (hbn.mono hs0)
  obtain ⟨z, hz⟩ : ∃ z, z = w0.heap.size := ⟨_, rfl⟩
  rw [← hz] at h1 ⊢
  clear hz hs0 hbn hBe
  have ht1 : TR false w1 B z false (.slice none 0 0) [] (.slice none 0 0) [] := ⟨h1, World.ownsRow_nil _ _ _ _, fun g hg => by cases hg⟩
  clear h1
  go_wp2_with fail
  go_loopg [4, 5] n (fun q v4 i wr => ∃ (j : Nat) (sv : Value) (os : List Op3), j ≤ n ∧ q = n - j ∧ i = .int .i64 j ∧ TR false wr B z false sv os v4 os ∧ Below B w wr ∧ Hid (∀ x ∈ os, x.ok))
  case atStart => exact ⟨0, _, [], by omega, rfl, rfl, ht1, hb, hid (fun x hx => by cases hx)⟩
  case round =>
    clear ht1 hb
    obtain ⟨j, sv, os, hj, rfl, rfl, ht, hb, hok⟩ := hrel
    by_cases hlt : j < n
    · obtain ⟨b, off, kd, key, val, m, rfl, hbB, haj, hkd, c0, c1, c2, c3⟩ := (ha.keep hb).at_ hlt
      have hji : (j : Int) < (n : Int) := by omega
      have hbn : Below wr.heap.size wr (wr.alloc (.cells #[.int .i64 kd, .string key, .string val, .int .i64 m] 29)) := (Below.refl _ wr).alloc (Nat.le_refl _) _
      have kx := Blk.new wr 29 #[.int .i64 kd, .string key, .string val, .int .i64 m]
      obtain ⟨W, hW⟩ : ∃ W, W = wr.alloc (.cells #[.int .i64 kd, .string key, .string val, .int .i64 m] 29) := ⟨_, rfl⟩
      rw [← hW] at hbn kx
      have hT := ht.later hbn
      have hBW := hb.trans (hbn.mono ht.t.leB)
      have hzlt := ht.t.blk.lt
      have hxz : wr.heap.size ≠ z := by omega
      have hxs : ∀ g, sv.ownBlock = some g → g ≠ wr.heap.size := fun g hg => by have := (ht.t.own.lt g hg).2; omega
      have hxv : ∀ g, u4.ownBlock = some g → g ≠ wr.heap.size := fun g hg => by have := (ht.r.lt g hg).2; omega
      have hp := pick23 kd 3 (by omega) (by omega) hkd W
      have HT := hid hT
      have HBW := hid hBW
      have KX := hid kx
      have a0 : W.cell? ⟨wr.heap.size, 0, none⟩ = some (.int .i64 kd) := kx.cell 0
      clear ht hb hbn hT hBW kx
      go_wp2_with (go_at_call 23; refine stop_ (fun Ps hPs => ?_))
      refine hPs ?_
      clear hPs Ps
      rw [← hW]
      clear hW
      refine hp.mono ?_
      clear hp a0
      rintro e w2 ⟨r, rfl, hr, rfl⟩
      obtain ⟨A4, c4, rfl, hq1, hq2⟩ := HT.out.len
      obtain rfl | rfl | rfl : r = 0 ∨ r = 1 ∨ r = 2 := by omega
      · have a1 : w2.cell? ⟨wr.heap.size, 1, none⟩ = some (.string key) := KX.out.cell 1
        have a2 : w2.cell? ⟨wr.heap.size, 2, none⟩ = some (.string val) := KX.out.cell 2
        have hput := put10 HT.out.t key val
        obtain ⟨R, hR⟩ : ∃ R, addE false os (Op3.mk true key val) = R := ⟨_, rfl⟩
        rw [hR] at hput
        have HR := hid hR
        clear hR
        go_wp2_with (go_at_call 10; refine stop_ (fun Ps hPs => ?_))
        refine hPs ?_
        clear hPs Ps
        refine hput.mono ?_
        clear hput a1 a2
        rintro e w3 ⟨rfl, hl⟩
        obtain ⟨sv3, ht3⟩ := HT.out.left hl
        have hb3 := HBW.out.trans (hl.below' HT.out.t)
        have kx3 := hl.box HT.out.t KX.out hxz hxs
        clear hl
        by_cases hz0 : R = 0
        · subst hz0
          obtain ⟨_, hokx, h8⟩ := addE_zero HR.out
          rw [addO_ok HR.out] at ht3
          have a1 : w3.cell? ⟨wr.heap.size, 1, none⟩ = some (.string key) := kx3.cell 1
          have a2 : w3.cell? ⟨wr.heap.size, 2, none⟩ = some (.string val) := kx3.cell 2
          have HT3 := hid ht3
          have HB3 := hid hb3
          have hs3 := ht3.t.leB
          have HOK := hid hokx
          clear ht3 hb3 kx3 hokx
          go_wp2_with (at_builtin; refine stop_ (fun Ps hPs => ?_))
          refine hPs ?_
          clear hPs Ps
          refine wpList_app1 T33 (.tmp 56) (.tmp 62) rfl rfl HT3.out.r rfl rfl rfl (by simp [Value.oneCell']) (by omega) hs3 fun v4 w4 hown4 hg4 hat4 => ?_
          obtain ⟨A5, c5, rfl, _, _⟩ := owned_slice hown4
          obtain ⟨ht4, hb4⟩ := HT3.out.app (ys := os ++ [(Op3.mk true key val)]) hg4 (by rw [List.length_append, List.length_singleton, opc_app]; exact hown4) (fun g hg => by
            rcases hat4 with h | h
            · exact .inl (by rw [← h]; exact hg)
            · rw [h] at hg
              injection hg with hg
              exact .inr (by omega))
          have hb4 := HB3.out.trans hb4
          have hok4 : Hid (∀ y ∈ os ++ [(Op3.mk true key val)], y.ok) := hid fun y hy => by
            rcases List.mem_append.1 hy with h | h
            · exact hok.out y h
            · rw [List.mem_singleton.1 h]
              exact HOK.out
          clear hown4 hg4 hat4 a1 a2
          go_wp2_with (go_at_call 11; refine stop_ (fun Ps hPs => ?_))
          refine hPs ?_
          clear hPs Ps
          refine (len11 ht4.t).mono ?_
          rintro e w9 ⟨rfl, rfl⟩
          have hle : lenV false (os ++ [(Op3.mk true key val)]) = (((os ++ [(Op3.mk true key val)])).length : Int) := rfl
          rw [hle]
          clear hle
          have HTR := hid ht4
          have HBB := hid hb4
          go_wp2_with fail
          go_roundg (n - (j + 1))
          case measure => omega
          case rel => exact ⟨j + 1, sv3, (os ++ [(Op3.mk true key val)]), by omega, rfl, by go_num, HTR.out, HBB.out, hok4⟩
        · have q5 : (R == 0) = false := by simp [hz0]
          have hn0 : addE false os (Op3.mk true key val) ≠ 0 := by rw [HR.out]; exact hz0
          rw [addO_ne hn0] at ht3
          clear hz0 kx3 hn0
          go_wp2_with (go_at_call 11; refine stop_ (fun Ps hPs => ?_))
          refine hPs ?_
          clear hPs Ps
          refine (len11 ht3.t).mono ?_
          rintro e w9 ⟨rfl, rfl⟩
          have hle : lenV false os = ((os).length : Int) := rfl
          rw [hle]
          clear hle
          have HTR := hid ht3
          have HBB := hid hb3
          go_wp2_with fail
          go_roundg (n - (j + 1))
          case measure => omega
          case rel => exact ⟨j + 1, sv3, os, by omega, rfl, by go_num, HTR.out, HBB.out, hok⟩
      · have a1 : w2.cell? ⟨wr.heap.size, 1, none⟩ = some (.string key) := KX.out.cell 1
        have a2 : w2.cell? ⟨wr.heap.size, 2, none⟩ = some (.string val) := KX.out.cell 2
        have hput := delete12 HT.out.t key
        obtain ⟨R, hR⟩ : ∃ R, addE false os (Op3.mk false key s0) = R := ⟨_, rfl⟩
        rw [hR] at hput
        have HR := hid hR
        clear hR
        go_wp2_with (go_at_call 12; refine stop_ (fun Ps hPs => ?_))
        refine hPs ?_
        clear hPs Ps
        refine hput.mono ?_
        clear hput a1 a2
        rintro e w3 ⟨rfl, hl⟩
        obtain ⟨sv3, ht3⟩ := HT.out.left hl
        have hb3 := HBW.out.trans (hl.below' HT.out.t)
        have kx3 := hl.box HT.out.t KX.out hxz hxs
        clear hl
        by_cases hz0 : R = 0
        · subst hz0
          obtain ⟨_, hokx, h8⟩ := addE_zero HR.out
          rw [addO_ok HR.out] at ht3
          have a1 : w3.cell? ⟨wr.heap.size, 1, none⟩ = some (.string key) := kx3.cell 1
          have a2 : w3.cell? ⟨wr.heap.size, 2, none⟩ = some (.string val) := kx3.cell 2
          have HT3 := hid ht3
          have HB3 := hid hb3
          have hs3 := ht3.t.leB
          have HOK := hid hokx
          clear ht3 hb3 kx3 hokx
          go_wp2_with (at_builtin; refine stop_ (fun Ps hPs => ?_))
          refine hPs ?_
          clear hPs Ps
          refine wpList_app1 T33 (.tmp 71) (.tmp 75) rfl rfl HT3.out.r rfl rfl rfl (by simp [Value.oneCell']) (by omega) hs3 fun v4 w4 hown4 hg4 hat4 => ?_
          obtain ⟨A5, c5, rfl, _, _⟩ := owned_slice hown4
          obtain ⟨ht4, hb4⟩ := HT3.out.app (ys := os ++ [(Op3.mk false key s0)]) hg4 (by rw [List.length_append, List.length_singleton, opc_app]; exact hown4) (fun g hg => by
            rcases hat4 with h | h
            · exact .inl (by rw [← h]; exact hg)
            · rw [h] at hg
              injection hg with hg
              exact .inr (by omega))
          have hb4 := HB3.out.trans hb4
          have hok4 : Hid (∀ y ∈ os ++ [(Op3.mk false key s0)], y.ok) := hid fun y hy => by
            rcases List.mem_append.1 hy with h | h
            · exact hok.out y h
            · rw [List.mem_singleton.1 h]
              exact HOK.out
          clear hown4 hg4 hat4 a1 a2
          go_wp2_with (go_at_call 11; refine stop_ (fun Ps hPs => ?_))
          refine hPs ?_
          clear hPs Ps
          refine (len11 ht4.t).mono ?_
          rintro e w9 ⟨rfl, rfl⟩
          have hle : lenV false (os ++ [(Op3.mk false key s0)]) = (((os ++ [(Op3.mk false key s0)])).length : Int) := rfl
          rw [hle]
          clear hle
          have HTR := hid ht4
          have HBB := hid hb4
          go_wp2_with fail
          go_roundg (n - (j + 1))
          case measure => omega
          case rel => exact ⟨j + 1, sv3, (os ++ [(Op3.mk false key s0)]), by omega, rfl, by go_num, HTR.out, HBB.out, hok4⟩
        · have q5 : (R == 0) = false := by simp [hz0]
          have hn0 : addE false os (Op3.mk false key s0) ≠ 0 := by rw [HR.out]; exact hz0
          rw [addO_ne hn0] at ht3
          clear hz0 kx3 hn0
          go_wp2_with (go_at_call 11; refine stop_ (fun Ps hPs => ?_))
          refine hPs ?_
          clear hPs Ps
          refine (len11 ht3.t).mono ?_
          rintro e w9 ⟨rfl, rfl⟩
          have hle : lenV false os = ((os).length : Int) := rfl
          rw [hle]
          clear hle
          have HTR := hid ht3
          have HBB := hid hb3
          go_wp2_with fail
          go_roundg (n - (j + 1))
          case measure => omega
          case rel => exact ⟨j + 1, sv3, os, by omega, rfl, by go_num, HTR.out, HBB.out, hok⟩
      · have a3 : w2.cell? ⟨wr.heap.size, 3, none⟩ = some (.int .i64 m) := KX.out.cell 3
        have hput := undo13 HT.out.t m
        obtain ⟨R, hR⟩ : ∃ R, undoE false os m = R := ⟨_, rfl⟩
        rw [hR] at hput
        have HR := hid hR
        clear hR
        go_wp2_with (go_at_call 13; refine stop_ (fun Ps hPs => ?_))
        refine hPs ?_
        clear hPs Ps
        refine hput.mono ?_
        clear hput a3
        rintro e w3 ⟨rfl, hl⟩
        obtain ⟨sv3, ht3⟩ := HT.out.left hl
        have hb3 := HBW.out.trans (hl.below' HT.out.t)
        have kx3 := hl.box HT.out.t KX.out hxz hxs
        clear hl
        by_cases hz0 : R = 0
        · subst hz0
          obtain ⟨t, rfl, ht⟩ := undoE_zero HR.out
          rw [undoO_ok HR.out] at ht3
          have a3 : w3.cell? ⟨wr.heap.size, 3, none⟩ = some (.int .i64 (t : Int)) := kx3.cell 3
          have ht4 := ht3.cut rfl ht
          have hok4 : Hid (∀ y ∈ os.take t, y.ok) := hid fun y hy => hok.out y (List.mem_of_mem_take hy)
          have q6 : ¬(t : Int) < 0 := by omega
          have q7 : ¬(os.length : Int) < (t : Int) := by omega
          have q8 : (0 : Int) ≤ (t : Int) := by omega
          have q9 : (t : Int) ≤ (c4 : Int) := by omega
          have hlt4 := List.length_take_of_le ht
          clear ht3 kx3
          go_wp2_with (go_at_call 11; refine stop_ (fun Ps hPs => ?_))
          refine hPs ?_
          clear hPs Ps
          refine (len11 ht4.t).mono ?_
          rintro e w9 ⟨rfl, rfl⟩
          have hle : lenV false (os.take t) = (((os.take t)).length : Int) := rfl
          rw [hle]
          rw [hlt4]
          clear hle
          have HTR := hid ht4
          have HBB := hid hb3
          go_wp2_with fail
          go_roundg (n - (j + 1))
          case measure => omega
          case rel => exact ⟨j + 1, sv3, (os.take t), by omega, rfl, by go_num, HTR.out, HBB.out, hok4⟩
        · have q5 : (R == 0) = false := by simp [hz0]
          have hn0 : undoE false os m ≠ 0 := by rw [HR.out]; exact hz0
          rw [undoO_ne hn0] at ht3
          clear hz0 kx3 hn0
          go_wp2_with (go_at_call 11; refine stop_ (fun Ps hPs => ?_))
          refine hPs ?_
          clear hPs Ps
          refine (len11 ht3.t).mono ?_
          rintro e w9 ⟨rfl, rfl⟩
          have hle : lenV false os = ((os).length : Int) := rfl
          rw [hle]
          clear hle
          have HTR := hid ht3
          have HBB := hid hb3
          go_wp2_with fail
          go_roundg (n - (j + 1))
          case measure => omega
          case rel => exact ⟨j + 1, sv3, os, by omega, rfl, by go_num, HTR.out, HBB.out, hok⟩
    · obtain rfl : j = n := by omega
      obtain ⟨A4, c4, rfl, hq1, hq2⟩ := ht.len
      have hl8 := ht.t.le
      by_cases he : os.length = 0
      · obtain rfl : os = [] := List.length_eq_zero_iff.1 he
        clear he
        go_wp2_with (go_at_call 14; refine stop_ (fun Ps hPs => ?_))
        refine hPs ?_
        clear hPs Ps
        have hd : Calls Try.prog 14 #[P z] wr (Dones false B z sv 2 [] false [] wr) := done14 ht.t
        refine hd.mono ?_
        clear hd
        rintro e w3 ⟨v3, rfl, ho3, hl⟩
        have hb3 := hb.trans (hl.left.below' ht.t)
        obtain ⟨A3, c3, rfl, _, _⟩ := owned_slice ho3
        clear ht hb hl ho3
        rw [HBE.out] at hb3
        go_wp2_with fail
        go_ret
        exact ⟨rfl, hb3⟩
      · have hE : doneE false os = 0 := doneE_ok he
        have hL : doneL false os = os := if_pos hE
        have hO : doneO false os = true := if_pos hE
        have hR : doneR false os = [] := if_pos hE
        have q5 : ((os.length : Int) == 0) = false := by simp [he]
        have hbk : bk os = 0 := by
          unfold bk
          rw [if_neg he, if_neg (by omega), if_pos hok.out]
        have hd := done14 ht.t
        rw [hE, hL, hO, hR] at hd
        clear he hE hL hO hR
        have HT := hid ht
        have HB := hid hb
        clear ht hb
        go_wp2_with (go_at_call 14; refine stop_ (fun Ps hPs => ?_))
        refine hPs ?_
        clear hPs Ps
        refine hd.mono ?_
        clear hd
        rintro e w3 ⟨v3, rfl, ho3, hl⟩
        have hb3 := HB.out.trans (hl.left.below' HT.out.t)
        obtain ⟨sv3, ht3⟩ := HT.out.left hl.left
        have hr3 := ht3.r
        obtain ⟨A3, c3, rfl, _, _⟩ := owned_slice ho3
        have om : OS w3 w3.heap.size A3 os.length os := ⟨Rd.of_own ho3, rfl⟩
        have ov : OS w3 w3.heap.size A4 os.length os := ⟨Rd.of_own hr3, rfl⟩
        have hs3 := ht3.t.leB
        have hbt := batch24 A3 os.length c3 os w3 om (by omega)
        rw [hbk] at hbt
        have HB3 := hid hb3
        clear hl ht3 hr3 ho3 hbk hb3
        go_wp2_with (go_at_call 24; refine stop_ (fun Ps hPs => ?_))
        refine hPs ?_
        clear hPs Ps
        refine hbt.mono ?_
        clear hbt
        rintro e w4 ⟨rfl, hb4⟩
        have om := (om.keep hb4).more hb4.size
        have ov := (ov.keep hb4).more hb4.size
        have hb4 := HB3.out.trans (hb4.mono hs3)
        clear HB3
        have HB4 := hid hb4
        clear hb4
        go_wp2_with (go_at_call 15; refine stop_ (fun Ps hPs => ?_))
        refine hPs ?_
        clear hPs Ps
        refine (same15 A3 A4 os.length c3 c4 _ _ os w4 om ov (by omega)).mono ?_
        rintro e w5 ⟨rfl, d, hd⟩
        have hb5 : Below B w w5 := by rw [hd]; exact below_drewN HB4.out d
        clear hd om ov HB4
        rw [HBE.out] at hb5
        go_wp2_with fail
        go_ret
        exact ⟨rfl, hb5⟩
end Go.Proofs.Ytlbekgephjlffaa
