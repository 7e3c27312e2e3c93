/- Whatever is done to a transaction, call by call, it answers what the document says: the walk. -/
import Derived.Test.YtlbekgephjlffaaCa
namespace Go.Proofs.Ytlbekgephjlffaa
open Go.RowKit Go.Lg
set_option linter.unusedVariables false
set_option linter.unusedSimpArgs false

theorem lenV_alike {o : Bool} {os1 os2 : List Op3} (h : o = false → os1 = os2) : lenV o os1 = lenV o os2 := by
  cases o
  · rw [h rfl]
  · rfl
theorem getR_alike {o : Bool} {os1 os2 : List Op3} (h : o = false → os1 = os2) (key : ByteArray) : getR o key os1 = getR o key os2 := by
  cases o
  · rw [h rfl]
  · rfl
set_option maxRecDepth 100000 in
set_option maxHeartbeats 16000000 in
theorem script5 (A : Option Addr) (n c : Nat) (l : List Ac) (w : World) (ha : AS w w.heap.size A n l) (hn9 : n ≤ 9223372036854775807) : Calls Try.prog 5 #[.slice A n c] w (Yes w) := by
  obtain ⟨B, hB⟩ : ∃ B, B = w.heap.size := ⟨_, rfl⟩
  have HBE := hid hB
  have hBe : B ≤ w.heap.size := Nat.le_of_eq hB
  rw [← hB] at ha
  clear hB
  go_enter Try.func5, Try.ntmps5
  go_wp2_with (go_at_call 8; refine stop_ (fun Ps hPs => ?_))
  refine hPs ?_
  clear hPs Ps
  refine (lives8 w).mono ?_
  rintro e w0 ⟨rfl, hb⟩
  have hs0 := Nat.le_trans hBe hb.size
  have hb := hb.mono hBe
  by_cases g0 : 60 < n
  · have q0 : (60 : Int) < (n : Int) := by omega
    rw [HBE.out] at hb
    go_wp2_with fail
    go_ret
    exact ⟨rfl, hb⟩
  have q0 : ¬(60 : Int) < (n : Int) := by omega
  go_wp2_with (go_at_call 9; refine stop_ (fun Ps hPs => ?_))
  refine hPs ?_
  clear hPs Ps
  refine (begin9 (B := B) hs0).mono ?_
  rintro e w1 ⟨rfl, h1, hbn⟩
  have hb := hb.trans (hbn.mono hs0)
  obtain ⟨z1, hz1⟩ : ∃ z, z = w0.heap.size := ⟨_, rfl⟩
  rw [← hz1] at h1 ⊢
  have hzl := h1.blk.lt
  clear hz1 hs0 hbn hBe
  go_wp2_with (go_at_call 19; refine stop_ (fun Ps hPs => ?_))
  refine hPs ?_
  clear hPs Ps
  refine (begin19 (B := B) h1.leB).mono ?_
  rintro e w2 ⟨rfl, h2, hbn⟩
  have hb := hb.trans (hbn.mono h1.leB)
  have hd : Alike true w2 B z1 w1.heap.size false := ⟨_, _, _, _, ⟨h1.later hbn, h2, by omega, fun g hg => by cases hg⟩, fun _ => rfl⟩
  obtain ⟨z2, hz2⟩ : ∃ z, z = w1.heap.size := ⟨_, rfl⟩
  rw [← hz2] at hd ⊢
  clear hz2 h1 h2 hzl hbn
  go_wp2_with fail
  go_loopg [5] n (fun q i wr => ∃ (j : Nat) (o : Bool), j ≤ n ∧ q = n - j ∧ i = .int .i64 j ∧ Alike true wr B z1 z2 o ∧ Below B w wr)
  case atStart => exact ⟨0, false, by omega, rfl, rfl, hd, hb⟩
  case round =>
    clear hd hb
    obtain ⟨j, o, hj, rfl, rfl, hd, hb⟩ := hrel
    by_cases hlt : j < n
    · obtain ⟨b, off, kd, key, val, m, rfl, hbB, haj, hkd, c0, c1, c2, c3⟩ := (ha.keep hb).at_ hlt
      have hji : (j : Int) < (n : Int) := by omega
      have hc := call20 hd kd m key val hkd
      clear haj hd
      go_wp2_with (go_at_call 20; refine stop_ (fun Ps hPs => ?_))
      refine hPs ?_
      clear hPs Ps
      clear c0 c1 c2 c3
      refine hc.mono ?_
      clear hc
      rintro e w3 ⟨rfl, ⟨o', sv1, os1, sv2, os2, hd, hal⟩, hb3⟩
      have hb := hb.trans hb3
      have hle := lenV_alike hal
      have h11 := len11 hd.t1
      rw [show LenIs o' os1 = LenIs o' os2 by unfold LenIs; rw [hle]] at h11
      have h21 := len21 hd.t2
      have HD := hid hd
      have HAL := hid hal
      clear hd hal hb3 hle
      go_wp2_with (go_at_call 11; refine stop_ (fun Ps hPs => ?_))
      refine hPs ?_
      clear hPs Ps
      refine h11.mono ?_
      rintro e w4 ⟨rfl, rfl⟩
      clear h11
      go_wp2_with (go_at_call 21; refine stop_ (fun Ps hPs => ?_))
      refine hPs ?_
      clear hPs Ps
      refine h21.mono ?_
      rintro e w5 ⟨rfl, rfl⟩
      clear h21
      obtain ⟨L, hL⟩ : ∃ L, lenV o' os2 = L := ⟨_, rfl⟩
      rw [hL]
      clear hL
      go_wp2_with fail
      go_loopg [6] (j + 1) (fun q i wr => ∃ k : Nat, k ≤ j + 1 ∧ q = j + 1 - k ∧ i = .int .i64 k ∧ Duo false true wr B z1 o' sv1 os1 z2 o' sv2 os2 ∧ Below B w wr)
      case atStart => exact ⟨0, by omega, rfl, rfl, HD.out, hb⟩
      case round =>
        clear HD hb
        obtain ⟨k, hk, rfl, rfl, hd, hb⟩ := hrel
        by_cases hlk : k < j + 1
        · obtain ⟨b', off', kd', key', val', m', hA, hbB', haj', hkd', d0, d1, d2, d3⟩ := (ha.keep hb).at_ (j := k) (by omega)
          simp only [Option.some.injEq, Addr.mk.injEq, and_true] at hA
          obtain ⟨rfl, rfl⟩ := hA
          have hki : (k : Int) ≤ (j : Int) := by omega
          have hkn : (k : Int) < (n : Int) := by omega
          have hg := getR_alike HAL.out key'
          obtain ⟨⟨gv, gm, gp⟩, hG⟩ : ∃ r, getR o' key' os2 = r := ⟨_, rfl⟩
          rw [hG] at hg
          have h17 := get17 hd.t1 key'
          rw [hg] at h17
          have HG := hid hG
          clear hg hG haj' d0 d2 d3
          go_wp2_with (go_at_call 17; refine stop_ (fun Ps hPs => ?_))
          refine hPs ?_
          clear hPs Ps
          refine h17.mono ?_
          clear h17
          rintro e w4 ⟨rfl, hbn⟩
          have hbnB := hbn.mono hd.t1.leB
          have d1 := (hbnB.cell (p := ⟨b, off + k * 4 + 1, none⟩) hbB).trans d1
          have hd := hd.later hbn
          have hb := hb.trans hbnB
          have h22 := get22 hd.t2 key'
          rw [HG.out] at h22
          clear hbn hbnB
          go_wp2_with (go_at_call 22; refine stop_ (fun Ps hPs => ?_))
          refine hPs ?_
          clear hPs Ps
          refine h22.mono ?_
          clear h22 d1
          rintro e w5 ⟨rfl, hbn⟩
          have hb := hb.trans (hbn.mono hd.t1.leB)
          have hd := hd.later hbn
          have HD := hid hd
          clear hd hbn
          have q5 : (gv.toList == gv.toList) = true := by simp
          have q6 : (gm == gm) = true := by simp
          have q7 : (gp == gp) = true := by simp
          go_wp2_with fail
          go_roundg (j + 1 - (k + 1))
          case measure => omega
          case rel => exact ⟨k + 1, by omega, rfl, by go_num, HD.out, hb⟩
        · obtain rfl : k = j + 1 := by omega
          have hki : ¬((j + 1 : Nat) : Int) ≤ (j : Int) := by omega
          have HD := hid hd
          clear hd
          go_wp2_with fail
          go_roundg (n - (j + 1))
          case measure => omega
          case rel => exact ⟨j + 1, o', by omega, rfl, by go_num, ⟨_, _, _, _, HD.out, HAL.out⟩, hb⟩
    · obtain rfl : j = n := by omega
      rw [HBE.out] at hb
      clear hd
      go_wp2_with fail
      go_ret
      exact ⟨rfl, hb⟩
end Go.Proofs.Ytlbekgephjlffaa
