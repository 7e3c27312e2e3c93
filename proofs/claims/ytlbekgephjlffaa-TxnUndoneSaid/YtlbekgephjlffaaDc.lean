/- What is undone in a transaction leaves no trace: the walk. -/
import Derived.Test.YtlbekgephjlffaaDb
namespace Go.Proofs.Ytlbekgephjlffaa
open Go.RowKit Go.Lg
set_option linter.unusedVariables false
set_option linter.unusedSimpArgs false

theorem addO_more {o : Bool} {os ex : List Op3} {x : Op3} : ∃ ex', addO o (os ++ ex) x = os ++ ex' := by
  by_cases h : addE o (os ++ ex) x = 0
  · exact ⟨ex ++ [x], by rw [addO_ok h, List.append_assoc]⟩
  · exact ⟨ex, addO_ne h⟩
theorem addO_keys {o : Bool} {os : List Op3} {x : Op3} (h : ∀ y ∈ os, y.key.size ≤ 1000) : ∀ y ∈ addO o os x, y.key.size ≤ 1000 := by
  by_cases hz : addE o os x = 0
  · rw [addO_ok hz]
    intro y hy
    rcases List.mem_append.1 hy with q | q
    · exact h y q
    · rw [List.mem_singleton.1 q]
      have := (addE_zero hz).2.1.2.1
      omega
  · rw [addO_ne hz]
    exact h
theorem undo_back {os ex : List Op3} : undoE false (os ++ ex) ((os.length : Nat) : Int) = 0 ∧ undoO false (os ++ ex) ((os.length : Nat) : Int) = os := by
  have h1 : undoE false (os ++ ex) ((os.length : Nat) : Int) = 0 := undoE_ok (by simp)
  exact ⟨h1, by rw [undoO_ok h1]; simp⟩
set_option maxRecDepth 100000 in
set_option maxHeartbeats 16000000 in
theorem undone3 (A A' A2 : Option Addr) (n c n' c' n2 c2 : Nat) (l l' l2 : List Ac) (w : World) (ha : AS w w.heap.size A n l) (ha' : AS w w.heap.size A' n' l') (ha2 : AS w w.heap.size A2 n2 l2)
    (hn9 : n ≤ 9223372036854775807) (hn9' : n' ≤ 9223372036854775807) (hn92 : n2 ≤ 9223372036854775807) : Calls Try.prog 3 #[.slice A n c, .slice A' n' c', .slice A2 n2 c2] w (Yes w) := by
  obtain ⟨B, hB⟩ : ∃ B, B = w.heap.size := ⟨_, rfl⟩
  have HBE := hid hB
  have hBe : B ≤ w.heap.size := Nat.le_of_eq hB
  rw [← hB] at ha ha' ha2
  clear hB
  go_enter Try.func3, Try.ntmps3
  go_wp2_with (go_at_call 8; refine stop_ (fun Ps hPs => ?_))
  refine hPs ?_
  clear hPs Ps
  refine (lives8 w).mono ?_
  rintro e w0 ⟨rfl, hb⟩
  have hs0 := Nat.le_trans hBe hb.size
  have hb := hb.mono hBe
  by_cases g0 : 60 < n
  · have q0 : (60 : Int) < (n : Int) := by omega
    rw [HBE.out] at hb
    go_wp2_with fail
    go_ret
    exact ⟨rfl, hb⟩
  have q0 : ¬(60 : Int) < (n : Int) := by omega
  by_cases g1 : 60 < n'
  · have q1 : (60 : Int) < (n' : Int) := by omega
    rw [HBE.out] at hb
    go_wp2_with fail
    go_ret
    exact ⟨rfl, hb⟩
  have q1 : ¬(60 : Int) < (n' : Int) := by omega
  by_cases g2 : 60 < n2
  · have q2 : (60 : Int) < (n2 : Int) := by omega
    rw [HBE.out] at hb
    go_wp2_with fail
    go_ret
    exact ⟨rfl, hb⟩
  have q2 : ¬(60 : Int) < (n2 : Int) := by omega
  go_wp2_with (go_at_call 9; refine stop_ (fun Ps hPs => ?_))
  refine hPs ?_
  clear hPs Ps
  refine (begin9 (B := B) hs0).mono ?_
  rintro e w1 ⟨rfl, h1, hbn⟩
  have hb := hb.trans (hbn.mono hs0)
  obtain ⟨z1, hz1⟩ : ∃ z, z = w0.heap.size := ⟨_, rfl⟩
  rw [← hz1] at h1 ⊢
  have hzl := h1.blk.lt
  clear hz1 hs0 hbn hBe
  go_wp2_with (go_at_call 9; refine stop_ (fun Ps hPs => ?_))
  refine hPs ?_
  clear hPs Ps
  refine (begin9 (B := B) h1.leB).mono ?_
  rintro e w2 ⟨rfl, h2, hbn⟩
  have hb := hb.trans (hbn.mono h1.leB)
  have hd : Duo false false w2 B z1 false (.slice none 0 0) [] w1.heap.size false (.slice none 0 0) [] := ⟨h1.later hbn, h2, by omega, fun g hg => by cases hg⟩
  obtain ⟨z2, hz2⟩ : ∃ z, z = w1.heap.size := ⟨_, rfl⟩
  rw [← hz2] at hd ⊢
  clear hz2 h1 h2 hzl hbn
  go_wp2_with fail
  go_loopg [9] n (fun q i wr => ∃ (j : Nat) (sv1 sv2 : Value) (os : List Op3), j ≤ n ∧ q = n - j ∧ i = .int .i64 j ∧ Duo false false wr B z1 false sv1 os z2 false sv2 os ∧ Below B w wr ∧ Hid (∀ y ∈ os, y.key.size ≤ 1000))
  case atStart => exact ⟨0, _, _, [], by omega, rfl, rfl, hd, hb, hid (fun y hy => by cases hy)⟩
  case round =>
    clear hd hb
    obtain ⟨j, sv1, sv2, os, hj, rfl, rfl, hd, hb, hok⟩ := hrel
    by_cases hlt : j < n
    · obtain ⟨b, off, kd, key, val, m, rfl, hbB, haj, hkd, c0, c1, c2, c3⟩ := (ha.keep hb).at_ hlt
      have hji : (j : Int) < (n : Int) := by omega
      have D1 := hid (hd.later ((Below.refl wr.heap.size wr).drew))
      have K0 := hid (show wr.cell? ⟨b, off + j * 4 + 1, none⟩ = some (Value.string key) ∧ wr.cell? ⟨b, off + j * 4 + 2, none⟩ = some (Value.string val) from ⟨c1, c2⟩)
      have K1 := hid (show wr.drew.cell? ⟨b, off + j * 4 + 1, none⟩ = some (Value.string key) ∧ wr.drew.cell? ⟨b, off + j * 4 + 2, none⟩ = some (Value.string val) from ⟨c1, c2⟩)
      obtain ⟨R, hR⟩ : ∃ R, addE false os (Op3.mk true key val) = R := ⟨_, rfl⟩
      have p1 := put10 D1.out.t1 key val
      rw [hR] at p1
      have H1 := hid p1
      have HE := hid hR
      have HB := hid hb
      clear p1 hR hd hb haj c0 c3
      go_wp2_with fail
      go_region_held3 (fun w' => w'.cell? ⟨b, off + j * 4 + 1, none⟩ = some (Value.string key) ∧ w'.cell? ⟨b, off + j * 4 + 2, none⟩ = some (Value.string val)) (first | (with_reducible exact K1.out) | (with_reducible exact K0.out) | (with_reducible exact q5.out) | (with_reducible exact q6.out))
        (first
          | (go_at_call 10; (with_reducible refine H1.out.mono ?_); rintro e5 w5 ⟨rfl, hl5⟩; have hb5 := hl5.below' D1.out.t1; obtain ⟨sv5, d5⟩ := D1.out.fst hl5; have D5 := hid d5; have q5 := hid (show w5.cell? ⟨b, off + j * 4 + 1, none⟩ = some (Value.string key) ∧ w5.cell? ⟨b, off + j * 4 + 2, none⟩ = some (Value.string val) from ⟨(hb5.cell (p := ⟨b, off + j * 4 + 1, none⟩) hbB).trans K1.out.1, (hb5.cell (p := ⟨b, off + j * 4 + 2, none⟩) hbB).trans K1.out.2⟩); have p2 := put10 d5.t2 key val; rw [HE.out] at p2; have H2 := hid p2; clear p2 d5)
          | (go_at_call 10; (with_reducible refine H2.out.mono ?_); rintro e6 w6 ⟨rfl, hl6⟩; have hb6 := hl6.below' D5.out.t2; obtain ⟨sv6, d6⟩ := D5.out.snd hl6; have D6 := hid d6; have q6 := hid (show w6.cell? ⟨b, off + j * 4 + 1, none⟩ = some (Value.string key) ∧ w6.cell? ⟨b, off + j * 4 + 2, none⟩ = some (Value.string val) from ⟨(hb6.cell (p := ⟨b, off + j * 4 + 1, none⟩) hbB).trans q5.out.1, (hb6.cell (p := ⟨b, off + j * 4 + 2, none⟩) hbB).trans q5.out.2⟩); clear d6))
      have hbb := (HB.out.drew.trans hb5).trans hb6
      have hok2 : Hid (∀ y ∈ addO false os (Op3.mk true key val), y.key.size ≤ 1000) := hid (addO_keys hok.out)
      go_wp2_with fail
      go_roundg (n - (j + 1))
      case measure => omega
      case rel => exact ⟨j + 1, _, _, _, by omega, rfl, by go_num, D6.out, hbb, hok2⟩
    · have hll : lenV false os = (os.length : Int) := rfl
      have h11 := len11 hd.t1
      unfold LenIs at h11
      rw [hll] at h11
      have hlE := List.append_nil os
      have hD : Duo false false wr B z1 false sv1 (os ++ []) z2 false sv2 os := by rw [hlE]; exact hd
      have HD := hid hD
      have HB := hid hb
      clear hll hd hb hlE hD
      go_wp2_with (go_at_call 11; refine stop_ (fun Ps hPs => ?_))
      refine hPs ?_
      clear hPs Ps
      refine h11.mono ?_
      clear h11
      rintro e w5 ⟨rfl, rfl⟩
      go_wp2_with fail
      go_loopg [11] n' (fun q i wr => ∃ (k : Nat) (sv1 sv2 : Value) (ex : List Op3), k ≤ n' ∧ q = n' - k ∧ i = .int .i64 k ∧ Duo false false wr B z1 false sv1 (os ++ ex) z2 false sv2 os ∧ Below B w wr)
      case atStart => exact ⟨0, _, _, [], by omega, rfl, rfl, HD.out, HB.out⟩
      case round =>
        clear HD HB
        obtain ⟨k, sv1, sv2, ex, hk, rfl, rfl, hd, hb⟩ := hrel
        by_cases hlk : k < n'
        · obtain ⟨b, off, kd, key, val, m, rfl, hbB, haj, hkd, c0, c1, c2, c3⟩ := (ha'.keep hb).at_ hlk
          have hki : (k : Int) < (n' : Int) := by omega
          have p1 := delete12 hd.t1 key
          obtain ⟨ex2, hex2⟩ := addO_more (o := false) (os := os) (ex := ex) (x := Op3.mk false key s0)
          rw [hex2] at p1
          clear hex2 haj c0 c3
          go_wp2_with (go_at_call 12; refine stop_ (fun Ps hPs => ?_))
          refine hPs ?_
          clear hPs Ps
          refine p1.mono ?_
          clear p1
          rintro e w6 ⟨rfl, hl⟩
          have hb6 := hl.below' hd.t1
          have c1 := (hb6.cell (p := ⟨b, off + k * 4 + 1, none⟩) hbB).trans c1
          have c2 := (hb6.cell (p := ⟨b, off + k * 4 + 2, none⟩) hbB).trans c2
          have hb := hb.trans hb6
          obtain ⟨sv6, hd⟩ := hd.fst hl
          clear hl hb6
          have D1 := hid (hd.later ((Below.refl w6.heap.size w6).drew))
          have K0 := hid (show w6.cell? ⟨b, off + k * 4 + 1, none⟩ = some (Value.string key) ∧ w6.cell? ⟨b, off + k * 4 + 2, none⟩ = some (Value.string val) from ⟨c1, c2⟩)
          have K1 := hid (show w6.drew.cell? ⟨b, off + k * 4 + 1, none⟩ = some (Value.string key) ∧ w6.drew.cell? ⟨b, off + k * 4 + 2, none⟩ = some (Value.string val) from ⟨c1, c2⟩)
          have p1 := put10 D1.out.t1 key val
          obtain ⟨ex3, hex3⟩ := addO_more (o := false) (os := os) (ex := ex2) (x := Op3.mk true key val)
          rw [hex3] at p1
          have H1 := hid p1
          have HB := hid hb
          clear p1 hex3 hd hb
          go_wp2_with fail
          go_region_held3 (fun w' => w'.cell? ⟨b, off + k * 4 + 1, none⟩ = some (Value.string key) ∧ w'.cell? ⟨b, off + k * 4 + 2, none⟩ = some (Value.string val)) (first | (with_reducible exact K1.out) | (with_reducible exact K0.out) | (with_reducible exact q7.out))
            (first
              | (go_at_call 10; (with_reducible refine H1.out.mono ?_); rintro e7 w7 ⟨rfl, hl7⟩; have hb7 := hl7.below' D1.out.t1; obtain ⟨sv7, d7⟩ := D1.out.fst hl7; have D7 := hid d7; have q7 := hid (show w7.cell? ⟨b, off + k * 4 + 1, none⟩ = some (Value.string key) ∧ w7.cell? ⟨b, off + k * 4 + 2, none⟩ = some (Value.string val) from ⟨(hb7.cell (p := ⟨b, off + k * 4 + 1, none⟩) hbB).trans K1.out.1, (hb7.cell (p := ⟨b, off + k * 4 + 2, none⟩) hbB).trans K1.out.2⟩); clear d7))
          have hbb := HB.out.drew.trans hb7
          go_wp2_with fail
          go_roundg (n' - (k + 1))
          case measure => omega
          case rel => exact ⟨k + 1, _, _, _, by omega, rfl, by go_num, D7.out, hbb⟩
        · have h8 := hd.t1.le
          have hll : lenV false (os ++ ex) = ((os ++ ex).length : Int) := rfl
          have hlx : (os ++ ex).length = os.length + ex.length := List.length_append
          have h11 := len11 hd.t1
          unfold LenIs at h11
          rw [hll] at h11
          obtain ⟨La, hLa⟩ : ∃ La, La = (os ++ ex).length := ⟨_, rfl⟩
          rw [← hLa] at h11 hlx h8
          obtain ⟨u1, u2⟩ := undo_back (os := os) (ex := ex)
          have p1 := undo13 hd.t1 ((os.length : Nat) : Int)
          rw [u1, u2] at p1
          have x1 : ¬(8 : Int) < (La : Int) := by omega
          have x2 : ¬(La : Int) < (os.length : Int) := by omega
          have x3 : decide (La < os.length) = false := decide_eq_false (by omega)
          have x4 : decide ((8 : Int) < (La : Int)) = false := decide_eq_false x1
          have x5 : decide ((La : Int) < (os.length : Int)) = false := decide_eq_false x2
          have HD := hid hd
          have HB := hid hb
          clear hll hLa u1 u2 hlx h8 hd hb
          go_wp2_with (go_at_call 11; refine h11.mono ?_; rintro e w6 ⟨rfl, rfl⟩)
          go_wp2_with (go_at_call 13; refine stop_ (fun Ps hPs => ?_))
          refine hPs ?_
          clear hPs Ps
          refine p1.mono ?_
          clear p1 h11
          rintro e w7 ⟨rfl, hl⟩
          have hb7 := HB.out.trans (hl.below' HD.out.t1)
          obtain ⟨sv7, hd7⟩ := HD.out.fst hl
          have HD7 := hid hd7
          have HB7 := hid hb7
          clear hl hb7 hd7 HD HB
          go_wp2_with fail
          go_loopg [12] n2 (fun q i wr => ∃ (t : Nat) (sv1 sv2 : Value) (os : List Op3), t ≤ n2 ∧ q = n2 - t ∧ i = .int .i64 t ∧ Duo false false wr B z1 false sv1 os z2 false sv2 os ∧ Below B w wr ∧ Hid (∀ y ∈ os, y.key.size ≤ 1000))
          case atStart => exact ⟨0, _, _, _, by omega, rfl, rfl, HD7.out, HB7.out, hok⟩
          case round =>
            clear HD7 HB7 x1 x2 x3 x4 x5
            obtain ⟨t, sv8, sv9, os9, ht, rfl, rfl, hd, hb, hok9⟩ := hrel
            by_cases hlt2 : t < n2
            · obtain ⟨b, off, kd, key, val, m, rfl, hbB, haj, hkd, c0, c1, c2, c3⟩ := (ha2.keep hb).at_ hlt2
              have hti : (t : Int) < (n2 : Int) := by omega
              have D1 := hid (hd.later ((Below.refl wr.heap.size wr).drew))
              have K0 := hid (show wr.cell? ⟨b, off + t * 4 + 1, none⟩ = some (Value.string key) from c1)
              have K1 := hid (show wr.drew.cell? ⟨b, off + t * 4 + 1, none⟩ = some (Value.string key) from c1)
              obtain ⟨R, hR⟩ : ∃ R, addE false os9 (Op3.mk false key s0) = R := ⟨_, rfl⟩
              have p1 := delete12 D1.out.t1 key
              rw [hR] at p1
              have H1 := hid p1
              have HE := hid hR
              have HB := hid hb
              clear p1 hR hd hb haj c0 c2 c3
              go_wp2_with fail
              go_region_held3 (fun w' => w'.cell? ⟨b, off + t * 4 + 1, none⟩ = some (Value.string key)) (first | (with_reducible exact K1.out) | (with_reducible exact K0.out) | (with_reducible exact q5.out) | (with_reducible exact q6.out))
                (first
                  | (go_at_call 12; (with_reducible refine H1.out.mono ?_); rintro e5 w5 ⟨rfl, hl5⟩; have hb5 := hl5.below' D1.out.t1; obtain ⟨sv5, d5⟩ := D1.out.fst hl5; have D5 := hid d5; have q5 := hid (show w5.cell? ⟨b, off + t * 4 + 1, none⟩ = some (Value.string key) from (hb5.cell (p := ⟨b, off + t * 4 + 1, none⟩) hbB).trans K1.out); have p2 := delete12 d5.t2 key; rw [HE.out] at p2; have H2 := hid p2; clear p2 d5)
                  | (go_at_call 12; (with_reducible refine H2.out.mono ?_); rintro e6 w6 ⟨rfl, hl6⟩; have hb6 := hl6.below' D5.out.t2; obtain ⟨sv6, d6⟩ := D5.out.snd hl6; have D6 := hid d6; have q6 := hid (show w6.cell? ⟨b, off + t * 4 + 1, none⟩ = some (Value.string key) from (hb6.cell (p := ⟨b, off + t * 4 + 1, none⟩) hbB).trans q5.out); clear d6))
              have hbb := (HB.out.drew.trans hb5).trans hb6
              have hok2 : Hid (∀ y ∈ addO false os9 (Op3.mk false key s0), y.key.size ≤ 1000) := hid (addO_keys hok9.out)
              go_wp2_with fail
              go_roundg (n2 - (t + 1))
              case measure => omega
              case rel => exact ⟨t + 1, _, _, _, by omega, rfl, by go_num, D6.out, hbb, hok2⟩
            · have p1 := done14 hd.t1
              obtain ⟨R, hR⟩ : ∃ R, doneE false os9 = R := ⟨_, rfl⟩
              rw [hR] at p1
              have HR := hid hR
              have HD := hid hd
              have HB := hid hb
              have hx2 : ∀ g, sv9.ownBlock = some g → g < wr.heap.size := fun g hg => (hd.t2.own.lt g hg).2
              have hz2 := hd.t2.blk.lt
              have hl9 : (doneL false os9).length ≤ 8 := by
                have := hd.t1.le
                unfold doneL
                split
                · exact this
                · simp
              have hkk : Hid (∀ y ∈ doneL false os9, y.key.size ≤ 1000) := hid (by
                unfold doneL
                split
                · exact hok9.out
                · intro y hy
                  cases hy)
              obtain ⟨L, hL⟩ : ∃ L, doneL false os9 = L := ⟨_, rfl⟩
              rw [hL] at p1 hl9 hkk
              have HLL := hid hL
              clear hR hd hb hL
              go_wp2_with (go_at_call 14; refine stop_ (fun Ps hPs => ?_))
              refine hPs ?_
              clear hPs Ps
              refine p1.mono ?_
              clear p1
              rintro e w3 ⟨v3, rfl, ho3, hl3⟩
              have hb3 := HB.out.trans (hl3.left.below' HD.out.t1)
              have hsB := HD.out.t1.leB
              obtain ⟨sv3, d3⟩ := HD.out.fst hl3.left
              have p2 := done14 d3.t2
              rw [HR.out, HLL.out] at p2
              have D3 := hid d3
              have HO3 := hid ho3
              have HB3 := hid hb3
              clear hl3 d3 ho3 hb3
              go_wp2_with (go_at_call 14; refine stop_ (fun Ps hPs => ?_))
              refine hPs ?_
              clear hPs Ps
              refine p2.mono ?_
              clear p2
              rintro e w4 ⟨v4, rfl, ho4, hl4⟩
              have hb4 := HB3.out.trans (hl4.left.below' D3.out.t2)
              have ho5 := owned_lft HO3.out hl4.left (fun g hg => by have := (HO3.out.lt g hg).1; omega) (fun g hg hg2 => by have := (HO3.out.lt g hg).1; have := hx2 g hg2; omega)
              have hs3 := D3.out.t1.leB
              have hs4 : B ≤ w4.heap.size := by have := (D3.out.snd hl4.left); obtain ⟨_, q⟩ := this; exact q.t1.leB
              have hap : ∀ g, v3.ownBlock = some g → v4.ownBlock ≠ some g := fun g h1 h2 => by have := (HO3.out.lt g h1).2; have := (ho4.lt g h2).1; omega
              obtain ⟨A3, c3, rfl, _, _⟩ := owned_slice ho5
              obtain ⟨A4, c4, rfl, _, _⟩ := owned_slice ho4
              have ox := owned_less ho5 hsB
              have oy := owned_less ho4 hs3
              have om : OS w4 w4.heap.size A3 L.length L := ⟨Rd.of_own ho5, rfl⟩
              have ov : OS w4 w4.heap.size A4 L.length L := ⟨Rd.of_own ho4, rfl⟩
              have HB4 := hid hb4
              clear hl4 ho5 ho4 hb4 HO3 D3
              go_wp2_with (go_at_call 15; refine stop_ (fun Ps hPs => ?_))
              refine hPs ?_
              clear hPs Ps
              refine (same15 A3 A4 L.length c3 c4 _ _ L w4 om ov (by omega)).mono ?_
              rintro e w5 ⟨rfl, d, hdd⟩
              have hbn : Below w4.heap.size w4 w5 := by rw [hdd]; exact below_drewN (Below.refl _ _) d
              have ox := owned_later ox hbn
              have oy := owned_later oy hbn
              have hb5 := HB4.out.trans (hbn.mono hs4)
              have hs5 := Nat.le_trans hs4 hbn.size
              have q8 : (L.length : Int) ≤ 8 := by omega
              clear hdd om ov hbn HB4
              have HB5 := hid hb5
              have HAP := hid (apart16 B _ _ L w5 ox oy hap hs5 (by omega) hkk.out)
              clear hb5 ox oy hap
              go_wp2_with (go_at_call 16; refine stop_ (fun Ps hPs => ?_))
              refine hPs ?_
              clear hPs Ps
              refine HAP.out.mono ?_
              rintro e w6 ⟨rfl, hb6⟩
              have hbz := HB5.out.trans hb6
              rw [HBE.out] at hbz
              clear HAP HB5
              go_wp2_with fail
              go_ret
              exact ⟨by simp, hbz⟩
end Go.Proofs.Ytlbekgephjlffaa
