/- A call of both links tells the same. -/
import Derived.Test.YtigedoonhmaghaaSa
namespace Go.Proofs.Ytigedoonhmaghaa
open Go.RowKit Go.Lg
set_option linter.unusedVariables false
set_option linter.unusedSimpArgs false
set_option maxRecDepth 100000 in
set_option maxHeartbeats 16000000 in
theorem call19 {F B z1 z2 : Nat} {q : Int} {ks : List Key} {w : World} (h : Pair F w B z1 z2 q ks) (x : Am) (hx : x.ok w B) (h40 : x.m ≤ 40) (A2 : Option Addr) (n2 c2 : Nat) (hr : Rd w w.heap.size 1 A2 n2 (bts x.b)) (h0 : 0 ≤ q) (h1 : q ≤ 4611686018427387904) :
    Calls Try.prog 19 #[P z1, P z2, x.v, .slice A2 n2 c2] w (Both F B z1 z2 q w) := by
  obtain ⟨sv1, ls1, sv2, ls2, hd, hk1, hk2⟩ := h
  obtain ⟨kd, xn, Ax, m, cx, bx⟩ := x
  have hlen := hx.len
  simp only at h40 hlen hr
  simp only [Am.v]
  have hb := (Below.refl w.heap.size w).alloc (Nat.le_refl _) (.cells #[.int .i64 kd, .int .i64 xn, .slice Ax m cx] 40)
  have kx := Blk.new w 40 #[.int .i64 kd, .int .i64 xn, .slice Ax m cx]
  obtain ⟨W, hW⟩ : ∃ W, W = w.alloc (.cells #[.int .i64 kd, .int .i64 xn, .slice Ax m cx] 40) := ⟨_, rfl⟩
  rw [← hW] at hb kx
  have hD := hd.later hb
  have hx1 : w.heap.size ≠ z1 := fun e => by have := hd.t1.blk.lt; omega
  have hx2 : w.heap.size ≠ z2 := fun e => by have := hd.t2.blk.lt; omega
  have hB := hb.mono hd.t1.leB
  have hp := pick15 kd 4 (by omega) (by omega) hx.kind W
  have a0 : W.cell? ⟨w.heap.size, 0, none⟩ = some (.int .i64 kd) := kx.cell 0
  have HD := hid hD
  have HB := hid hB
  have HBW := hid hb
  have HST := hid (Stay.later hb)
  have KX := hid kx
  have HK := hid (And.intro hk1 hk2)
  have HR := hid (And.intro (hx.rd.below hB) (hr.below hb))
  have HL := hid (And.intro h40 hlen)
  have HSZ := hid hb.size
  clear hd hb kx hD hB hk1 hk2 hx hr h40 hlen
  go_enter Try.func19, Try.ntmps19
  go_wp2_with (go_at_call 15; refine stop_ (fun Ps hPs => ?_))
  refine hPs ?_
  clear hPs Ps
  rw [← hW]
  clear hW
  refine hp.mono ?_
  clear hp a0
  rintro e w2 ⟨r, rfl, hr, rfl⟩
  have ht40 : (31 : TypeId) ≠ 40 := by decide
  obtain rfl | rfl | rfl | rfl : r = 0 ∨ r = 1 ∨ r = 2 ∨ r = 3 := by omega
  · have c1 := send10 HD.out.t1 h0 h1 xn A2 n2 c2 bx (HR.out.2.more HSZ.out) (by have := HL.out; omega)
    rw [HK.out.1] at c1
    obtain ⟨R, hR⟩ : ∃ R, sR q xn ks = R := ⟨_, rfl⟩
    obtain ⟨E, hE⟩ : ∃ E, sE xn ks = E := ⟨_, rfl⟩
    have a1 : w2.cell? ⟨w.heap.size, 1, none⟩ = some (.int .i64 xn) := KX.out.cell 1
    have HRE := hid (And.intro hR hE)
    clear hR hE
    go_wp2_with (go_at_call 10; refine stop_ (fun Ps hPs => ?_))
    refine hPs ?_
    clear hPs Ps
    clear a1
    refine c1.mono ?_
    clear c1
    rintro e w3 ⟨rfl, hl3⟩
    rw [HRE.out.1, HRE.out.2]
    simp only [two]
    have k3 := HD.out.box1 hl3 KX.out hx1 ht40
    obtain ⟨⟨sv3, ls3, d3, e3⟩, st3, b3⟩ := HD.out.fst hl3
    have c2 := send33 d3.t2 h0 h1 xn Ax m cx bx ((HR.out.1.below b3).more d3.t1.leB) (by have := HL.out; omega)
    rw [HK.out.2] at c2
    have a1 : w3.cell? ⟨w.heap.size, 1, none⟩ = some (.int .i64 xn) := k3.cell 1
    have a2 : w3.cell? ⟨w.heap.size, 2, none⟩ = some (.slice Ax m cx) := k3.cell 2
    have D3 := hid d3
    have G3 := hid (And.intro e3 (And.intro (HST.out.trans st3) (HB.out.trans b3)))
    clear hl3 k3 d3 e3 st3 b3
    go_wp2_with (go_at_call 33; refine stop_ (fun Ps hPs => ?_))
    refine hPs ?_
    clear hPs Ps
    clear a1 a2
    refine c2.mono ?_
    clear c2
    rintro e w4 ⟨rfl, hl4⟩
    rw [HRE.out.1, HRE.out.2]
    simp only [two]
    obtain ⟨⟨sv4, ls4, d4, e4⟩, st4, b4⟩ := D3.out.snd hl4
    have G4 := hid (And.intro (show Pair F w4 B z1 z2 (sL q xn ks) (sK q xn bx ks) from ⟨_, _, _, _, d4, G3.out.1, e4⟩) (And.intro (G3.out.2.1.trans st4) (G3.out.2.2.trans b4)))
    clear hl4 d4 e4 st4 b4
    have t1 : (R == R) = true := by simp
    have t2 : (E == E) = true := by simp
    go_wp2_with fail
    go_ret
    exact ⟨by simp, ⟨_, _, G4.out.1, sL_le _ _ _⟩, G4.out.2⟩
  · have c1 := deliver12 HD.out.t1 xn
    rw [HK.out.1] at c1
    obtain ⟨E, hE⟩ : ∃ E, dE xn ks = E := ⟨_, rfl⟩
    have HEE := hid hE
    clear hE
    have a1 : w2.cell? ⟨w.heap.size, 1, none⟩ = some (.int .i64 xn) := KX.out.cell 1
    go_wp2_with (go_at_call 12; refine stop_ (fun Ps hPs => ?_))
    refine hPs ?_
    clear hPs Ps
    clear a1
    refine c1.mono ?_
    clear c1
    rintro e w3 ⟨x5, hk5, rfl, hl3, ho5, h5⟩
    obtain ⟨yn, yt, yv, yb⟩ := x5
    obtain ⟨A5, c5, e9, _, _⟩ := owned_slice ho5
    simp only at e9
    subst e9
    simp only at ho5 h5
    rw [HEE.out]
    simp only [lv]
    have k3 := HD.out.box1 hl3 KX.out hx1 ht40
    obtain ⟨⟨sv3, ls3, d3, e3⟩, st3, b3⟩ := HD.out.fst hl3
    have bY := (Below.refl w3.heap.size w3).alloc (Nat.le_refl _) (.cells #[.int .i64 yn, .int .i64 yt, .slice A5 yb.length c5] 31)
    have kY := Blk.new w3 31 #[.int .i64 yn, .int .i64 yt, .slice A5 yb.length c5]
    have sY : (w3.alloc (.cells #[.int .i64 yn, .int .i64 yt, .slice A5 yb.length c5] 31)).heap.size = w3.heap.size + 1 := by simp
    obtain ⟨Y, hY⟩ : ∃ Y, Y = w3.alloc (.cells #[.int .i64 yn, .int .i64 yt, .slice A5 yb.length c5] 31) := ⟨_, rfl⟩
    rw [← hY] at bY kY sY
    have dY := d3.later bY
    have c2 := got34 dY.t2 xn
    rw [HK.out.2] at c2
    have kXY := k3.later bY
    have a1 : Y.cell? ⟨w.heap.size, 1, none⟩ = some (.int .i64 xn) := kXY.cell 1
    have zY1 : w3.heap.size ≠ z2 := fun e => by have := d3.t2.blk.lt; omega
    have zY2 : ∀ b, sv2.ownBlock = some b → b ≠ w3.heap.size := fun b hb e => by have := (d3.t2.own.lt b hb).2; omega
    have D3 := hid dY
    have GY := hid (And.intro zY1 zY2)
    have G3 := hid (And.intro e3 (And.intro ((HST.out.trans st3).trans (Stay.later bY)) (HB.out.trans (b3.trans (bY.mono d3.t1.leB)))))
    have O5 := hid (And.intro hk5 (And.intro (owned_later ho5 bY) h5))
    have KY := hid kY
    clear hl3 k3 d3 e3 st3 b3 bY kY dY kXY ho5 h5 hk5 zY1 zY2
    rw [hY] at a1
    go_wp2_with (go_at_call 34; refine stop_ (fun Ps hPs => ?_))
    refine hPs ?_
    clear hPs Ps
    rw [← hY]
    clear a1 hY
    refine c2.mono ?_
    clear c2
    rintro e w4 ⟨x6, hk6, rfl, hl4, ho6, h6⟩
    obtain ⟨vn, vt, vv, vb⟩ := x6
    obtain ⟨A6, c6, e9, _, _⟩ := owned_slice ho6
    simp only at e9
    subst e9
    simp only at ho6 h6
    rw [HEE.out]
    simp only [lv]
    have kY4 := blk_two KY.out hl4.two GY.out.1 GY.out.2
    obtain ⟨⟨sv4, ls4, d4, e4⟩, st4, b4⟩ := D3.out.snd hl4
    have o54 := st4 _ _ _ _ O5.out.2.1
    have bZ := (Below.refl w4.heap.size w4).alloc (Nat.le_refl _) (.cells #[.int .i64 vn, .int .i64 vt, .slice A6 vb.length c6] 31)
    have kZ := Blk.new w4 31 #[.int .i64 vn, .int .i64 vt, .slice A6 vb.length c6]
    obtain ⟨Z, hZ⟩ : ∃ Z, Z = w4.alloc (.cells #[.int .i64 vn, .int .i64 vt, .slice A6 vb.length c6] 31) := ⟨_, rfl⟩
    rw [← hZ] at bZ kZ
    have kYZ := kY4.later bZ
    have p0 : Z.cell? ⟨w3.heap.size, 0, none⟩ = some (.int .i64 yn) := kYZ.cell 0
    have p1 : Z.cell? ⟨w3.heap.size, 1, none⟩ = some (.int .i64 yt) := kYZ.cell 1
    have p2 : Z.cell? ⟨w3.heap.size, 2, none⟩ = some (.slice A5 yb.length c5) := kYZ.cell 2
    have u0 : Z.cell? ⟨w4.heap.size, 0, none⟩ = some (.int .i64 vn) := kZ.cell 0
    have u1 : Z.cell? ⟨w4.heap.size, 1, none⟩ = some (.int .i64 vt) := kZ.cell 1
    have u2 : Z.cell? ⟨w4.heap.size, 2, none⟩ = some (.slice A6 vb.length c6) := kZ.cell 2
    have b1 := (Below.refl Z.heap.size Z).alloc (Nat.le_refl _) (.cells #[.int .i64 yn, .int .i64 yt, .slice A5 yb.length c5] 31)
    have r1 := Rd.lit0 (sz := 3) Z #[.int .i64 yn, .int .i64 yt, .slice A5 yb.length c5] 31 1 rfl
    obtain ⟨V1, hV1⟩ : ∃ V, V = Z.alloc (.cells #[.int .i64 yn, .int .i64 yt, .slice A5 yb.length c5] 31) := ⟨_, rfl⟩
    rw [← hV1] at b1 r1
    have b2 := (Below.refl V1.heap.size V1).alloc (Nat.le_refl _) (.cells #[.int .i64 vn, .int .i64 vt, .slice A6 vb.length c6] 31)
    have r2 := Rd.lit0 (sz := 3) V1 #[.int .i64 vn, .int .i64 vt, .slice A6 vb.length c6] 31 1 rfl
    obtain ⟨V2, hV2⟩ : ∃ V, V = V1.alloc (.cells #[.int .i64 vn, .int .i64 vt, .slice A6 vb.length c6] 31) := ⟨_, rfl⟩
    rw [← hV2] at b2 r2
    have v0 : V1.cell? ⟨w4.heap.size, 0, none⟩ = some (.int .i64 vn) := (kZ.later b1).cell 0
    have v1 : V1.cell? ⟨w4.heap.size, 1, none⟩ = some (.int .i64 vt) := (kZ.later b1).cell 1
    have v2 : V1.cell? ⟨w4.heap.size, 2, none⟩ = some (.slice A6 vb.length c6) := (kZ.later b1).cell 2
    have sV1 : V1.heap.size = Z.heap.size + 1 := by rw [hV1]; simp
    have b14 := bZ.trans ((b1.trans (b2.mono b1.size)).mono bZ.size)
    have q5 := owned_later o54 b14
    have q6 := owned_later ho6 b14
    have hfl := flights16 (some ⟨Z.heap.size, 0, none⟩) (some ⟨V1.heap.size, 0, none⟩) 1 1 _ _ [⟨yn, yt, .slice A5 yb.length c5, yb⟩] [⟨vn, vt, .slice A6 vb.length c6, vb⟩] V2 (r1.below b2) r2
      (fun x hx => by
        simp at hx
        subst hx
        exact ⟨A5, c5, rfl, Rd.of_own q5, O5.out.2.2⟩)
      (fun x hx => by
        simp at hx
        subst hx
        exact ⟨A6, c6, rfl, Rd.of_own q6, h6⟩) (by simp) (by simp)
    have hkk : [(⟨yn, yt, .slice A5 yb.length c5, yb⟩ : Lt)].map Lt.k = [(⟨vn, vt, .slice A6 vb.length c6, vb⟩ : Lt)].map Lt.k := by
      have h8 := O5.out.1
      simp only [List.map_cons, List.map_nil, h8, hk6]
    rw [decide_eq_true hkk] at hfl
    simp only [List.length_cons, List.length_nil, Nat.zero_add] at hfl
    have sZ : Z.heap.size = w4.heap.size + 1 := by rw [hZ]; simp
    rw [sV1, sZ] at hfl
    have HFL := hid hfl
    have D4 := hid (d4.later b14)
    have G4 := hid (And.intro e4 (And.intro ((G3.out.2.1.trans st4).trans (Stay.later b14)) (G3.out.2.2.trans (b4.trans (b14.mono d4.t1.leB)))))
    have HV := hid (And.intro hV1 hV2)
    clear hl4 kY4 d4 e4 st4 b4 o54 bZ kZ kYZ b1 r1 b2 r2 sV1 sZ b14 q5 q6 hfl hkk ho6 h6 hk6 O5 KY
    have t2 : (E == E) = true := by simp
    rw [hV1] at v0 v1 v2
    rw [hZ] at p0 p1 p2 u0 u1 u2 v0 v1 v2
    go_wp2_with (go_at_call 16; refine stop_ (fun Ps hPs => ?_))
    refine hPs ?_
    clear hPs Ps p0 p1 p2 u0 u1 u2 v0 v1 v2
    rw [← hZ, ← HV.out.1, ← HV.out.2]
    refine HFL.out.mono ?_
    rintro e w5 ⟨rfl, d, hd⟩
    have b5 : Below V2.heap.size V2 w5 := by rw [hd]; exact below_drewN (Below.refl _ _) d
    have G5 := hid (And.intro (D4.out.later b5) (And.intro (Stay.later b5) (b5.mono D4.out.t1.leB)))
    clear hd b5
    go_wp2_with fail
    go_ret
    exact ⟨by simp, ⟨q, _, ⟨_, _, _, _, G5.out.1, G3.out.1, G4.out.1⟩, by omega, by omega⟩, G4.out.2.1.trans G5.out.2.1, G4.out.2.2.trans G5.out.2.2⟩
  · have c1 := twice11 HD.out.t1 h0 h1 xn
    rw [HK.out.1] at c1
    obtain ⟨R, hR⟩ : ∃ R, tR q xn ks = R := ⟨_, rfl⟩
    obtain ⟨E, hE⟩ : ∃ E, tE xn ks = E := ⟨_, rfl⟩
    have a1 : w2.cell? ⟨w.heap.size, 1, none⟩ = some (.int .i64 xn) := KX.out.cell 1
    have HRE := hid (And.intro hR hE)
    clear hR hE
    go_wp2_with (go_at_call 11; refine stop_ (fun Ps hPs => ?_))
    refine hPs ?_
    clear hPs Ps
    clear a1
    refine c1.mono ?_
    clear c1
    rintro e w3 ⟨rfl, hl3⟩
    rw [HRE.out.1, HRE.out.2]
    simp only [two]
    have k3 := HD.out.box1 hl3 KX.out hx1 ht40
    obtain ⟨⟨sv3, ls3, d3, e3⟩, st3, b3⟩ := HD.out.fst hl3
    have c2 := twice35 d3.t2 h0 h1 xn
    rw [HK.out.2] at c2
    have a1 : w3.cell? ⟨w.heap.size, 1, none⟩ = some (.int .i64 xn) := k3.cell 1
    have a2 : w3.cell? ⟨w.heap.size, 2, none⟩ = some (.slice Ax m cx) := k3.cell 2
    have D3 := hid d3
    have G3 := hid (And.intro e3 (And.intro (HST.out.trans st3) (HB.out.trans b3)))
    clear hl3 k3 d3 e3 st3 b3
    go_wp2_with (go_at_call 35; refine stop_ (fun Ps hPs => ?_))
    refine hPs ?_
    clear hPs Ps
    clear a1 a2
    refine c2.mono ?_
    clear c2
    rintro e w4 ⟨rfl, hl4⟩
    rw [HRE.out.1, HRE.out.2]
    simp only [two]
    obtain ⟨⟨sv4, ls4, d4, e4⟩, st4, b4⟩ := D3.out.snd hl4
    have G4 := hid (And.intro (show Pair F w4 B z1 z2 (tL q xn ks) (tK q xn ks) from ⟨_, _, _, _, d4, G3.out.1, e4⟩) (And.intro (G3.out.2.1.trans st4) (G3.out.2.2.trans b4)))
    clear hl4 d4 e4 st4 b4
    have t1 : (R == R) = true := by simp
    have t2 : (E == E) = true := by simp
    go_wp2_with fail
    go_ret
    exact ⟨by simp, ⟨_, _, G4.out.1, tL_le _ _ _⟩, G4.out.2⟩
  · have D1 := hid (HD.out.later ((Below.refl w2.heap.size w2).drew))
    have c1 := drop13 D1.out.t1 xn
    rw [HK.out.1] at c1
    obtain ⟨E, hE⟩ : ∃ E, dE xn ks = E := ⟨_, rfl⟩
    have c1 : Calls Try.prog 13 #[P z1, .int .i64 xn] w2.drew (fun e w' => e = .returned (.int .i64 E) ∧ Left F false B z1 sv1 q (dK xn ks) w2.drew w') := by rw [← hE]; exact c1
    have H1 := hid c1
    have HE := hid hE
    have KD := hid (KX.out.later ((Below.refl w2.heap.size w2).drew))
    clear c1 hE
    have K1 := hid (show w2.drew.cell? ⟨w.heap.size, 1, none⟩ = some (Value.int .i64 xn) from KD.out.cell 1)
    have K0 := hid (show w2.cell? ⟨w.heap.size, 1, none⟩ = some (Value.int .i64 xn) from KX.out.cell 1)
    go_wp2_with fail
    go_region_held3 (fun w' => w'.cell? ⟨w.heap.size, 1, none⟩ = some (Value.int .i64 xn)) (first | (with_reducible exact K1.out) | (with_reducible exact K0.out) | (with_reducible exact q5.out) | (with_reducible exact q6.out))
      (first
        | (go_at_call 13; (with_reducible refine H1.out.mono ?_); rintro e5 w5 ⟨rfl, hl5⟩; have k5 := D1.out.box1 hl5 KD.out hx1 ht40; obtain ⟨⟨sv5, ls5, d5, f5⟩, st5, b5⟩ := D1.out.fst hl5; have D5 := hid d5; have KX5 := hid k5; have G5 := hid (And.intro f5 (And.intro st5 b5)); have q5 := hid (show w5.cell? ⟨w.heap.size, 1, none⟩ = some (Value.int .i64 xn) from k5.cell 1); have c2 := drop36 d5.t2 xn; rw [HK.out.2] at c2; have H2 := hid (show Calls Try.prog 36 #[P z2, .int .i64 xn] w5 (fun e w' => e = .returned (.int .i64 E) ∧ Left F true B z2 sv2 q (dK xn ks) w5 w') from (by rw [← HE.out]; exact c2)); clear c2 d5 k5 f5 st5 b5)
        | (go_at_call 36; (with_reducible refine H2.out.mono ?_); rintro e6 w6 ⟨rfl, hl6⟩; have k6 := D5.out.box2 hl6 KX5.out hx2 ht40; obtain ⟨⟨sv6, ls6, d6, f6⟩, st6, b6⟩ := D5.out.snd hl6; have D6 := hid d6; have G6 := hid (And.intro f6 (And.intro st6 b6)); have q6 := hid (show w6.cell? ⟨w.heap.size, 1, none⟩ = some (Value.int .i64 xn) from k6.cell 1); clear d6 k6 f6 st6 b6))
    all_goals
      go_wp2_with fail
      go_ret
      exact ⟨by simp, ⟨q, _, ⟨_, _, _, _, D6.out, G5.out.1, G6.out.1⟩, by omega, by omega⟩, ((HST.out.trans (Stay.later ((Below.refl w2.heap.size w2).drew))).trans G5.out.2.1).trans G6.out.2.1, ((HB.out.drew.trans G5.out.2.2)).trans G6.out.2.2⟩
end Go.Proofs.Ytigedoonhmaghaa
