/- Two txns at once: a call of both tells the same. -/
import Derived.Test.YtlbekgephjlffaaBa
namespace Go.Proofs.Ytlbekgephjlffaa
open Go.RowKit Go.Lg
set_option linter.unusedVariables false
set_option linter.unusedSimpArgs false

/-- Two txns apart. -/
structure Duo (r1 r2 : Bool) (w : World) (B z1 : Nat) (o1 : Bool) (sv1 : Value) (os1 : List Op3) (z2 : Nat) (o2 : Bool) (sv2 : Value) (os2 : List Op3) : Prop where
  t1 : TX r1 w B z1 o1 sv1 os1
  t2 : TX r2 w B z2 o2 sv2 os2
  hz : z1 ≠ z2
  hs : ∀ g, sv1.ownBlock = some g → sv2.ownBlock ≠ some g
theorem own_ne_tx {rf : Bool} {w : World} {B z base : Nat} {o : Bool} {sv v : Value} {os : List Op3} {n : Nat} {xs : List Value} (h : TX rf w B z o sv os) (hv : w.ownsRow base 43 3 v n xs) : ∀ g, v.ownBlock = some g → g ≠ z := owned_blk_ne hv h.blk (tty_ne rf)
theorem Duo.later {r1 r2 : Bool} {w w' : World} {B z1 z2 : Nat} {o1 o2 : Bool} {sv1 sv2 : Value} {os1 os2 : List Op3} (h : Duo r1 r2 w B z1 o1 sv1 os1 z2 o2 sv2 os2) (hb : Below w.heap.size w w') : Duo r1 r2 w' B z1 o1 sv1 os1 z2 o2 sv2 os2 :=
  ⟨h.t1.later hb, h.t2.later hb, h.hz, h.hs⟩
theorem Duo.swap {r1 r2 : Bool} {w : World} {B z1 z2 : Nat} {o1 o2 : Bool} {sv1 sv2 : Value} {os1 os2 : List Op3} (h : Duo r1 r2 w B z1 o1 sv1 os1 z2 o2 sv2 os2) : Duo r2 r1 w B z2 o2 sv2 os2 z1 o1 sv1 os1 :=
  ⟨h.t2, h.t1, fun e => h.hz e.symm, fun g h1 h2 => h.hs g h2 h1⟩
theorem Duo.fst {r1 r2 : Bool} {w w' : World} {B z1 z2 : Nat} {o1 o2 o' : Bool} {sv1 sv2 : Value} {os1 os2 os' : List Op3} (h : Duo r1 r2 w B z1 o1 sv1 os1 z2 o2 sv2 os2) (hl : Left r1 B z1 sv1 o' os' w w') : ∃ sv', Duo r1 r2 w' B z1 o' sv' os' z2 o2 sv2 os2 := by
  obtain ⟨sv', q1, q2, q3⟩ := hl
  refine ⟨sv', q1, h.t2.two q2 (fun e => h.hz e.symm) (fun b hb => own_ne_tx h.t2 h.t1.own b hb) (fun g hg => ⟨own_ne_tx h.t1 h.t2.own g hg, fun e => h.hs g e hg⟩), h.hz, fun g h1 h2 => ?_⟩
  rcases q3 g h1 with h4 | h4
  · exact h.hs g h4 h2
  · have := (h.t2.own.lt g h2).2
    omega
theorem Duo.snd {r1 r2 : Bool} {w w' : World} {B z1 z2 : Nat} {o1 o2 o' : Bool} {sv1 sv2 : Value} {os1 os2 os' : List Op3} (h : Duo r1 r2 w B z1 o1 sv1 os1 z2 o2 sv2 os2) (hl : Left r2 B z2 sv2 o' os' w w') : ∃ sv', Duo r1 r2 w' B z1 o1 sv1 os1 z2 o' sv' os' := by
  obtain ⟨sv', k⟩ := h.swap.fst hl
  exact ⟨sv', k.swap⟩
/-- Both are as far. -/
def Alike (r2 : Bool) (w : World) (B z1 z2 : Nat) (o : Bool) : Prop := ∃ sv1 os1 sv2 os2, Duo false r2 w B z1 o sv1 os1 z2 o sv2 os2 ∧ (o = false → os1 = os2)
theorem addE_alike {o : Bool} {os1 os2 : List Op3} (h : o = false → os1 = os2) (x : Op3) : addE o os1 x = addE o os2 x := by
  cases o
  · rw [h rfl]
  · rfl
theorem addO_alike {o : Bool} {os1 os2 : List Op3} (h : o = false → os1 = os2) (x : Op3) : o = false → addO o os1 x = addO o os2 x := fun ho => by rw [h ho]
theorem undoE_alike {o : Bool} {os1 os2 : List Op3} (h : o = false → os1 = os2) (x : Int) : undoE o os1 x = undoE o os2 x := by
  cases o
  · rw [h rfl]
  · rfl
theorem undoO_alike {o : Bool} {os1 os2 : List Op3} (h : o = false → os1 = os2) (x : Int) : o = false → undoO o os1 x = undoO o os2 x := fun ho => by rw [h ho]
theorem doneE_alike {o : Bool} {os1 os2 : List Op3} (h : o = false → os1 = os2) : doneE o os1 = doneE o os2 := by
  cases o
  · rw [h rfl]
  · rfl
theorem doneL_alike {o : Bool} {os1 os2 : List Op3} (h : o = false → os1 = os2) : doneL o os1 = doneL o os2 := by
  cases o
  · rw [h rfl]
  · rfl
theorem doneO_alike {o : Bool} {os1 os2 : List Op3} (h : o = false → os1 = os2) : doneO o os1 = doneO o os2 := by
  cases o
  · rw [h rfl]
  · rfl
theorem doneR_alike {o : Bool} {os1 os2 : List Op3} (h : o = false → os1 = os2) (hd : doneO o os2 = false) : doneR o os1 = os2 := by
  cases o
  · obtain rfl := h rfl
    unfold doneO at hd
    split at hd
    · cases hd
    · rename_i hn
      exact if_neg hn
  · unfold doneO at hd
    rw [if_neg (by unfold doneE; rw [if_pos rfl]; decide)] at hd
    cases hd
theorem owned_lft {rf : Bool} {B z base : Nat} {sv : Value} {o' : Bool} {os' : List Op3} {w w' : World} {e : TypeId} {sz n : Nat} {v : Value} {xs : List Value} (hv : w.ownsRow base e sz v n xs) (hl : Left rf B z sv o' os' w w')
    (hz : ∀ g, v.ownBlock = some g → g ≠ z) (hs : ∀ g, v.ownBlock = some g → sv.ownBlock ≠ some g) : w'.ownsRow base e sz v n xs := by
  obtain ⟨sv', h1, h2, h3⟩ := hl
  exact owned_two hv h2 (fun g hg => ⟨hz g hg, hs g hg⟩)
/-- A block beyond both stays. -/
theorem Duo.box1 {r1 r2 : Bool} {w w' : World} {B z1 z2 : Nat} {o1 o2 o' : Bool} {sv1 sv2 : Value} {os1 os2 os' : List Op3} {g : Nat} {t : TypeId} {cs : Array Value} (h : Duo r1 r2 w B z1 o1 sv1 os1 z2 o2 sv2 os2) (hl : Left r1 B z1 sv1 o' os' w w') (k : Blk w g t cs) (hz : g ≠ z1) (ht : (43 : TypeId) ≠ t) : Blk w' g t cs :=
  hl.box h.t1 k hz (fun b hb => owned_blk_ne h.t1.own k ht b hb)
theorem Duo.box2 {r1 r2 : Bool} {w w' : World} {B z1 z2 : Nat} {o1 o2 o' : Bool} {sv1 sv2 : Value} {os1 os2 os' : List Op3} {g : Nat} {t : TypeId} {cs : Array Value} (h : Duo r1 r2 w B z1 o1 sv1 os1 z2 o2 sv2 os2) (hl : Left r2 B z2 sv2 o' os' w w') (k : Blk w g t cs) (hz : g ≠ z2) (ht : (43 : TypeId) ≠ t) : Blk w' g t cs := h.swap.box1 hl k hz ht
def Both (B z1 z2 : Nat) (w : World) (e : Ending) (w' : World) : Prop := e = .returned (.bool true) ∧ (∃ o', Alike true w' B z1 z2 o') ∧ Below B w w'
theorem both_mk {w w0 w' : World} {B z1 z2 : Nat} {o : Bool} {sv1 sv2 : Value} {os1 os2 : List Op3} (h : Duo false true w' B z1 o sv1 os1 z2 o sv2 os2) (ha : o = false → os1 = os2) (hb : Below B w w') : Both B z1 z2 w (.returned (.bool true)) w' := ⟨rfl, ⟨o, sv1, os1, sv2, os2, h, ha⟩, hb⟩
set_option maxRecDepth 100000 in
set_option maxHeartbeats 16000000 in
theorem call20 {B z1 z2 : Nat} {o : Bool} {w : World} (h : Alike true w B z1 z2 o) (kd m : Int) (key val : ByteArray) (hkd : -9223372036854775808 ≤ kd ∧ kd ≤ 9223372036854775807) :
    Calls Try.prog 20 #[P z1, P z2, .agg #[.int .i64 kd, .string key, .string val, .int .i64 m]] w (Both B z1 z2 w) := by
  obtain ⟨sv1, os1, sv2, os2, hd, hal⟩ := h
  have hb := (Below.refl w.heap.size w).alloc (Nat.le_refl _) (.cells #[.int .i64 kd, .string key, .string val, .int .i64 m] 29)
  have kx := Blk.new w 29 #[.int .i64 kd, .string key, .string val, .int .i64 m]
  obtain ⟨W, hW⟩ : ∃ W, W = w.alloc (.cells #[.int .i64 kd, .string key, .string val, .int .i64 m] 29) := ⟨_, rfl⟩
  rw [← hW] at hb kx
  have hD := hd.later hb
  have hx1 : w.heap.size ≠ z1 := fun e => by have := hd.t1.blk.lt; omega
  have hx2 : w.heap.size ≠ z2 := fun e => by have := hd.t2.blk.lt; omega
  have hB := hb.mono hd.t1.leB
  have hp := pick23 kd 5 (by omega) (by omega) hkd W
  have a0 : W.cell? ⟨w.heap.size, 0, none⟩ = some (.int .i64 kd) := kx.cell 0
  have HD := hid hD
  have HB := hid hB
  have KX := hid kx
  have HAL := hid hal
  clear hd hb kx hD hB hal
  go_enter Try.func20, Try.ntmps20
  go_wp2_with (go_at_call 23; refine stop_ (fun Ps hPs => ?_))
  refine hPs ?_
  clear hPs Ps
  rw [← hW]
  clear hW
  refine hp.mono ?_
  clear hp a0
  rintro e w2 ⟨r, rfl, hr, rfl⟩
  have ht29 : (43 : TypeId) ≠ 29 := by decide
  obtain rfl | rfl | rfl | rfl | rfl : r = 0 ∨ r = 1 ∨ r = 2 ∨ r = 3 ∨ r = 4 := by omega
  · have D1 := hid (HD.out.later ((Below.refl w2.heap.size w2).drew))
    have hE := addE_alike HAL.out (Op3.mk true key val)
    obtain ⟨R, hR⟩ : ∃ R, addE o os2 (Op3.mk true key val) = R := ⟨_, rfl⟩
    rw [hR] at hE
    have c1 := put10 D1.out.t1 key val
    rw [hE] at c1
    have H1 := hid c1
    have HE := hid hR
    have KD := hid (KX.out.later ((Below.refl w2.heap.size w2).drew))
    clear c1 hE hR
    have K1 := hid (show w2.drew.cell? ⟨w.heap.size, 1, none⟩ = some (Value.string key) ∧ w2.drew.cell? ⟨w.heap.size, 2, none⟩ = some (Value.string val) from ⟨KD.out.cell 1, KD.out.cell 2⟩)
    have K0 := hid (show w2.cell? ⟨w.heap.size, 1, none⟩ = some (Value.string key) ∧ w2.cell? ⟨w.heap.size, 2, none⟩ = some (Value.string val) from ⟨KX.out.cell 1, KX.out.cell 2⟩)
    go_wp2_with fail
    go_region_held3 (fun w' => w'.cell? ⟨w.heap.size, 1, none⟩ = some (Value.string key) ∧ w'.cell? ⟨w.heap.size, 2, none⟩ = some (Value.string val)) (first | (with_reducible exact K1.out) | (with_reducible exact K0.out) | (with_reducible exact q5.out) | (with_reducible exact q6.out))
      (first
        | (go_at_call 10; (with_reducible refine H1.out.mono ?_); rintro e5 w5 ⟨rfl, hl5⟩; have hb5 := hl5.below' D1.out.t1; have k5 := D1.out.box1 hl5 KD.out hx1 ht29; obtain ⟨sv5, d5⟩ := D1.out.fst hl5; have D5 := hid d5; have KX5 := hid k5; have q5 := hid (show w5.cell? ⟨w.heap.size, 1, none⟩ = some (Value.string key) ∧ w5.cell? ⟨w.heap.size, 2, none⟩ = some (Value.string val) from ⟨k5.cell 1, k5.cell 2⟩); have c2 := put32 d5.t2 key val; rw [HE.out] at c2; have H2 := hid c2; clear c2 d5 k5)
        | (go_at_call 32; (with_reducible refine H2.out.mono ?_); rintro e6 w6 ⟨rfl, hl6⟩; have hb6 := hl6.below' D5.out.t2; have k6 := D5.out.box2 hl6 KX5.out hx2 ht29; obtain ⟨sv6, d6⟩ := D5.out.snd hl6; have D6 := hid d6; have q6 := hid (show w6.cell? ⟨w.heap.size, 1, none⟩ = some (Value.string key) ∧ w6.cell? ⟨w.heap.size, 2, none⟩ = some (Value.string val) from ⟨k6.cell 1, k6.cell 2⟩); clear d6 k6))
    have hbb := (HB.out.drew.trans hb5).trans hb6
    go_wp2_with fail
    go_ret
    exact ⟨by simp, ⟨o, _, _, _, _, D6.out, addO_alike HAL.out (Op3.mk true key val)⟩, hbb⟩
  · have D1 := hid (HD.out.later ((Below.refl w2.heap.size w2).drew))
    have hE := addE_alike HAL.out (Op3.mk false key s0)
    obtain ⟨R, hR⟩ : ∃ R, addE o os2 (Op3.mk false key s0) = R := ⟨_, rfl⟩
    rw [hR] at hE
    have c1 := delete12 D1.out.t1 key
    rw [hE] at c1
    have H1 := hid c1
    have HE := hid hR
    have KD := hid (KX.out.later ((Below.refl w2.heap.size w2).drew))
    clear c1 hE hR
    have K1 := hid (show w2.drew.cell? ⟨w.heap.size, 1, none⟩ = some (Value.string key) from KD.out.cell 1)
    have K0 := hid (show w2.cell? ⟨w.heap.size, 1, none⟩ = some (Value.string key) from KX.out.cell 1)
    go_wp2_with fail
    go_region_held3 (fun w' => w'.cell? ⟨w.heap.size, 1, none⟩ = some (Value.string key)) (first | (with_reducible exact K1.out) | (with_reducible exact K0.out) | (with_reducible exact q5.out) | (with_reducible exact q6.out))
      (first
        | (go_at_call 12; (with_reducible refine H1.out.mono ?_); rintro e5 w5 ⟨rfl, hl5⟩; have hb5 := hl5.below' D1.out.t1; have k5 := D1.out.box1 hl5 KD.out hx1 ht29; obtain ⟨sv5, d5⟩ := D1.out.fst hl5; have D5 := hid d5; have KX5 := hid k5; have q5 := hid (show w5.cell? ⟨w.heap.size, 1, none⟩ = some (Value.string key) from k5.cell 1); have c2 := delete33 d5.t2 key; rw [HE.out] at c2; have H2 := hid c2; clear c2 d5 k5)
        | (go_at_call 33; (with_reducible refine H2.out.mono ?_); rintro e6 w6 ⟨rfl, hl6⟩; have hb6 := hl6.below' D5.out.t2; have k6 := D5.out.box2 hl6 KX5.out hx2 ht29; obtain ⟨sv6, d6⟩ := D5.out.snd hl6; have D6 := hid d6; have q6 := hid (show w6.cell? ⟨w.heap.size, 1, none⟩ = some (Value.string key) from k6.cell 1); clear d6 k6))
    have hbb := (HB.out.drew.trans hb5).trans hb6
    go_wp2_with fail
    go_ret
    exact ⟨by simp, ⟨o, _, _, _, _, D6.out, addO_alike HAL.out (Op3.mk false key s0)⟩, hbb⟩
  · have D1 := hid (HD.out.later ((Below.refl w2.heap.size w2).drew))
    have hE := undoE_alike HAL.out m
    obtain ⟨R, hR⟩ : ∃ R, undoE o os2 m = R := ⟨_, rfl⟩
    rw [hR] at hE
    have c1 := undo13 D1.out.t1 m
    rw [hE] at c1
    have H1 := hid c1
    have HE := hid hR
    have KD := hid (KX.out.later ((Below.refl w2.heap.size w2).drew))
    clear c1 hE hR
    have K1 := hid (show w2.drew.cell? ⟨w.heap.size, 3, none⟩ = some (Value.int .i64 m) from KD.out.cell 3)
    have K0 := hid (show w2.cell? ⟨w.heap.size, 3, none⟩ = some (Value.int .i64 m) from KX.out.cell 3)
    go_wp2_with fail
    go_region_held3 (fun w' => w'.cell? ⟨w.heap.size, 3, none⟩ = some (Value.int .i64 m)) (first | (with_reducible exact K1.out) | (with_reducible exact K0.out) | (with_reducible exact q5.out) | (with_reducible exact q6.out))
      (first
        | (go_at_call 13; (with_reducible refine H1.out.mono ?_); rintro e5 w5 ⟨rfl, hl5⟩; have hb5 := hl5.below' D1.out.t1; have k5 := D1.out.box1 hl5 KD.out hx1 ht29; obtain ⟨sv5, d5⟩ := D1.out.fst hl5; have D5 := hid d5; have KX5 := hid k5; have q5 := hid (show w5.cell? ⟨w.heap.size, 3, none⟩ = some (Value.int .i64 m) from k5.cell 3); have c2 := undo34 d5.t2 m; rw [HE.out] at c2; have H2 := hid c2; clear c2 d5 k5)
        | (go_at_call 34; (with_reducible refine H2.out.mono ?_); rintro e6 w6 ⟨rfl, hl6⟩; have hb6 := hl6.below' D5.out.t2; have k6 := D5.out.box2 hl6 KX5.out hx2 ht29; obtain ⟨sv6, d6⟩ := D5.out.snd hl6; have D6 := hid d6; have q6 := hid (show w6.cell? ⟨w.heap.size, 3, none⟩ = some (Value.int .i64 m) from k6.cell 3); clear d6 k6))
    have hbb := (HB.out.drew.trans hb5).trans hb6
    go_wp2_with fail
    go_ret
    exact ⟨by simp, ⟨o, _, _, _, _, D6.out, undoO_alike HAL.out m⟩, hbb⟩
  · have hE := doneE_alike HAL.out
    obtain ⟨R, hR⟩ : ∃ R, doneE o os2 = R := ⟨_, rfl⟩
    rw [hR] at hE
    have hL := doneL_alike HAL.out
    have hO := doneO_alike HAL.out
    have c1 := done14 HD.out.t1
    rw [hE, hL, hO] at c1
    have HE := hid hR
    clear hE hR hL hO
    go_wp2_with (go_at_call 14; refine stop_ (fun Ps hPs => ?_))
    refine hPs ?_
    clear hPs Ps
    refine c1.mono ?_
    clear c1
    rintro e w3 ⟨v3, rfl, ho3, hl3⟩
    have hb3 := HB.out.trans (hl3.left.below' HD.out.t1)
    have hs2 := HD.out.t1.leB
    have hz2 := HD.out.t2.blk.lt
    have hsv2 : ∀ g, sv2.ownBlock = some g → g < w2.heap.size := fun g hg => (HD.out.t2.own.lt g hg).2
    obtain ⟨sv3, d3⟩ := HD.out.fst hl3.left
    have c2 := done35 d3.t2
    rw [HE.out] at c2
    have D3 := hid d3
    have HO3 := hid ho3
    have HB3 := hid hb3
    clear hl3 d3 ho3 hb3
    go_wp2_with (go_at_call 35; refine stop_ (fun Ps hPs => ?_))
    refine hPs ?_
    clear hPs Ps
    refine c2.mono ?_
    clear c2
    rintro e w4 ⟨v4, rfl, ho4, hl4⟩
    have hb4 := HB3.out.trans (hl4.left.below' D3.out.t2)
    obtain ⟨sv4, d4⟩ := D3.out.snd hl4.left
    have ho5 := owned_lft HO3.out hl4.left (fun g hg => by have := (HO3.out.lt g hg).1; omega) (fun g hg hg2 => by have := (HO3.out.lt g hg).1; have := hsv2 g hg2; omega)
    have hs4 := D3.out.t1.leB
    obtain ⟨A3, c3, rfl, _, _⟩ := owned_slice ho5
    obtain ⟨A4, c4, rfl, _, _⟩ := owned_slice ho4
    have om : OS w4 w4.heap.size A3 (doneL o os2).length (doneL o os2) := ⟨Rd.of_own ho5, rfl⟩
    have ov : OS w4 w4.heap.size A4 (doneL o os2).length (doneL o os2) := ⟨Rd.of_own ho4, rfl⟩
    have hl8 : (doneL o os2).length ≤ 8 := by
      have := HD.out.t2.le
      unfold doneL
      split
      · exact this
      · simp
    have D4 := hid d4
    have HB4 := hid hb4
    clear hl4 ho5 ho4 d4 hb4 HO3
    obtain ⟨L, hL⟩ : ∃ L, L = doneL o os2 := ⟨_, rfl⟩
    rw [← hL] at om ov hl8 ⊢
    clear hL
    go_wp2_with (go_at_call 15; refine stop_ (fun Ps hPs => ?_))
    refine hPs ?_
    clear hPs Ps
    refine (same15 A3 A4 L.length c3 c4 _ _ L w4 om ov (by omega)).mono ?_
    rintro e w5 ⟨rfl, d, hd⟩
    have hbn : Below w4.heap.size w4 w5 := by rw [hd]; exact below_drewN (Below.refl _ _) d
    have D5 := hid (D4.out.later hbn)
    have hb5 := HB4.out.trans (hbn.mono D4.out.t1.leB)
    clear hd om ov hbn
    go_wp2_with fail
    go_ret
    refine ⟨rfl, ⟨_, _, _, _, _, D5.out, fun h => ?_⟩, hb5⟩
    exact doneR_alike HAL.out h
  · have c1 := drop18 HD.out.t1
    go_wp2_with (go_at_call 18; refine stop_ (fun Ps hPs => ?_))
    refine hPs ?_
    clear hPs Ps
    refine c1.mono ?_
    clear c1
    rintro e w3 ⟨rfl, hl3⟩
    have hb3 := HB.out.trans (hl3.below' HD.out.t1)
    obtain ⟨sv3, d3⟩ := HD.out.fst hl3
    have c2 := drop36 d3.t2
    have D3 := hid d3
    clear hl3 d3
    go_wp2_with (go_at_call 36; refine stop_ (fun Ps hPs => ?_))
    refine hPs ?_
    clear hPs Ps
    refine c2.mono ?_
    clear c2
    rintro e w4 ⟨rfl, hl4⟩
    have hb4 := hb3.trans (hl4.below' D3.out.t2)
    obtain ⟨sv4, d4⟩ := D3.out.snd hl4
    clear hl4
    have D4 := hid d4
    clear d4
    go_wp2_with fail
    go_ret
    exact ⟨by simp, ⟨_, _, _, _, _, D4.out, fun h => by cases h⟩, hb4⟩
end Go.Proofs.Ytlbekgephjlffaa
