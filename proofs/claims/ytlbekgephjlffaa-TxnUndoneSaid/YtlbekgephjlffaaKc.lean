/- Txns: one op more. -/
import Derived.Test.YtlbekgephjlffaaKb
namespace Go.Proofs.Ytlbekgephjlffaa
open Go.RowKit Go.Lg
set_option linter.unusedVariables false
set_option linter.unusedSimpArgs false

set_option maxHeartbeats 4000000 in
set_option maxRecDepth 100000 in
theorem add25 {B z : Nat} {o : Bool} {sv : Value} {os : List Op3} {w : World} (h : TX false w B z o sv os) (x : Op3) : Calls Try.prog 25 #[P z, x.v] w (Acts false B z sv (addE o os x) o (addO o os x) w) := by
  obtain ⟨p, k, v⟩ := x
  have hb := (Below.refl w.heap.size w).alloc (Nat.le_refl _) (.cells #[.bool p, .string k, .string v] 43)
  have kx := Blk.new w 43 #[.bool p, .string k, .string v]
  obtain ⟨W, hW⟩ : ∃ W, W = w.alloc (.cells #[.bool p, .string k, .string v] 43) := ⟨_, rfl⟩
  rw [← hW] at hb kx
  have h1 := h.later hb
  have hne : w.heap.size ≠ z := fun e => by have := h.blk.lt; omega
  have hwr := wrong26 h1
  obtain ⟨A, c, rfl, hc1, hc2⟩ := owned_slice h1.own
  have HB := hid hb
  have H1 := hid h1
  have kz : Blk W z 50 #[.bool true, .bool o, .slice A os.length c] := h1.blk
  have b0 : W.cell? ⟨w.heap.size, 0, none⟩ = some (.bool p) := kx.cell 0
  have b1 : W.cell? ⟨w.heap.size, 1, none⟩ = some (.string k) := kx.cell 1
  have b2 : W.cell? ⟨w.heap.size, 2, none⟩ = some (.string v) := kx.cell 2
  have z2 : W.cell? ⟨z, 2, none⟩ = some (.slice A os.length c) := kz.cell 2
  cases o with
  | true =>
    have HR := hid (show addO true os ⟨p, k, v⟩ = os from if_neg (by rw [addE_over]; decide))
    have hwr : Calls Try.prog 26 #[P z] W (fun e w' => e = .returned (.int .i64 6) ∧ w' = W) := wrong26 h1
    clear h h1 hb kx kz
    go_enter Try.func25, Try.ntmps25
    go_wp2_with (go_at_call 26; refine stop_ (fun Ps hPs => ?_))
    refine hPs ?_
    clear hPs Ps
    rw [← hW]
    clear hW
    refine hwr.mono ?_
    clear hwr
    rintro e w1 ⟨rfl, h9⟩
    subst h9
    go_wp2_with fail
    go_ret
    rw [HR.out]
    exact acts_eq (addE_over _ _) (Left.from_ HB.out (Left.same H1.out (Below.refl _ _)))
  | false =>
    have hck := opcheck38 ⟨p, k, v⟩ W
    have hwr : Calls Try.prog 26 #[P z] W (fun e w' => e = .returned (.int .i64 0) ∧ w' = W) := wrong26 h1
    by_cases hok : (Op3.mk p k v).ok
    · have hk0 : opk ⟨p, k, v⟩ = 0 := if_pos hok
      rw [hk0] at hck
      clear hk0
      have HK := hid hok
      have KX := hid kx
      have HN := hid hne
      clear h h1 hb kx kz hok b0 b1 b2 z2 hne
      go_enter Try.func25, Try.ntmps25
      go_wp2_with (go_at_call 26; refine stop_ (fun Ps hPs => ?_))
      refine hPs ?_
      clear hPs Ps
      rw [← hW]
      clear hW
      refine hwr.mono ?_
      clear hwr
      rintro e w1 ⟨rfl, h9⟩
      subst h9
      have b0 : w1.cell? ⟨w.heap.size, 0, none⟩ = some (.bool p) := KX.out.cell 0
      have b1 : w1.cell? ⟨w.heap.size, 1, none⟩ = some (.string k) := KX.out.cell 1
      have b2 : w1.cell? ⟨w.heap.size, 2, none⟩ = some (.string v) := KX.out.cell 2
      go_wp2_with (go_at_call 38; refine stop_ (fun Ps hPs => ?_))
      refine hPs ?_
      clear hPs Ps b0 b1 b2
      refine hck.mono ?_
      clear hck
      rintro e w2 ⟨rfl, hb2⟩
      have kx := KX.out.later hb2
      have h2 := H1.out.later hb2
      have HB2 := hid (HB.out.trans (hb2.mono HB.out.size))
      clear hb2 KX H1 HB
      have kz : Blk w2 z 50 #[.bool true, .bool false, .slice A os.length c] := h2.blk
      have H2 := hid h2
      have b0 : w2.cell? ⟨w.heap.size, 0, none⟩ = some (.bool p) := kx.cell 0
      have b1 : w2.cell? ⟨w.heap.size, 1, none⟩ = some (.string k) := kx.cell 1
      have b2 : w2.cell? ⟨w.heap.size, 2, none⟩ = some (.string v) := kx.cell 2
      have z2 : w2.cell? ⟨z, 2, none⟩ = some (.slice A os.length c) := kz.cell 2
      have f2 := kz.frozen 2
      clear h2 kx kz
      by_cases h8 : os.length < 8
      · have HE := hid (addE_ok HK.out h8)
        have HO := hid (addO_ok HE.out)
        have q8 : ¬(8 : Int) ≤ (os.length : Int) := by omega
        have H8 := hid h8
        clear h8
        go_wp2_with fail
        have zl := H2.out.blk.lt
        have z2a : (w2.alloc (.cells #[.bool p, .string k, .string v] 43)).cell? ⟨z, 2, none⟩ = some (.slice A os.length c) := (World.cell?_alloc_lt w2 _ _ zl).trans z2
        have HW : Hid (w2.drew.ownsRow B 43 3 (.slice A os.length c) os.length (opc os)) := hid H2.out.own
        go_region_law (refine step_app T33 (.tmp 27) (.tmp 29) rfl rfl (HW.out.alloc _) rfl (Rd.lit w2.drew #[.bool p, .string k, .string v] 43 (0, 0) 1 rfl) rfl (by simp [Value.oneCell']) (by have := H8.out; omega) (by have := H2.out.leB; simp; omega) ?_; intro v3 w3 hv3 hg3 hat3; obtain ⟨A3, c3, rfl, hd1, hd2⟩ := owned_slice hv3; have kz3 : Blk w3 z 50 #[.bool true, .bool false, .slice A os.length c] := Blk.gb ((H2.out.blk.later (Below.refl _ _).drew).alloc _) hg3 (fun e => H2.out.ne z e.symm rfl); have z3 : w3.cell? ⟨z, 2, none⟩ = some (.slice A os.length c) := kz3.cell 2; have f3 := kz3.frozen 2)
        all_goals
          go_wp2_with fail
          go_ret
          rw [HO.out]
          exact acts_eq HE.out (Left.from_ HB2.out (left_append H2.out H8.out hv3 (((Below.refl _ w2).alloc (Nat.le_refl _) _).drew) hg3 hat3))
      · have HE := hid (addE_long (os := os) HK.out (by omega))
        have HO := hid (addO_ne (show addE false os ⟨p, k, v⟩ ≠ 0 by rw [HE.out]; decide))
        have q8 : (8 : Int) ≤ (os.length : Int) := by omega
        clear h8
        go_wp2_with fail
        go_ret
        rw [HO.out]
        exact acts_eq HE.out (Left.from_ HB2.out (Left.same H2.out (Below.refl _ _)))
    · have hk0 : opk ⟨p, k, v⟩ = 2 := if_neg hok
      rw [hk0] at hck
      clear hk0
      have HE := hid (addE_bad (os := os) hok)
      have HO := hid (addO_ne (show addE false os ⟨p, k, v⟩ ≠ 0 by rw [HE.out]; decide))
      have KX := hid kx
      clear h h1 hb kx kz hok b0 b1 b2 z2 hne
      go_enter Try.func25, Try.ntmps25
      go_wp2_with (go_at_call 26; refine stop_ (fun Ps hPs => ?_))
      refine hPs ?_
      clear hPs Ps
      rw [← hW]
      clear hW
      refine hwr.mono ?_
      clear hwr
      rintro e w1 ⟨rfl, h9⟩
      subst h9
      have b0 : w1.cell? ⟨w.heap.size, 0, none⟩ = some (.bool p) := KX.out.cell 0
      have b1 : w1.cell? ⟨w.heap.size, 1, none⟩ = some (.string k) := KX.out.cell 1
      have b2 : w1.cell? ⟨w.heap.size, 2, none⟩ = some (.string v) := KX.out.cell 2
      go_wp2_with (go_at_call 38; refine stop_ (fun Ps hPs => ?_))
      refine hPs ?_
      clear hPs Ps b0 b1 b2
      refine hck.mono ?_
      clear hck
      rintro e w2 ⟨rfl, hb2⟩
      have HB2 := hid hb2
      clear hb2
      go_wp2_with fail
      go_ret
      rw [HO.out]
      exact acts_eq HE.out (Left.from_ HB.out (Left.same H1.out HB2.out))

set_option maxHeartbeats 4000000 in
set_option maxRecDepth 100000 in
theorem add40 {B z : Nat} {o : Bool} {sv : Value} {os : List Op3} {w : World} (h : TX true w B z o sv os) (x : Op3) : Calls Try.prog 40 #[P z, x.v] w (Acts true B z sv (addE o os x) o (addO o os x) w) := by
  obtain ⟨p, k, v⟩ := x
  have hb := (Below.refl w.heap.size w).alloc (Nat.le_refl _) (.cells #[.bool p, .string k, .string v] 43)
  have kx := Blk.new w 43 #[.bool p, .string k, .string v]
  obtain ⟨W, hW⟩ : ∃ W, W = w.alloc (.cells #[.bool p, .string k, .string v] 43) := ⟨_, rfl⟩
  rw [← hW] at hb kx
  have h1 := h.later hb
  have hne : w.heap.size ≠ z := fun e => by have := h.blk.lt; omega
  have hwr := asked37 h1
  obtain ⟨A, c, rfl, hc1, hc2⟩ := owned_slice h1.own
  have HB := hid hb
  have H1 := hid h1
  have kz : Blk W z 62 #[.bool true, .slice A os.length c, .bool o] := h1.blk
  have b0 : W.cell? ⟨w.heap.size, 0, none⟩ = some (.bool p) := kx.cell 0
  have b1 : W.cell? ⟨w.heap.size, 1, none⟩ = some (.string k) := kx.cell 1
  have b2 : W.cell? ⟨w.heap.size, 2, none⟩ = some (.string v) := kx.cell 2
  have z2 : W.cell? ⟨z, 1, none⟩ = some (.slice A os.length c) := kz.cell 1
  cases o with
  | true =>
    have HR := hid (show addO true os ⟨p, k, v⟩ = os from if_neg (by rw [addE_over]; decide))
    have hwr : Calls Try.prog 37 #[P z] W (fun e w' => e = .returned (.int .i64 6) ∧ w' = W) := asked37 h1
    clear h h1 hb kx kz
    go_enter Try.func40, Try.ntmps40
    go_wp2_with (go_at_call 37; refine stop_ (fun Ps hPs => ?_))
    refine hPs ?_
    clear hPs Ps
    rw [← hW]
    clear hW
    refine hwr.mono ?_
    clear hwr
    rintro e w1 ⟨rfl, h9⟩
    subst h9
    go_wp2_with fail
    go_ret
    rw [HR.out]
    exact acts_eq (addE_over _ _) (Left.from_ HB.out (Left.same H1.out (Below.refl _ _)))
  | false =>
    have hck := refop42 ⟨p, k, v⟩ W
    have hwr : Calls Try.prog 37 #[P z] W (fun e w' => e = .returned (.int .i64 0) ∧ w' = W) := asked37 h1
    by_cases hok : (Op3.mk p k v).ok
    · have hk0 : opk ⟨p, k, v⟩ = 0 := if_pos hok
      rw [hk0] at hck
      clear hk0
      have HK := hid hok
      have KX := hid kx
      have HN := hid hne
      clear h h1 hb kx kz hok b0 b1 b2 z2 hne
      go_enter Try.func40, Try.ntmps40
      go_wp2_with (go_at_call 37; refine stop_ (fun Ps hPs => ?_))
      refine hPs ?_
      clear hPs Ps
      rw [← hW]
      clear hW
      refine hwr.mono ?_
      clear hwr
      rintro e w1 ⟨rfl, h9⟩
      subst h9
      have b0 : w1.cell? ⟨w.heap.size, 0, none⟩ = some (.bool p) := KX.out.cell 0
      have b1 : w1.cell? ⟨w.heap.size, 1, none⟩ = some (.string k) := KX.out.cell 1
      have b2 : w1.cell? ⟨w.heap.size, 2, none⟩ = some (.string v) := KX.out.cell 2
      go_wp2_with (go_at_call 42; refine stop_ (fun Ps hPs => ?_))
      refine hPs ?_
      clear hPs Ps b0 b1 b2
      refine hck.mono ?_
      clear hck
      rintro e w2 ⟨rfl, hb2⟩
      have kx := KX.out.later hb2
      have h2 := H1.out.later hb2
      have HB2 := hid (HB.out.trans (hb2.mono HB.out.size))
      clear hb2 KX H1 HB
      have kz : Blk w2 z 62 #[.bool true, .slice A os.length c, .bool false] := h2.blk
      have H2 := hid h2
      have b0 : w2.cell? ⟨w.heap.size, 0, none⟩ = some (.bool p) := kx.cell 0
      have b1 : w2.cell? ⟨w.heap.size, 1, none⟩ = some (.string k) := kx.cell 1
      have b2 : w2.cell? ⟨w.heap.size, 2, none⟩ = some (.string v) := kx.cell 2
      have z2 : w2.cell? ⟨z, 1, none⟩ = some (.slice A os.length c) := kz.cell 1
      have f2 := kz.frozen 1
      clear h2 kx kz
      by_cases h8 : os.length < 8
      · have HE := hid (addE_ok HK.out h8)
        have HO := hid (addO_ok HE.out)
        have q8 : ¬(8 : Int) ≤ (os.length : Int) := by omega
        have H8 := hid h8
        clear h8
        go_wp2_with fail
        have zl := H2.out.blk.lt
        have z2a : (w2.alloc (.cells #[.bool p, .string k, .string v] 43)).cell? ⟨z, 1, none⟩ = some (.slice A os.length c) := (World.cell?_alloc_lt w2 _ _ zl).trans z2
        have HW : Hid (w2.drew.ownsRow B 43 3 (.slice A os.length c) os.length (opc os)) := hid H2.out.own
        go_region_law (refine step_app T33 (.tmp 27) (.tmp 29) rfl rfl (HW.out.alloc _) rfl (Rd.lit w2.drew #[.bool p, .string k, .string v] 43 (0, 0) 1 rfl) rfl (by simp [Value.oneCell']) (by have := H8.out; omega) (by have := H2.out.leB; simp; omega) ?_; intro v3 w3 hv3 hg3 hat3; obtain ⟨A3, c3, rfl, hd1, hd2⟩ := owned_slice hv3; have kz3 : Blk w3 z 62 #[.bool true, .slice A os.length c, .bool false] := Blk.gb ((H2.out.blk.later (Below.refl _ _).drew).alloc _) hg3 (fun e => H2.out.ne z e.symm rfl); have z3 : w3.cell? ⟨z, 1, none⟩ = some (.slice A os.length c) := kz3.cell 1; have f3 := kz3.frozen 1)
        all_goals
          go_wp2_with fail
          go_ret
          rw [HO.out]
          exact acts_eq HE.out (Left.from_ HB2.out (left_append H2.out H8.out hv3 (((Below.refl _ w2).alloc (Nat.le_refl _) _).drew) hg3 hat3))
      · have HE := hid (addE_long (os := os) HK.out (by omega))
        have HO := hid (addO_ne (show addE false os ⟨p, k, v⟩ ≠ 0 by rw [HE.out]; decide))
        have q8 : (8 : Int) ≤ (os.length : Int) := by omega
        clear h8
        go_wp2_with fail
        go_ret
        rw [HO.out]
        exact acts_eq HE.out (Left.from_ HB2.out (Left.same H2.out (Below.refl _ _)))
    · have hk0 : opk ⟨p, k, v⟩ = 2 := if_neg hok
      rw [hk0] at hck
      clear hk0
      have HE := hid (addE_bad (os := os) hok)
      have HO := hid (addO_ne (show addE false os ⟨p, k, v⟩ ≠ 0 by rw [HE.out]; decide))
      have KX := hid kx
      clear h h1 hb kx kz hok b0 b1 b2 z2 hne
      go_enter Try.func40, Try.ntmps40
      go_wp2_with (go_at_call 37; refine stop_ (fun Ps hPs => ?_))
      refine hPs ?_
      clear hPs Ps
      rw [← hW]
      clear hW
      refine hwr.mono ?_
      clear hwr
      rintro e w1 ⟨rfl, h9⟩
      subst h9
      have b0 : w1.cell? ⟨w.heap.size, 0, none⟩ = some (.bool p) := KX.out.cell 0
      have b1 : w1.cell? ⟨w.heap.size, 1, none⟩ = some (.string k) := KX.out.cell 1
      have b2 : w1.cell? ⟨w.heap.size, 2, none⟩ = some (.string v) := KX.out.cell 2
      go_wp2_with (go_at_call 42; refine stop_ (fun Ps hPs => ?_))
      refine hPs ?_
      clear hPs Ps b0 b1 b2
      refine hck.mono ?_
      clear hck
      rintro e w2 ⟨rfl, hb2⟩
      have HB2 := hid hb2
      clear hb2
      go_wp2_with fail
      go_ret
      rw [HO.out]
      exact acts_eq HE.out (Left.from_ HB.out (Left.same H1.out HB2.out))
end Go.Proofs.Ytlbekgephjlffaa
