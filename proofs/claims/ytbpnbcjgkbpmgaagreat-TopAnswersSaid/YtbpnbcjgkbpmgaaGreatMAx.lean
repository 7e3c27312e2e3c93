/- A primary answers without waiting for the other site, as many times as its leash allows: of any acts. No condition. (part 24) -/
import Derived.Test.YtbpnbcjgkbpmgaaGreatMAc
import Derived.Test.YtbpnbcjgkbpmgaaGreatMAw
namespace Go.Proofs.YtbpnbcjgkbpmgaaGreat
open Go.RowKit Go.Lg Ds St
set_option linter.unusedVariables false
set_option linter.unusedSimpArgs false
abbrev nilp : Value := .pointer none
abbrev zp : Pg := ⟨0, 0, 0, 0, 0, 0⟩
def FilesOk (z dz : Nat) (q : Pg) (w : World) (e : Ending) (w' : World) : Prop :=
  e = .returned (.int .i64 0) ∧ ∃ wz rz F1 F2, Blk w' z 205 (stg dz q (.slice none 0 0) (P wz) (P rz) nilp) ∧ Wl w' F1 wz dz ⟨false, [], []⟩ ∧ R0 w' F2 rz dz ∧ Mod (fun k => k = z) w w' ∧ (∀ k, F1 k → w.heap.size ≤ k ∧ k < w'.heap.size) ∧ (∀ k, F2 k → w.heap.size ≤ k ∧ k < w'.heap.size) ∧ Dj F1 F2
theorem dk_mod {w w' : World} {F : Fp} {z dz : Nat} {d : Dsk} (h : Dk w F dz d) (m : Mod (fun k => k = z) w w') (hz : ¬F z) : Dk w' F dz d := h.mv (m.mv fun k a b => hz (by rw [← b]; exact a))
theorem wl_mod {w w' : World} {F : Fp} {z wz dz : Nat} {x : Wal} (h : Wl w F wz dz x) (m : Mod (fun k => k = z) w w') (hz : ¬F z) : Wl w' F wz dz x := h.mv (m.mv fun k a b => hz (by rw [← b]; exact a))
theorem r0_mod {w w' : World} {F : Fp} {z rz dz : Nat} (h : R0 w F rz dz) (m : Mod (fun k => k = z) w w') (hz : ¬F z) : R0 w' F rz dz := h.mv (m.mv fun k a b => hz (by rw [← b]; exact a))
theorem mod_set (w : World) (z i : Nat) (u : Value) : Mod (fun k => k = z) w (w.setCell ⟨z, i, none⟩ u) := Mod.setCell (F := fun k => k = z) (p := ⟨z, i, none⟩) rfl u
theorem mod_setp {w : World} {z : Nat} {q : Pg} : Mod (fun k => k = z) w (setp w z q) :=
  (((((mod_set _ z 2 _).trans_ (mod_set _ z 3 _)).trans_ (mod_set _ z 4 _)).trans_ (mod_set _ z 5 _)).trans_ (mod_set _ z 6 _)).trans_ (mod_set _ z 7 _)
theorem blk_setp {w : World} {z dz : Nat} {p q : Pg} {vL wv rv sv : Value} (h : Blk w z 205 (stg dz p vL wv rv sv)) : Blk (setp w z q) z 205 (stg dz q vL wv rv sv) :=
  (((((h.set_ 2 (.int .i64 q.ep)).set_ 3 (.int .u8 q.ro)).set_ 4 (.int .i64 q.ac)).set_ 5 (.int .u8 q.ph)).set_ 6 (.int .i64 q.fo)).set_ 7 (.int .i64 q.ba)
set_option maxHeartbeats 4000000 in
set_option maxRecDepth 100000 in
theorem stfiles154 {w : World} {F : Fp} {z dz : Nat} {nd : Int} {q : Pg} {fs : Nat → Bs} (hd : Dk w F dz (At fs)) (hs : tot fs ≤ 17592186044416) (h0 : fs 0 = []) (h1 : fs 1 = []) (h2 : fs 2 = []) (h3 : fs 3 = []) (hf : Pp.firstP nd = (q, 0))
    (hz : Blk w z 205 (stg dz zp (.slice none 0 0) nilp nilp nilp)) (hzF : ¬F z) : Calls Tryz.prog 154 #[P z, .int .i64 nd] w (FilesOk z dz q w) := by
  obtain ⟨W, hW⟩ : ∃ W, W = (w.alloc (.cells #[P z] 144)).alloc (.cells #[.int .i64 nd] 3) := ⟨_, rfl⟩
  have lW : Lat w W := by rw [hW]; exact ((Lat.refl w).alloc _).alloc _
  have kb2 : Blk W w.heap.size 144 #[P z] := by rw [hW]; exact (Blk.new _ _ _).alloc _
  have kb3 : Blk W (w.heap.size + 1) 3 #[.int .i64 nd] := by
    have := Blk.new (w.alloc (.cells #[P z] 144)) 3 #[.int .i64 nd]
    rw [World.size_alloc] at this
    rw [hW]; exact this
  have hzl : z < w.heap.size := hz.lt
  have hbW := lW.blk hz
  -- in every world in which z alone has turned
  have hop : ∀ X, Mod (fun k => k = z) W X → Calls Tryz.prog 189 #[P dz] X (NewO X fun w' F z => Wl w' F z dz ⟨false, [], []⟩) := fun X m => wopen189 (dk_mod (hd.mv (bmv lW.b F)) m hzF) hs h0
  have hop2 : ∀ X, Mod (fun k => k = z) W X → Calls Tryz.prog 194 #[P dz] X (NewO X fun w' F z => R0 w' F z dz) := fun X m => ropen194 (dk_mod (hd.mv (bmv lW.b F)) m hzF) hs h2
  have hrd1 : ∀ X, Mod (fun k => k = z) W X → Calls Tryz.prog 73 #[P dz, .int .i64 1] X (Read0 X) := fun X m => read_empty (f := 1) (dk_mod (hd.mv (bmv lW.b F)) m hzF) hs (by decide) h1
  have hrd3 : ∀ X, Mod (fun k => k = z) W X → Calls Tryz.prog 73 #[P dz, .int .i64 3] X (Read0 X) := fun X m => read_empty (f := 3) (dk_mod (hd.mv (bmv lW.b F)) m hzF) hs (by decide) h3
  have hb2 : ∀ X, Mod (fun k => k = z) W X → Blk X w.heap.size 144 #[P z] := fun X m => m.blk kb2 (by omega)
  have hb3 : ∀ X, Mod (fun k => k = z) W X → Blk X (w.heap.size + 1) 3 #[.int .i64 nd] := fun X m => m.blk kb3 (by omega)
  have HOP := hid hop
  have HOP2 := hid hop2
  have HR1 := hid hrd1
  have HR3 := hid hrd3
  have HB2 := hid hb2
  have HB3 := hid hb3
  have HLW := hid lW
  have HBW := hid hbW
  have HF := hid hf
  have HSZ : Hid (w.heap.size + 1 < W.heap.size) := hid kb3.lt
  clear hop hop2 hrd1 hrd3 hb2 hb3 lW hz hd hf kb3
  have x2 : W.cell? ⟨w.heap.size, 0, none⟩ = some (P z) := kb2.cell 0
  obtain ⟨z0, _⟩ := sgcells hbW
  have S0 : Hid (W.cell? ⟨w.heap.size, 0, none⟩ = some (P z) ∧ W.cell? ⟨z, 0, none⟩ = some (P dz)) := hid ⟨x2, z0⟩
  have f9 : W.frozen? ⟨z, 9, none⟩ = false := hbW.frozen 9
  have MD : Hid (Mod (fun k => k = z) W W.drew) := hid (Mod.drewN _ W 1)
  clear hbW kb2
  go_enter Tryz.func154, Tryz.ntmps154
  go_upto_region 2 with fail
  rw [← hW]
  clear hW
  refine' merge1 (fun (wz : Nat) X => ∃ F1, Blk X z 205 (stg dz zp (.slice none 0 0) (P wz) nilp nilp) ∧ Wl X F1 wz dz ⟨false, [], []⟩ ∧ Mod (fun k => k = z) W X ∧ (∀ k, F1 k → W.heap.size ≤ k ∧ k < X.heap.size)) ?a1 (fun wz w2 h2' => ?a2)
  case a1 =>
    go_region_held3 (fun X => X.cell? ⟨w.heap.size, 0, none⟩ = some (P z) ∧ X.cell? ⟨z, 0, none⟩ = some (P dz))
      (first | exact S0.out | exact S1.out | exact S2.out)
      ((go_at_call 189; (with_reducible refine (HOP.out _ MD.out).mono ?_); rintro e1 w1 ⟨wz, F1, rfl, hx1, hb1, hF1⟩; have m1 : Mod (fun k => k = z) W w1 := MD.out.trans_ (Mod.of_below hb1); have b1 : Blk w1 z 205 (stg dz zp (.slice none 0 0) nilp nilp nilp) := Blk.later (w := W.drew) HBW.out hb1; have k1 := HB2.out w1 m1; have S1 : Hid (w1.cell? ⟨w.heap.size, 0, none⟩ = some (P z) ∧ w1.cell? ⟨z, 0, none⟩ = some (P dz)) := hid ⟨k1.cell 0, b1.cell 0⟩; have z9 : w1.cell? ⟨z, 9, none⟩ = some nilp := b1.cell 9; have f91 : w1.frozen? ⟨z, 9, none⟩ = false := b1.frozen 9; have S2 : Hid ((w1.setCell ⟨z, 9, none⟩ (P wz)).cell? ⟨w.heap.size, 0, none⟩ = some (P z) ∧ (w1.setCell ⟨z, 9, none⟩ (P wz)).cell? ⟨z, 0, none⟩ = some (P dz)) := hid ⟨(HB2.out _ (m1.trans_ (mod_set _ z 9 (P wz)))).cell 0, (b1.set_ 9 (P wz)).cell 0⟩))
    all_goals
      refine ⟨wz, rfl, fun k => F1 k ∧ k < w1.heap.size, b1.set_ 9 (P wz), ?_, m1.trans_ (mod_set _ z 9 (P wz)), fun k hk => ⟨hF1 k hk.1, by simpa [World.setCell] using hk.2⟩⟩
      have hx2 : Wl w1 (fun k => F1 k ∧ k < w1.heap.size) wz dz ⟨false, [], []⟩ := hx1.mv (Mv.same fun k hk hf => ⟨hf, hk⟩)
      have hzn : ¬(F1 z ∧ z < w1.heap.size) := fun h => by
        have h1 : W.heap.size ≤ z := hF1 z h.1
        have := HLW.out.size
        omega
      exact wl_mod hx2 (mod_set _ z 9 (P wz)) hzn
  obtain ⟨F1, b2, hx2, m2, hF1⟩ := h2'
  have hzn1 : ¬F1 z := fun h => by have h1 := (hF1 z h).1; have := HLW.out.size; omega
  have h191 : ∀ X, Mod (fun k => k = z) w2 X → Calls Tryz.prog 191 #[P wz] X (Num0 0 X) ∧ Calls Tryz.prog 190 #[P wz, .int .i64 1, .int .i64 0] X (fun e w' => e = .returned (.slice none 0 0) ∧ X = w') := fun X m => by
    obtain ⟨vC, vE, ms, inz, blk, hms, cl, en⟩ := wl_mod hx2 m hzn1
    have hm0 : ms = [] := by cases ms with | nil => rfl | cons a l => simp at hms
    subst hm0
    obtain ⟨A0, c0, rfl, _, _⟩ := cl.row.slice_
    exact ⟨wend191 blk, wfrom190 blk⟩
  have H191 := hid h191
  have k2 := HB2.out w2 m2
  obtain ⟨_, _, _, _, _, _, _, _, y8, y9, _⟩ := sgcells b2
  have f8 : w2.frozen? ⟨z, 8, none⟩ = false := b2.frozen 8
  have T0 : Hid (w2.cell? ⟨w.heap.size, 0, none⟩ = some (P z) ∧ w2.cell? ⟨z, 9, none⟩ = some (P wz)) := hid ⟨k2.cell 0, y9⟩
  have T1 : Hid ((w2.setCell ⟨z, 8, none⟩ (.slice none 0 0)).cell? ⟨w.heap.size, 0, none⟩ = some (P z) ∧ (w2.setCell ⟨z, 8, none⟩ (.slice none 0 0)).cell? ⟨z, 9, none⟩ = some (P wz)) := hid ⟨(HB2.out _ (m2.trans_ (mod_set _ z 8 _))).cell 0, (b2.set_ 8 (.slice none 0 0)).cell 9⟩
  have MD2 : Hid (Mod (fun k => k = z) w2 w2.drew) := hid (Mod.drewN _ w2 1)
  have HX2 := hid hx2
  have HB22 := hid b2
  have HM2 := hid m2
  clear hx2 b2 m2 h191 k2 f9 z0 x2 y9
  go_wp2_with fail
  refine' merge0 (fun X => Mod (fun k => k = z) w2 X ∧ Blk X z 205 (stg dz zp (.slice none 0 0) (P wz) nilp nilp)) ?b1 (fun w3 h3' => ?b2)
  case b1 =>
    go_region_held3 (fun X => X.cell? ⟨w.heap.size, 0, none⟩ = some (P z) ∧ X.cell? ⟨z, 9, none⟩ = some (P wz))
      (first | exact T0.out | exact T1.out)
      (first
      | (go_at_call 191; (with_reducible refine (H191.out _ MD2.out).1.mono ?_); rintro e1 w1 ⟨rfl, rfl⟩)
      | (go_at_call 190; (with_reducible refine (H191.out _ MD2.out).2.mono ?_); rintro e1 w1 ⟨rfl, rfl⟩))
    all_goals exact ⟨rfl, MD2.out.trans_ (mod_set _ z 8 _), Blk.set_ (w := w2.drew) HB22.out 8 (.slice none 0 0)⟩
  obtain ⟨m3, b3⟩ := h3'
  have m03 := HM2.out.trans_ m3
  have k23 := HB2.out w3 m03
  have k33 := HB3.out w3 m03
  have u2 : w3.cell? ⟨w.heap.size, 0, none⟩ = some (P z) := k23.cell 0
  have u3 : w3.cell? ⟨w.heap.size + 1, 0, none⟩ = some (.int .i64 nd) := k33.cell 0
  have u0 : w3.cell? ⟨z, 0, none⟩ = some (P dz) := b3.cell 0
  have htr := sttrim192_p (HR1.out w3 m03) HF.out u3 k33.lt u2 k23.lt b3
  have HB3' := hid b3
  have HM3 := hid m03
  have HX3 := hid (wl_mod HX2.out m3 hzn1)
  have HS3 := hid m3.size
  clear m3 b3 m03 k23 k33 T0 T1 S0
  go_wp2_with (go_at_call 192; refine stop_ (fun Ps hPs => ?_))
  refine hPs ?_
  clear hPs Ps u2 u3 u0
  refine htr.mono ?_
  rintro e4 w5 ⟨rfl, w4, l4, rfl⟩
  have m5 : Mod (fun k => k = z) w3 (setp w4 z q) := (l4.mod _).trans_ mod_setp
  have b5 : Blk (setp w4 z q) z 205 (stg dz q (.slice none 0 0) (P wz) nilp nilp) := blk_setp (l4.blk HB3'.out)
  obtain ⟨W5, hW5⟩ : ∃ W5, W5 = setp w4 z q := ⟨_, rfl⟩
  rw [← hW5] at m5 b5 ⊢
  clear hW5 l4 htr
  have HM5 := hid (HM3.out.trans_ m5)
  have HX5 := hid (wl_mod HX3.out m5 hzn1)
  have HS5 := hid (Nat.le_trans HS3.out m5.size)
  have k25 := HB2.out W5 HM5.out
  have v0 : W5.cell? ⟨z, 0, none⟩ = some (P dz) := b5.cell 0
  have v2 : W5.cell? ⟨w.heap.size, 0, none⟩ = some (P z) := k25.cell 0
  have S0 : Hid (W5.cell? ⟨w.heap.size, 0, none⟩ = some (P z) ∧ W5.cell? ⟨z, 0, none⟩ = some (P dz)) := hid ⟨v2, v0⟩
  have MD5 : Hid (Mod (fun k => k = z) W5 W5.drew) := hid (Mod.drewN _ W5 1)
  have MW5 : Hid (Mod (fun k => k = z) W W5.drew) := hid (HM5.out.trans_ MD5.out)
  have HB5 := hid b5
  have hzW5 : z < W5.heap.size := b5.lt
  clear b5 k25 m5 HB22 HX2 HX3 HB3' HM3 HM2
  go_wp2_with fail
  refine' merge1 (fun (rz : Nat) X => ∃ F2, Blk X z 205 (stg dz q (.slice none 0 0) (P wz) (P rz) nilp) ∧ R0 X F2 rz dz ∧ Mod (fun k => k = z) W5 X ∧ (∀ k, F2 k → W5.heap.size ≤ k ∧ k < X.heap.size)) ?c1 (fun rz w6 h6 => ?c2)
  case c1 =>
    go_region_held3 (fun X => X.cell? ⟨w.heap.size, 0, none⟩ = some (P z) ∧ X.cell? ⟨z, 0, none⟩ = some (P dz))
      (first | exact S0.out | exact S1.out | exact S2.out)
      ((go_at_call 194; (with_reducible refine (HOP2.out _ MW5.out).mono ?_); rintro e1 w1 ⟨rz, F2, rfl, hx1, hb1, hF2⟩; have m1 : Mod (fun k => k = z) W5 w1 := MD5.out.trans_ (Mod.of_below hb1); have b1 : Blk w1 z 205 (stg dz q (.slice none 0 0) (P wz) nilp nilp) := Blk.later (w := W5.drew) HB5.out hb1; have k1 := HB2.out w1 (HM5.out.trans_ m1); have S1 : Hid (w1.cell? ⟨w.heap.size, 0, none⟩ = some (P z) ∧ w1.cell? ⟨z, 0, none⟩ = some (P dz)) := hid ⟨k1.cell 0, b1.cell 0⟩; have z9 : w1.cell? ⟨z, 10, none⟩ = some nilp := b1.cell 10; have f91 : w1.frozen? ⟨z, 10, none⟩ = false := b1.frozen 10; have S2 : Hid ((w1.setCell ⟨z, 10, none⟩ (P rz)).cell? ⟨w.heap.size, 0, none⟩ = some (P z) ∧ (w1.setCell ⟨z, 10, none⟩ (P rz)).cell? ⟨z, 0, none⟩ = some (P dz)) := hid ⟨(HB2.out _ ((HM5.out.trans_ m1).trans_ (mod_set _ z 10 (P rz)))).cell 0, (b1.set_ 10 (P rz)).cell 0⟩))
    all_goals
      have hzn : ¬(F2 z ∧ z < w1.heap.size) := fun h => by
        have h1 : W5.heap.size ≤ z := hF2 z h.1
        omega
      have hx2 : R0 w1 (fun k => F2 k ∧ k < w1.heap.size) rz dz := hx1.mv (Mv.same fun k hk hf => ⟨hf, hk⟩)
      exact ⟨rz, rfl, fun k => F2 k ∧ k < w1.heap.size, b1.set_ 10 (P rz), r0_mod hx2 (mod_set _ z 10 (P rz)) hzn, m1.trans_ (mod_set _ z 10 (P rz)), fun k hk => ⟨hF2 k hk.1, by simpa [World.setCell] using hk.2⟩⟩
  obtain ⟨F2, b6, hx6, m6, hF2⟩ := h6
  have hzn2 : ¬F2 z := fun h => by have h1 := (hF2 z h).1; omega
  have k26 := HB2.out w6 (HM5.out.trans_ m6)
  have S0 : Hid (w6.cell? ⟨w.heap.size, 0, none⟩ = some (P z) ∧ w6.cell? ⟨z, 0, none⟩ = some (P dz)) := hid ⟨k26.cell 0, b6.cell 0⟩
  have v06 : w6.cell? ⟨z, 0, none⟩ = some (P dz) := b6.cell 0
  have v26 : w6.cell? ⟨w.heap.size, 0, none⟩ = some (P z) := k26.cell 0
  have MD6 : Hid (Mod (fun k => k = z) w6 w6.drew) := hid (Mod.drewN _ w6 1)
  have htr6 := hid (sttrim192_o (HR3.out w6.drew ((HM5.out.trans_ m6).trans_ MD6.out)))
  have HB6 := hid b6
  have HX6 := hid hx6
  have HM6 := hid m6
  clear b6 hx6 m6 k26 v0 v2
  go_wp2_with fail
  refine' merge0 (fun X => Mod (fun k => k = z) w6 X ∧ Blk X z 205 (stg dz q (.slice none 0 0) (P wz) (P rz) nilp)) ?d1 (fun w7 h7 => ?d2)
  case d1 =>
    go_region_held3 (fun X => X.cell? ⟨w.heap.size, 0, none⟩ = some (P z) ∧ X.cell? ⟨z, 0, none⟩ = some (P dz))
      (first | exact S0.out | exact S1.out | exact S2.out)
      ((go_at_call 192; (with_reducible refine htr6.out.mono ?_); rintro e1 w1 ⟨rfl, l1⟩; have m1 : Mod (fun k => k = z) w6 w1 := MD6.out.trans_ (l1.mod _); have b1 : Blk w1 z 205 (stg dz q (.slice none 0 0) (P wz) (P rz) nilp) := l1.blk HB6.out; have k1 := HB2.out w1 ((HM5.out.trans_ HM6.out).trans_ m1); have S1 : Hid (w1.cell? ⟨w.heap.size, 0, none⟩ = some (P z) ∧ w1.cell? ⟨z, 0, none⟩ = some (P dz)) := hid ⟨k1.cell 0, b1.cell 0⟩; have z12 : w1.cell? ⟨z, 12, none⟩ = some (.int .i64 0) := b1.cell 12; have f12 : w1.frozen? ⟨z, 12, none⟩ = false := b1.frozen 12; have S2 : Hid ((w1.setCell ⟨z, 12, none⟩ (.int .i64 0)).cell? ⟨w.heap.size, 0, none⟩ = some (P z) ∧ (w1.setCell ⟨z, 12, none⟩ (.int .i64 0)).cell? ⟨z, 0, none⟩ = some (P dz)) := hid ⟨(HB2.out _ (((HM5.out.trans_ HM6.out).trans_ m1).trans_ (mod_set _ z 12 (.int .i64 0)))).cell 0, (b1.set_ 12 (.int .i64 0)).cell 0⟩))
    all_goals exact ⟨rfl, m1.trans_ (mod_set _ z 12 (.int .i64 0)), b1.set_ 12 (.int .i64 0)⟩
  obtain ⟨m7, b7⟩ := h7
  have HM7 := hid m7
  have HB7 := hid b7
  clear m7 b7
  go_wp2_with fail
  go_ret
  have m67 := HM6.out.trans_ HM7.out
  have hsW := HLW.out.size
  have hs7 := HM7.out.size
  have hs6 := HM6.out.size
  refine ⟨rfl, wz, rz, F1, F2, HB7.out, wl_mod HX5.out m67 hzn1, r0_mod HX6.out HM7.out hzn2, (HLW.out.mod _).trans_ (HM5.out.trans_ m67), fun k hk => ?_, fun k hk => ?_, fun k h1 h2 => ?_⟩
  · have h1 := hF1 k hk
    have := HS5.out
    omega
  · have h1 := hF2 k hk
    have := HM5.out.size
    omega
  · have q1 := hF1 k h1
    have q2 := hF2 k h2
    have := HS5.out
    omega
end Go.Proofs.YtbpnbcjgkbpmgaaGreat
namespace Go.Proofs.YtbpnbcjgkbpmgaaGreat
open Go.RowKit Go.Lg Ds St
set_option linter.unusedVariables false
set_option linter.unusedSimpArgs false
def StoredOk (z dz wz rz : Nat) (q : Pg) (w : World) (e : Ending) (w' : World) : Prop :=
  e = .returned (.int .i64 0) ∧ ∃ sz F3, Blk w' z 205 (stg dz q (.slice none 0 0) (P wz) (P rz) (P sz)) ∧ Sr w' F3 sz rz 0 [] ∧ Mod (fun k => k = z) w w' ∧ (∀ k, F3 k → w.heap.size ≤ k ∧ k < w'.heap.size)
set_option maxHeartbeats 4000000 in
set_option maxRecDepth 100000 in
theorem ststored155 {w : World} {F2 : Fp} {z dz wz rz : Nat} {q : Pg} (hz : Blk w z 205 (stg dz q (.slice none 0 0) (P wz) (P rz) nilp)) (hr : R0 w F2 rz dz) : Calls Tryz.prog 155 #[P z] w (StoredOk z dz wz rz q w) := by
  have h128 := rend128 (w := w.drew) (F := F2) (dz := dz) ⟨hr.inz, hr.blk⟩
  have h196 := sopen196 (w := w.drew) (H := F2) (dz := dz) ⟨hr.inz, hr.blk⟩
  obtain ⟨_, _, _, _, _, _, _, _, c8, _, c10, _⟩ := sgcells hz
  have S0 : Hid (w.cell? ⟨z, 10, none⟩ = some (P rz) ∧ w.cell? ⟨z, 8, none⟩ = some (.slice none 0 0)) := hid ⟨c10, c8⟩
  have H1 := hid h128
  have H2 := hid h196
  have HZ := hid hz
  clear h128 h196 hz hr
  go_enter Tryz.func155, Tryz.ntmps155
  go_upto_region 1 with fail
  refine' merge1 (fun (sz : Nat) X => ∃ F3, Sr X F3 sz rz 0 [] ∧ Lat w X ∧ (∀ k, F3 k → w.heap.size ≤ k ∧ k < X.heap.size)) ?a1 (fun sz w2 h2 => ?a2)
  case a1 =>
    go_region_held3 (fun X => X.cell? ⟨z, 10, none⟩ = some (P rz) ∧ X.cell? ⟨z, 8, none⟩ = some (.slice none 0 0))
      (first | exact S0.out | exact S1.out)
      (first
      | (go_at_call 128; (with_reducible refine H1.out.mono ?_); rintro e1 w1 ⟨rfl, rfl⟩)
      | (go_at_call 196; (with_reducible refine H2.out.mono ?_); rintro e1 w1 ⟨sz, F3, rfl, hx, hb, hF⟩; have l1 : Lat w w1 := (Lat.refl w).drew.below hb; have b1 := l1.blk HZ.out; have S1 : Hid (w1.cell? ⟨z, 10, none⟩ = some (P rz) ∧ w1.cell? ⟨z, 8, none⟩ = some (.slice none 0 0)) := hid ⟨b1.cell 10, b1.cell 8⟩))
    all_goals exact ⟨sz, rfl, fun k => F3 k ∧ k < w1.heap.size, hx.mv (Mv.same fun k hk hf => ⟨hf, hk⟩), l1, fun k hk => ⟨hF k hk.1, hk.2⟩⟩
  obtain ⟨F3, hx, l2, hF⟩ := h2
  have b2 := l2.blk HZ.out
  obtain ⟨_, _, _, _, _, _, _, _, _, _, _, c11, _⟩ := sgcells b2
  have f11 : w2.frozen? ⟨z, 11, none⟩ = false := b2.frozen 11
  have HX := hid hx
  have HL := hid l2
  have HB := hid b2
  clear hx l2 b2
  go_wp2_with fail
  go_ret
  have hzl := HZ.out.lt
  refine ⟨rfl, sz, F3, HB.out.set_ 11 (P sz), HX.out.mv ((mod_set w2 z 11 (P sz)).mv fun k a b => ?_), (HL.out.mod _).trans_ (mod_set _ z 11 _), fun k hk => ⟨(hF k hk).1, by simpa [World.setCell] using (hF k hk).2⟩⟩
  have := (hF k a).1
  omega
set_option maxHeartbeats 1000000 in
set_option maxRecDepth 100000 in
theorem stlast127_g {w : World} {z dz : Nat} {q : Pg} {wv rv sv : Value} (hz : Blk w z 205 (stg dz q (.slice none 0 0) wv rv sv)) : Calls Tryz.prog 127 #[P z] w (Num0 0 w) := by
  obtain ⟨_, _, _, _, _, _, _, _, c8, _⟩ := sgcells hz
  clear hz
  go_enter Tryz.func127, Tryz.ntmps127
  go_wp2_with fail
  go_ret
  exact ⟨rfl, rfl⟩
theorem open_tags {w w' : World} {tag : Nat → Nat} {t dz wz rz sz z : Nat} {q : Pg} {fs : Nat → Bs} {F1 F2 F3 : Fp} (hT : Tidy w tag) (hd : Dk w (Ow tag (t + 1)) dz (At fs)) (l : Lat w w') (hz : w.heap.size ≤ z)
    (hb : Blk w' z 205 (stc dz q (.slice none 0 0) wz rz sz)) (h1 : Wl w' F1 wz dz ⟨false, [], []⟩) (h2 : R0 w' F2 rz dz) (h3 : Sr w' F3 sz rz 0 [])
    (r1 : ∀ k, F1 k → w.heap.size ≤ k ∧ k < w'.heap.size ∧ k ≠ z) (r2 : ∀ k, F2 k → w.heap.size ≤ k ∧ k < w'.heap.size ∧ k ≠ z ∧ ¬F1 k) (r3 : ∀ k, F3 k → w.heap.size ≤ k ∧ k < w'.heap.size ∧ k ≠ z ∧ ¬F1 k ∧ ¬F2 k) :
    ∃ tag', Turn (Prt t) w tag w' tag' ∧ SM w' tag' t dz wz rz sz z 0 q (At fs) [] [] [] := by
  classical
  obtain ⟨tg', htg⟩ : ∃ tg' : Nat → Nat, tg' = fun k => if k < w.heap.size then tag k else if k = z then t + 5 else if F1 k then t + 2 else if F2 k then t + 3 else if F3 k then t + 4 else 0 := ⟨_, rfl⟩
  have e0 : ∀ k, k < w.heap.size → tg' k = tag k := fun k hk => by rw [htg]; exact if_pos hk
  have e1 : ∀ k, F1 k → tg' k = t + 2 := fun k hk => by
    obtain ⟨a, b, c⟩ := r1 k hk
    rw [htg]; simp only; rw [if_neg (by omega), if_neg c, if_pos hk]
  have e2 : ∀ k, F2 k → tg' k = t + 3 := fun k hk => by
    obtain ⟨a, b, c, d⟩ := r2 k hk
    rw [htg]; simp only; rw [if_neg (by omega), if_neg c, if_neg d, if_pos hk]
  have e3 : ∀ k, F3 k → tg' k = t + 4 := fun k hk => by
    obtain ⟨a, b, c, d, e⟩ := r3 k hk
    rw [htg]; simp only; rw [if_neg (by omega), if_neg c, if_neg d, if_neg e, if_pos hk]
  have ez : tg' z = t + 5 := by rw [htg]; show (if _ then _ else if z = z then _ else _) = _; rw [if_neg (by omega), if_pos rfl]
  refine ⟨tg', ⟨l.mod _, e0, fun k hk => ?_, fun k hk => ?_⟩, hd.mv fun k hk hg => ⟨(e0 k hk).trans hg, l.b.block k hk⟩, h1.mv (Mv.same fun k _ hk => e1 k hk), h2.mv (Mv.same fun k _ hk => e2 k hk), h3.mv (Mv.same fun k _ hk => e3 k hk), ⟨_, [], ez, hb, rfl, Cl.nil_ _ _⟩⟩
  · rw [htg]; simp only; rw [if_neg (by omega)]
    unfold Prt
    repeat' split
    all_goals first | (right; omega) | exact .inl rfl
  · have hs := l.size
    rw [htg]; simp only; rw [if_neg (by omega), if_neg (by have := hb.lt; omega), if_neg (fun h => by have := (r1 k h).2.1; omega), if_neg (fun h => by have := (r2 k h).2.1; omega), if_neg (fun h => by have := (r3 k h).2.1; omega)]
theorem Below.trans_mod {B z : Nat} {a b c : World} (h : Below B a b) (m : Mod (fun k => k = z) b c) (hz : B ≤ z) (hB : B ≤ b.heap.size := by omega) : Below B a c :=
  ⟨m.os.trans h.os, m.tape.trans h.tape, m.output.trans h.output, Nat.le_trans h.size m.size, fun k hk => (m.block k (by omega) (by omega)).trans (h.block k hk)⟩
theorem lat_mod {w W W' : World} {z : Nat} (l : Lat w W) (m : Mod (fun k => k = z) W W') (hz : w.heap.size ≤ z) : Lat w W' := ⟨Below.trans_mod l.b m hz l.size⟩
def OpenOk (tag : Nat → Nat) (t dz : Nat) (q : Pg) (fs : Nat → Bs) (w : World) (e : Ending) (w' : World) : Prop :=
  ∃ z wz rz sz tag', e = .returned (.tuple #[P z, .int .i64 0]) ∧ Turn (Prt t) w tag w' tag' ∧ SM w' tag' t dz wz rz sz z 0 q (At fs) [] [] []
set_option maxHeartbeats 4000000 in
set_option maxRecDepth 100000 in
theorem stopen106 {w : World} {tag : Nat → Nat} {t dz : Nat} {nd : Int} {q : Pg} {fs : Nat → Bs} (hT : Tidy w tag) (hd : Dk w (Ow tag (t + 1)) dz (At fs)) (hs : tot fs ≤ 17592186044416) (h0 : fs 0 = []) (h1 : fs 1 = []) (h2 : fs 2 = []) (h3 : fs 3 = []) (hf : Pp.firstP nd = (q, 0))
    (hph : q.ph = 0) (hro : q.ro ≠ 3) (hep : 0 ≤ q.ep) (hac : q.ac ≤ 0) : Calls Tryz.prog 106 #[P dz, .int .i64 nd] w (OpenOk tag t dz q fs w) := by
  have hr := read_empty hd hs (f := 0) (by decide) h0
  have hf0 := Pp.first8 nd
  rw [hf] at hf0
  have HD := hid hd
  have HF := hid hf
  clear hd hf
  go_enter Tryz.func106, Tryz.ntmps106
  go_wp2_with (go_at_call 73; refine stop_ (fun Ps hPs => ?_))
  refine hPs ?_
  clear hPs Ps
  refine hr.mono ?_
  rintro e' w1 ⟨A, c, rfl, hc, hb⟩
  have HB := hid hb
  clear hb hr
  go_wp2_with (go_at_call 62; refine stop_ (fun Ps hPs => ?_))
  refine hPs ?_
  clear hPs Ps
  refine (hf0 w1).mono ?_
  rintro e' w2 ⟨rfl, hb2⟩
  have l2 : Lat w w2 := ⟨bl_trans HB.out hb2 HB.out.size⟩
  have HL2 := hid l2
  obtain ⟨q1, q2, q3, q4, q5, q6⟩ := q
  simp only at hph hro hep hac
  subst hph
  clear hb2 l2 hf0
  go_wp2_with fail
  obtain ⟨W3, hW3⟩ : ∃ W3, W3 = (w2.alloc (.cells #[.int .i64 q1, .int .u8 q2, .int .i64 q3, .int .u8 0, .int .i64 q5, .int .i64 q6] 43)).alloc (.cells #[P dz, .bool false, .int .i64 0, .int .u8 0, .int .i64 0, .int .u8 0, .int .i64 0, .int .i64 0, .slice none 0 0, .pointer none, .pointer none, .pointer none, .int .i64 0] 205) := ⟨_, rfl⟩
  have l3 : Lat w W3 := by rw [hW3]; exact (HL2.out.alloc _).alloc _
  have b3 : Blk W3 (w2.heap.size + 1) 205 (stg dz zp (.slice none 0 0) nilp nilp nilp) := by
    have := Blk.new (w2.alloc (.cells #[.int .i64 q1, .int .u8 q2, .int .i64 q3, .int .u8 0, .int .i64 q5, .int .i64 q6] 43)) 205 (stg dz zp (.slice none 0 0) nilp nilp nilp)
    rw [World.size_alloc] at this
    rw [hW3]; exact this
  rw [← hW3]
  clear hW3
  obtain ⟨z, hz⟩ : ∃ z, z = w2.heap.size + 1 := ⟨_, rfl⟩
  have hzw : w.heap.size ≤ z := by have := HL2.out.size; omega
  rw [← hz] at b3 ⊢
  clear hz
  refine (stfiles154 (HD.out.mv (bmv l3.b _)) hs h0 h1 h2 h3 HF.out b3 (fun h => by have h0 := hT z hzw; have h1 : tag z = t + 1 := h; omega)).mono ?_
  rintro e' w4 ⟨rfl, wz, rz, F1, F2, b4, x1, x2, m4, r1, r2, dj⟩
  have hCE : ∀ X, Lat w4 X → X.cell? ⟨z, 2, none⟩ = some (.int .i64 q1) ∧ X.cell? ⟨z, 3, none⟩ = some (.int .u8 q2) ∧ X.cell? ⟨z, 4, none⟩ = some (.int .i64 q3) ∧ X.cell? ⟨z, 5, none⟩ = some (.int .u8 0) ∧ X.cell? ⟨z, 6, none⟩ = some (.int .i64 q5) ∧ X.cell? ⟨z, 7, none⟩ = some (.int .i64 q6) ∧ X.cell? ⟨z, 8, none⟩ = some (.slice none 0 0) ∧ X.cell? ⟨z, 10, none⟩ = some (P rz) := fun X l => by
    obtain ⟨_, _, e2, e3, e4, e5, e6, e7, e8, _, e10, _⟩ := sgcells (l.blk b4)
    exact ⟨e2, e3, e4, e5, e6, e7, e8, e10⟩
  have h127 : ∀ X, Lat w4 X → Calls Tryz.prog 127 #[P z] X (Num0 0 X) := fun X l => stlast127_g (l.blk b4)
  have h128 : ∀ X, Lat w4 X → Calls Tryz.prog 128 #[P rz] X (Num0 0 X) := fun X l => rend128 (x2.mv (bmv l.b _))
  have h126 : ∀ X, Calls Tryz.prog 126 #[P z, .agg #[.int .i64 q1, .int .u8 q2, .int .i64 q3, .int .u8 0, .int .i64 q5, .int .i64 q6], .int .i64 0, .int .i64 0, .int .i64 0] X fun e w' => e = .returned (.bool true) ∧ Below X.heap.size X w' := fun X => stsound126 z ⟨q1, q2, q3, 0, q5, q6⟩ 0 0 X rfl hro (by omega) hep hac
  have HCE := hid hCE
  have H127 := hid h127
  have H128 := hid h128
  have H126 := hid h126
  have HB4 := hid b4
  have HX1 := hid x1
  have HX2 := hid x2
  have HM4 := hid m4
  have HL3 := hid l3
  have HB3 := hid b3
  clear hCE h127 h128 h126 b4 x1 x2 m4 l3 b3
  go_wp2_with fail
  refine' merge0 (fun X => Lat w4 X) ?i1 (fun w6 l6 => ?i2)
  case i1 =>
    go_region_held3 (fun X => X.cell? ⟨z, 2, none⟩ = some (.int .i64 q1) ∧ X.cell? ⟨z, 3, none⟩ = some (.int .u8 q2) ∧ X.cell? ⟨z, 4, none⟩ = some (.int .i64 q3) ∧ X.cell? ⟨z, 5, none⟩ = some (.int .u8 0) ∧ X.cell? ⟨z, 6, none⟩ = some (.int .i64 q5) ∧ X.cell? ⟨z, 7, none⟩ = some (.int .i64 q6) ∧ X.cell? ⟨z, 8, none⟩ = some (.slice none 0 0) ∧ X.cell? ⟨z, 10, none⟩ = some (P rz))
      ((refine HCE.out _ ?_; repeat (first | exact Lat.refl _ | assumption | refine Lat.drew ?_ | refine Lat.drewN ?_ _ | refine Lat.alloc ?_ _)))
      (first
      | (go_at_call 127; (with_reducible refine (H127.out _ (by repeat (first | exact Lat.refl _ | refine Lat.drew ?_ | refine Lat.drewN ?_ _ | refine Lat.alloc ?_ _))).mono ?_); rintro e2 w2 ⟨rfl, rfl⟩)
      | (go_at_call 128; (with_reducible refine (H128.out _ (by repeat (first | exact Lat.refl _ | refine Lat.drew ?_ | refine Lat.drewN ?_ _ | refine Lat.alloc ?_ _))).mono ?_); rintro e2 w2 ⟨rfl, rfl⟩)
      | (go_at_call 126; (with_reducible refine (H126.out _).mono ?_); rintro e4 w6 ⟨rfl, hb6⟩; have l6 : Lat w4 w6 := Lat.below (by repeat (first | exact Lat.refl _ | refine Lat.drew ?_ | refine Lat.drewN ?_ _ | refine Lat.alloc ?_ _)) hb6))
    all_goals exact ⟨rfl, l6⟩
  have HL6 := hid l6
  clear l6
  go_wp2_with (go_at_call 155; refine stop_ (fun Ps hPs => ?_))
  refine hPs ?_
  clear hPs Ps
  refine (ststored155 (HL6.out.blk HB4.out) (HX2.out.mv (bmv HL6.out.b _))).mono ?_
  rintro e' w7 ⟨rfl, sz, F3, b7, x3, m7, r3⟩
  have H7 := hid (And.intro b7 (And.intro x3 m7))
  clear b7 x3 m7
  go_wp2_with fail
  go_ret2
  obtain ⟨b7, x3, m7⟩ := H7.out
  have s3 := HL3.out.size
  have s4 := HM4.out.size
  have s6 := HL6.out.size
  have s7 := m7.size
  have hz3 := HB3.out.lt
  have ll : Lat w w7 := lat_mod ((lat_mod HL3.out HM4.out hzw).trans HL6.out) m7 hzw
  have n1 : ¬F1 z := fun h => by have := (r1 z h).1; omega
  have n2 : ¬F2 z := fun h => by have := (r2 z h).1; omega
  obtain ⟨tag', ht, hsm⟩ := open_tags hT HD.out ll hzw b7 (wl_mod (HX1.out.mv (bmv HL6.out.b _)) m7 n1) (r0_mod (HX2.out.mv (bmv HL6.out.b _)) m7 n2) x3
    (fun k hk => ⟨by have := r1 k hk; omega, by have := r1 k hk; omega, fun e => n1 (by rw [← e]; exact hk)⟩) (fun k hk => ⟨by have := r2 k hk; omega, by have := r2 k hk; omega, fun e => n2 (by rw [← e]; exact hk), fun h => dj k h hk⟩)
    (fun k hk => ⟨by have := r3 k hk; omega, by have := r3 k hk; omega, by have := r3 k hk; omega, fun h => by have := r1 k h; have := r3 k hk; omega, fun h => by have := r2 k h; have := r3 k hk; omega⟩)
  exact ⟨z, wz, rz, sz, tag', rfl, ht, hsm⟩
end Go.Proofs.YtbpnbcjgkbpmgaaGreat
namespace Go.Proofs.YtbpnbcjgkbpmgaaGreat
open Go.RowKit Go.Lg Ds St
set_option linter.unusedVariables false
set_option linter.unusedSimpArgs false
attribute [local go_sem] field190
set_option maxHeartbeats 4000000 in
set_option maxRecDepth 100000 in
theorem stadd137_nil {w : World} {tag : Nat → Nat} {t dz wz rz sz z n : Nat} {p : Pg} {fs : Nat → Bs} {cs : List Cmt} {es : List Nat} (h : SM w tag t dz wz rz sz z n p (At fs) cs cs es) :
    Calls Tryz.prog 137 #[P z, .slice none 0 0] w fun e w' => e = .returned (.int .i64 0) ∧ Lat w w' := by
  have hon : Calls Tryz.prog 118 #[P dz] w (Asked true w) := on118 h.dk
  have hw := stwrong124 h.sb hon
  have H := hid h
  have hbk : ∃ vL ms, Blk w z 205 (stc dz p vL wz rz sz) ∧ ms.map Cm.p = cs ∧ Cl w (Ow tag (t + 5)) vL ms := by
    obtain ⟨vL, ms, inz, blk, hms, cl⟩ := h.sb
    exact ⟨vL, ms, blk, hms, cl⟩
  obtain ⟨vL, ms, blk, hms, cl⟩ := hbk
  obtain ⟨Ar, cr, rfl, _, _⟩ := cl.row.slice_
  have hLA : ∀ X, Lat w X → Calls Tryz.prog 127 #[P z] X fun e w' => e = .returned (.int .i64 (lastEp cs)) ∧ ∃ d, w' = X.drewN d := fun X l => stlast127 (H.out.sb.mv (bmv l.b _))
  have hFO : ∀ X, Lat w X → Calls Tryz.prog 112 #[.int .i64 (lastEp cs), .int .i64 (ms.length : Nat), .slice none 0 0] X (Folds (0, 0) X) := fun X l =>
    follows37 none 0 0 [] (lastEp cs) ms.length X ⟨⟨rfl, fun h => absurd h (Nat.lt_irrefl _)⟩, rfl, fun m hm => by cases hm⟩ (by omega)
  have hCE : ∀ X, Lat w X → X.cell? ⟨z, 8, none⟩ = some (.slice Ar ms.length cr) := fun X l => (l.blk blk).cell 8
  obtain ⟨c0, c1, c2, c3, c4, c5, c6, c7, c8, c9, c10, c11, c12⟩ := stcells blk
  have HN1 : Hid (∀ d, Blk ((w.drewN d).alloc (.cells #[.int .i64 0, .int .i64 0] 190)) w.heap.size 190 #[.int .i64 0, .int .i64 0]) := hid fun d => Blk.new (w.drewN d) 190 _
  have HN2 : Hid (∀ d, Blk ((w.alloc (.cells #[.int .i64 0, .int .i64 0] 190)).drewN d) w.heap.size 190 #[.int .i64 0, .int .i64 0]) := hid fun d => Blk.new w 190 _
  have HLA := hid hLA
  have HFO := hid hFO
  have HCE := hid hCE
  clear hLA hFO hCE h hms blk cl hon
  go_enter Tryz.func137, Tryz.ntmps137
  go_wp2_with (go_at_call 124; (with_reducible refine hw.mono ?_); rintro e' w1 ⟨rfl, rfl⟩)
  refine' merge1 (fun (Y : World) X => Lat w X ∧ Blk X Y.heap.size 190 #[.int .i64 0, .int .i64 0] ∧ w.heap.size ≤ Y.heap.size) ?h1 (fun Y w4 h4 => ?h2)
  case h1 =>
    go_region_held3 (fun X => X.cell? ⟨z, 8, none⟩ = some (.slice Ar ms.length cr))
      ((refine HCE.out _ ?_; repeat (first | exact Lat.refl _ | assumption | refine Lat.drew ?_ | refine Lat.drewN ?_ _ | refine Lat.alloc ?_ _ | refine Lat.setc (Nat.le_refl _) ?_ _ | refine Lat.setc (Lat.size (by assumption)) ?_ _)))
      (first
      | (go_at_call 127; (with_reducible refine (HLA.out _ (by repeat (first | exact Lat.refl _ | refine Lat.drew ?_ | refine Lat.drewN ?_ _ | refine Lat.alloc ?_ _))).mono ?_); rintro e2 w2 ⟨rfl, d2, rfl⟩)
      | (go_at_call 112; (with_reducible refine (HFO.out _ (by repeat (first | exact Lat.refl _ | refine Lat.drew ?_ | refine Lat.drewN ?_ _ | refine Lat.alloc ?_ _))).mono ?_); rintro e4 w4 ⟨rfl, hb4⟩; have l4 : Lat w w4 := Lat.below (by repeat (first | exact Lat.refl _ | refine Lat.drew ?_ | refine Lat.drewN ?_ _ | refine Lat.alloc ?_ _)) hb4; (try (have kbx : Blk w4 w.heap.size 190 #[.int .i64 0, .int .i64 0] := Blk.later (by first | (with_reducible exact HN1.out _) | (with_reducible exact HN2.out _)) hb4; have k60 : w4.cell? ⟨w.heap.size, 0, none⟩ = some (.int .i64 0) := kbx.cell 0; have k61 : w4.cell? ⟨w.heap.size, 1, none⟩ = some (.int .i64 0) := kbx.cell 1; have f60 : w4.frozen? ⟨w.heap.size, 0, none⟩ = false := kbx.frozen 0; have f61 : w4.frozen? ⟨w.heap.size, 1, none⟩ = false := kbx.frozen 1))))
    all_goals first
      | exact ⟨w4, rfl, l4.alloc _, Blk.new _ _ _, l4.size⟩
      | exact ⟨w, rfl, Lat.setc (Nat.le_refl _) (Lat.setc (Nat.le_refl _) l4 _) _, (kbx.set_ 0 _).set_ 1 _, Nat.le_refl _⟩
  obtain ⟨l4, k4, hY⟩ := h4
  have g0 : w4.cell? ⟨Y.heap.size, 0, none⟩ = some (.int .i64 0) := k4.cell 0
  have HL4 := hid l4
  clear c0 c1 c2 c3 c4 c5 c6 c7 c8 c9 c10 c11 c12 l4 k4
  go_wp2_with fail
  go_ret
  exact ⟨rfl, HL4.out⟩
end Go.Proofs.YtbpnbcjgkbpmgaaGreat
namespace Go.Proofs.YtbpnbcjgkbpmgaaGreat.St
open Go.RowKit Go.Lg
set_option linter.unusedVariables false
set_option linter.unusedSimpArgs false
end Go.Proofs.YtbpnbcjgkbpmgaaGreat.St
namespace Go.Proofs.YtbpnbcjgkbpmgaaGreat.St
open Go.RowKit Go.Lg
set_option linter.unusedVariables false
set_option linter.unusedSimpArgs false
def at_ (l : List (Int × Int)) (e m : Int) : Int × Int := if Sl.ok l e then (if 0 ≤ m ∧ m ≤ e then (Sl.ep l m, 0) else (0, 2)) else (0, 5)
def Two (r : Int × Int) (w : World) (e : Ending) (w' : World) : Prop := e = .returned (.tuple #[.int .i64 r.1, .int .i64 r.2]) ∧ Below w.heap.size w w'
end Go.Proofs.YtbpnbcjgkbpmgaaGreat.St
