/- A primary answers without waiting for the other site, as many times as its leash allows: of any acts. No condition. (part 40) -/
import Derived.BigQuiet
import Derived.Test.YtbpnbcjgkbpmgaaGreatMBm
namespace Go.Proofs.YtbpnbcjgkbpmgaaGreat
open Go.RowKit Go.Lg Ds St
set_option linter.unusedVariables false
set_option linter.unusedSimpArgs false
attribute [local go_sem] field190 field43_0 field43_1 field43_2
abbrev actc (ki nd nn tt : Int) (key : ByteArray) (A : Option Addr) (k c : Nat) : Array Value := #[.int .i64 ki, .int .i64 nd, .int .i64 nn, .int .i64 tt, .string key, .slice A k c]
theorem actcells {w : World} {z : Nat} {ki nd nn tt : Int} {key : ByteArray} {A : Option Addr} {k c : Nat} (h : Blk w z 30 (actc ki nd nn tt key A k c)) :
    w.cell? ⟨z, 0, none⟩ = some (.int .i64 ki) ∧ w.cell? ⟨z, 1, none⟩ = some (.int .i64 nd) ∧ w.cell? ⟨z, 2, none⟩ = some (.int .i64 nn) ∧ w.cell? ⟨z, 3, none⟩ = some (.int .i64 tt) ∧ w.cell? ⟨z, 4, none⟩ = some (.string key) ∧ w.cell? ⟨z, 5, none⟩ = some (.slice A k c) :=
  ⟨h.cell 0, h.cell 1, h.cell 2, h.cell 3, h.cell 4, h.cell 5⟩
def cmS (os : List Op3) (s : Ps) (most : Int) : Ps := { s with cs := cmC os s.cs s.ac most, B := s.B + 2000 }
theorem cmC_le (os : List Op3) (cs : List Cmt) (ac most : Int) : cs.length ≤ (cmC os cs ac most).length := by unfold cmC; split <;> simp
theorem WM.site0 {w w' : World} {tag tag' : Nat → Nat} {zw : Nat} {most : Int} {q : Wz} {s0 s1 s0' : Ps} {last : Int} {ks : List Lk.Key} (h : WM w tag zw most q s0 s1 last ks) (ht : Turn (Pr6 0) w tag w' tag') (m : NM w' tag' 0 q.d0 q.n0 q.z0 0 most s0'.ac s0'.kn s0'.p s0'.cs s0'.B) (hl : s0.cs.length ≤ s0'.cs.length) : WM w' tag' zw most q s0' s1 last ks := by
  obtain ⟨vA, ms, blk, hz, m0, m1, lk, an, hA⟩ := h
  exact ⟨vA, ms, ht.blk blk (by rw [hz]; unfold Pr6; omega), (ht.old zw blk.lt).trans hz, m, m1.turn ht (fun i hi => by unfold Pr6 at hi ⊢; omega), lk.turn ht (by unfold Pr6; omega), an.mv (ht.mv (by unfold Pr6; omega)), by omega⟩
theorem WM.site1 {w w' : World} {tag tag' : Nat → Nat} {zw : Nat} {most : Int} {q : Wz} {s0 s1 s1' : Ps} {last : Int} {ks : List Lk.Key} (h : WM w tag zw most q s0 s1 last ks) (ht : Turn (Pr6 10) w tag w' tag') (m : NM w' tag' 10 q.d1 q.n1 q.z1 1 most s1'.ac s1'.kn s1'.p s1'.cs s1'.B) : WM w' tag' zw most q s0 s1' last ks := by
  obtain ⟨vA, ms, blk, hz, m0, m1, lk, an, hA⟩ := h
  exact ⟨vA, ms, ht.blk blk (by rw [hz]; unfold Pr6; omega), (ht.old zw blk.lt).trans hz, m0.turn ht (fun i hi => by unfold Pr6 at hi ⊢; omega), m, lk.turn ht (by unfold Pr6; omega), an.mv (ht.mv (by unfold Pr6; omega)), hA⟩
theorem turn_two {w w' : World} {tag : Nat → Nat} {i j z : Nat} {I : Nat → Prop} (hT : Tidy w tag) (F' : Fp) (hm : Mod (fun k => tag k = i ∨ k = z) w w') (hz : tag z = j) (hi : I i) (hj : I j) : Turn I w tag w' (tgF w w' tag i F') := by
  refine ⟨hm.more fun k hk => ?_, fun k hk => ?_, fun k hk => ?_, fun k hk => ?_⟩
  · rcases hk with h | h
    · rw [h]; exact hi
    · rw [h, hz]; exact hj
  · unfold tgF; rw [if_pos hk]
  · unfold tgF; rw [if_neg (by omega)]
    split
    · exact .inr hi
    · exact .inl rfl
  · unfold tgF
    have := hm.size
    rw [if_neg (by omega), if_neg (by omega)]
theorem ans_fin {w Y : World} {tag : Nat → Nat} {zw : Nat} {most : Int} {q : Wz} {s0 s1 : Ps} {last : Int} {ks : List Lk.Key} {v v8 : Value} {ms : List Cm} {m : Cm} (hT : Tidy w tag) (blk : Blk w zw 71 (wdc most q.d0 q.n0 q.d1 q.n1 q.lz v)) (hz : tag zw = 23) (m0 : NM w tag 0 q.d0 q.n0 q.z0 0 most s0.ac s0.kn s0.p s0.cs s0.B) (m1 : NM w tag 10 q.d1 q.n1 q.z1 1 most s1.ac s1.kn s1.p s1.cs s1.B) (lk : LK w tag 21 q.lz last ks)
    (hA : ms.length + 1 ≤ s0.cs.length) (h1 : Blk Y zw 71 (wdc most q.d0 q.n0 q.d1 q.n1 q.lz v8)) (h2 : Cl Y (fun i => (tag i = 22 ∨ i = zw) ∨ w.heap.size ≤ i) v8 (ms ++ [m])) (h3 : Mod (fun k => tag k = 22 ∨ k = zw) w Y) :
    ∃ tag', Turn Wp w tag Y tag' ∧ WM Y tag' zw most q s0 s1 last ks := by
  have ht := turn_two (I := fun i => i = 22 ∨ i = 23) hT (fun k => tag k = 22 ∨ w.heap.size ≤ k) h3 hz (.inl rfl) (.inr rfl)
  have hsub : Sub w (Ow tag 22) (fun k => tag k = 22 ∨ w.heap.size ≤ k) := fun k hk => hk
  have hcl : Cl Y (fun k => tag k = 22 ∨ w.heap.size ≤ k) v8 (ms ++ [m]) := by
    refine ⟨h2.row.re fun g hg => ?_, fun x hx => ⟨(h2.ops x hx).1.re fun g hg => ?_, (h2.ops x hx).2⟩⟩
    · rcases (h2.row.lt g hg).1 with (h | h) | h
      · exact .inl h
      · exact absurd h (h2.row.ne_blk h1 (by decide) g hg)
      · exact .inr h
    · rcases ((h2.ops x hx).1.lt g hg).1 with (h | h) | h
      · exact .inl h
      · exact absurd h ((h2.ops x hx).1.ne_blk h1 (by decide) g hg)
      · exact .inr h
  refine ⟨_, ht.more (fun i hi => by unfold Wp; rcases hi with rfl | rfl <;> omega), v8, ms ++ [m], h1, (ht.old zw blk.lt).trans hz, m0.turn ht (fun i hi => by unfold Pr6; rcases hi with rfl | rfl <;> omega), m1.turn ht (fun i hi => by unfold Pr6; rcases hi with rfl | rfl <;> omega), lk.turn ht (by decide), hcl.mv (tgF_mv hsub), by simpa using hA⟩
set_option maxHeartbeats 4000000 in
set_option maxRecDepth 100000 in
theorem wcommit53 {w : World} {tag : Nat → Nat} {zw : Nat} {most : Int} {q : Wz} {s0 s1 : Ps} {last : Int} {ks : List Lk.Key} (hT : Tidy w tag) (h : WM w tag zw most q s0 s1 last ks)
    (ki nn tt : Int) (key : ByteArray) {A : Option Addr} {k c : Nat} {os : List Op3} (ho : Ro w (Ow tag 0) A k c (opc os)) (hl : os.length = k)
    (hp : s0.p = p1) (h1 : One 0 s0.cs) (hcs : s0.cs.length ≤ 500) (m1 : 1 ≤ most) (m2 : most ≤ 16) (a1 : 0 ≤ s0.ac) (a2 : s0.ac ≤ s0.cs.length) (hB : s0.B ≤ 500000) :
    Calls Tryz.prog 53 #[P zw, .agg (actc ki 0 nn tt key A k c)] w (ADid tag zw most q (cmE os s0.cs s0.ac most) (cmN os s0.cs s0.ac most) noStr false 0 (cmS os s0 most) s1 last ks w) := by
  subst hl
  obtain ⟨W, hW⟩ : ∃ W, W = (w.alloc (.cells (actc ki 0 nn tt key A os.length c) 30)).alloc (.cells did0 34) := ⟨_, rfl⟩
  have lW : Lat w W := by rw [hW]; exact ((Lat.refl w).alloc _).alloc _
  have k3 : Blk W w.heap.size 30 (actc ki 0 nn tt key A os.length c) := by rw [hW]; exact (Blk.new w 30 _).alloc _
  have k4 : Blk W (w.heap.size + 1) 34 did0 := by
    rw [hW]
    have := Blk.new (w.alloc (.cells (actc ki 0 nn tt key A os.length c) 30)) 34 did0
    simpa using this
  have hWs : W.heap.size = w.heap.size + 2 := by rw [hW]; simp
  have hTW := hT.below lW.size
  have hWM := h.later lW
  have hoW := ho.later lW.b
  have hkc := ho.cap
  obtain ⟨vA, ms, blk, hz, mm0, mm1, lk, an, hA⟩ := h.later lW
  obtain ⟨Ar, cr, rfl, _, _⟩ := an.row.slice_
  have hcm : ∀ d, Calls Tryz.prog 90 #[P q.n0, .slice A os.length c] (W.drewN d) fun e w' => e = .returned (.tuple #[.int .i64 (cmN os s0.cs s0.ac most), .int .i64 (cmE os s0.cs s0.ac most)]) ∧ ∃ tag', Turn (Pr6 0) W tag w' tag' ∧ NM w' tag' 0 q.d0 q.n0 q.z0 0 most s0.ac s0.kn p1 (cmC os s0.cs s0.ac most) (s0.B + 2000) := fun d => by
    have hm := mm0
    rw [hp] at hm
    have hl := (Lat.refl W).drewN d
    exact (ndcommit90 (hTW.below hl.size) (hm.later hl) (hoW.later hl.b) rfl (fun b hb => by have h5 : tag b = 0 := hb; rw [h5]; exact pr6_0 0) h1 (by omega) m1 m2 a1 a2 hB).mono fun e w' ⟨he, tag', ht, hn⟩ => ⟨he, tag', (hl.turn hTW (Pr6 0)).trans ht, hn⟩
  obtain ⟨c0, c1, c2, c3, c4, c5, c6⟩ := wdcells blk
  obtain ⟨x0, x1, x2, x3, x4, x5⟩ := actcells k3
  have HCM := hid hcm
  have HW := hid hWM
  have HL := hid lW
  have HK3 := hid k3
  have HK4 := hid k4
  have HT := hid hT
  have HS := hid hWs
  have HO := hid hoW
  have HBL := hid blk
  have HAN := hid an
  have HZ := hid (And.intro hz hA)
  have HP := hid hp
  clear hcm hWM blk mm0 mm1 lk an lW k3 k4 hT hTW h1 h ho hoW hz hA hWs hp
  go_enter Tryz.func53, Tryz.ntmps53
  go_upto_region 1 with fail
  rw [← hW]
  clear hW
  go_quiet (fail)
  obtain ⟨er, her⟩ : ∃ er, er = cmE os s0.cs s0.ac most := ⟨_, rfl⟩
  have HER := hid her
  clear her
  go_wp2_with ((go_at_call 90; refine stop_ (fun Ps hPs => ?_)))
  refine hPs ?_
  clear hPs Ps c0 c1 c2 c3 c4 c5 c6 x0 x1 x2 x3 x4 x5
  refine (HCM.out nq).mono ?_
  rintro e' w5 ⟨rfl, tag5, ht5, hn5⟩
  rw [← HER.out]
  have hW5 := HW.out.site0 (s0' := cmS os s0 most) ht5 (by show NM w5 tag5 0 q.d0 q.n0 q.z0 0 most s0.ac s0.kn s0.p (cmC os s0.cs s0.ac most) (s0.B + 2000); rw [HP.out]; exact hn5) (cmC_le _ _ _ _)
  have htW : Turn Wp W tag w5 tag5 := ht5.more fun i hi => by unfold Pr6 at hi; unfold Wp; omega
  have HW5 := hid hW5
  have HTW := hid htW
  have HN5 := hid hn5
  have HT5 := hid ht5
  clear ht5 hn5 hW5 htW HCM
  have hfinal : ∀ (Y : World) (tagY : Nat → Nat), Turn Wp W tag Y tagY → WM Y tagY zw most q (cmS os s0 most) s1 last ks →
      (∀ (w' : World), w' = setd Y (w.heap.size + 1) er (cmN os s0.cs s0.ac most) noStr false (.slice none 0 0) → ADid tag zw most q er (cmN os s0.cs s0.ac most) noStr false 0 (cmS os s0 most) s1 last ks w (.returned (didv er (cmN os s0.cs s0.ac most) noStr false (.slice none 0 0))) w') ∧ Blk (setd Y (w.heap.size + 1) er (cmN os s0.cs s0.ac most) noStr false (.slice none 0 0)) (w.heap.size + 1) 34 #[.int .i64 er, .int .i64 (cmN os s0.cs s0.ac most), .string noStr, .bool false, .slice none 0 0] ∧ Blk Y (w.heap.size + 1) 34 did0 := fun Y tagY hY hM =>
    adid_fin HT.out HL.out (by omega) HK4.out hY hM (Sl.nil_ _ _ _ _) (Nat.le_refl _) (fun u hu => by cases hu)
  obtain ⟨nr, hnr⟩ : ∃ nr, nr = cmN os s0.cs s0.ac most := ⟨_, rfl⟩
  rw [← hnr] at hfinal ⊢
  have HFI := hid hfinal
  have HNR := hid hnr
  clear hfinal hnr
  by_cases he0 : er = 0
  case neg =>
    have htd : Calls Tryz.prog 22 #[.int .i64 nr, .int .i64 er] w5 _ := wtold22 nr er w5
    go_wp2_with ((go_at_call 22; refine stop_ (fun Ps hPs => ?_)))
    refine hPs ?_
    clear hPs Ps
    refine htd.mono ?_
    rintro e' w6 ⟨rfl, hb6⟩
    obtain ⟨hfin, hkf, hkx⟩ := HFI.out w6 tag5 (HTW.out.lat ⟨hb6⟩) (HW5.out.later ⟨hb6⟩)
    obtain ⟨⟨x0, x1, x2, x3, x4⟩, f0, f1, f2, f3, f4⟩ := didcells hkx
    obtain ⟨⟨d0, d1, d2, d3, d4⟩, _⟩ := didcells hkf
    have HF := hid hfin
    clear hfin hkf hkx hb6 htd
    go_wp2_with fail
    refine bodyPost_ret (by simp [results, Tryz.results53, go_sem, d0, d1, d2, d3, d4]; try rfl) rfl ?_
    rw [← HER.out, ← HNR.out]
    exact HF.out _ rfl
  case pos =>
    subst he0
    have hcn : cmC os s0.cs s0.ac most = s0.cs ++ [⟨1, (s0.cs.length : Int) + 1, os⟩] := by unfold cmC; rw [if_pos HER.out.symm]
    have blk5 := HT5.out.blk HBL.out (by rw [HZ.out.1]; unfold Pr6; omega)
    have kx5 := HT5.out.blk HK3.out (by rw [HT.out _ (Nat.le_refl _)]; exact pr6_0 0)
    have an5 := HAN.out.mv (HT5.out.mv (j := 22) (by unfold Pr6; omega))
    have hz5 : tag5 zw = 23 := (HT5.out.old zw HBL.out.lt).trans HZ.out.1
    have hne6 : ∀ g, (Value.slice Ar ms.length cr).ownBlock = some g → g ≠ zw := an5.row.ne_blk blk5 (by decide)
    have hml : ms.length ≤ 500 := by have := HZ.out.2; omega
    have hkl : os.length ≤ 8 := by
      have h5 : cmE os s0.cs s0.ac most = 0 := HER.out.symm
      have h6 : bk os = 0 := by
        have := bk_cases os
        unfold cmE at h5
        split at h5
        · exact h5
        · rename_i h7; exact Decidable.not_not.1 h7
      unfold bk at h6
      split at h6
      · omega
      · split at h6
        · omega
        · omega
    have hPG : ∀ X, Lat w5 X → Calls Tryz.prog 92 #[P q.n0] X fun e w' => e = .returned (.agg #[.int .i64 1, .int .u8 1, .int .i64 0, .int .u8 0, .int .i64 0, .int .i64 0]) ∧ Below X.heap.size X w' := fun X l => ndpage92 (HN5.out.later l)
    have hCP : ∀ X, Lat w5 X → Calls Tryz.prog 91 #[.agg #[.int .i64 1, .int .i64 nr, .slice A os.length c]] X _ := fun X l => copy91 (ep := 1) (num := nr) (c := c) ⟨(((HO.out.mv (HT5.out.mv (j := 0) (pr6_0 0))).later l.b).rdf.rd (by decide)), rfl⟩ (by omega) hkc.1
    have y6 : w5.cell? ⟨zw, 6, none⟩ = some (.slice Ar ms.length cr) := blk5.cell 6
    have y5 : w5.cell? ⟨w.heap.size, 5, none⟩ = some (.slice A os.length c) := kx5.cell 5
    have HPG := hid hPG
    have HCP := hid hCP
    have HB5 := hid blk5
    have HX5 := hid kx5
    have HA5 := hid an5
    have HZ5 := hid hz5
    have HCN := hid hcn
    clear hPG hCP blk5 kx5 an5 hz5 hcn
    go_upto_region 4 with fail
    refine' merge5 (fun (X : World) A7 c7 A8 c8 Y => Blk Y zw 71 (wdc most q.d0 q.n0 q.d1 q.n1 q.lz (.slice A8 (ms.length + 1) c8)) ∧ Cl Y (fun i => (tag5 i = 22 ∨ i = zw) ∨ w5.heap.size ≤ i) (.slice A8 (ms.length + 1) c8) (ms ++ [⟨1, nr, A7, os.length, c7, os⟩]) ∧ Mod (fun k => tag5 k = 22 ∨ k = zw) w5 Y) ?g1 (fun X A7 c7 A8 c8 w9 h9 => ?g2)
    case g1 =>
      go_region_law (first
        | (go_simp; go_at_call 92; (with_reducible refine (HPG.out _ (by repeat (first | exact Lat.refl _ | refine Lat.drew ?_ | refine Lat.drewN ?_ _ | refine Lat.alloc ?_ _))).mono ?_); rintro e6 w6 ⟨rfl, hb6⟩; have l6 : Lat w5 w6 := Lat.below (by repeat (first | exact Lat.refl _ | refine Lat.drew ?_ | refine Lat.drewN ?_ _ | refine Lat.alloc ?_ _)) hb6; have y66 : w6.cell? ⟨zw, 6, none⟩ = some (.slice Ar ms.length cr) := (l6.blk HB5.out).cell 6; have y56 : w6.cell? ⟨w.heap.size, 5, none⟩ = some (.slice A os.length c) := (l6.blk HX5.out).cell 5)
        | (go_simp; go_at_call 91; (with_reducible refine (HCP.out _ (by repeat (first | exact l6 | refine Lat.drew ?_ | refine Lat.drewN ?_ _ | refine Lat.alloc ?_ _))).mono ?_); rintro e7 w7 ⟨A7, c7, rfl, ho7, hb7⟩; have l7 : Lat w5 w7 := Lat.below (by repeat (first | exact l6 | refine Lat.drew ?_ | refine Lat.drewN ?_ _ | refine Lat.alloc ?_ _)) hb7; have y67 : w7.cell? ⟨zw, 6, none⟩ = some (.slice Ar ms.length cr) := (l7.blk HB5.out).cell 6; have y67a : (w7.alloc (.cells (cmcs 1 nr A7 os.length c7) 88)).cell? ⟨zw, 6, none⟩ = some (.slice Ar ms.length cr) := ((l7.alloc _).blk HB5.out).cell 6)
        | (refine step_appS (c := 1) T46 (.tmp 29) (.tmp 38) rfl (by rfl) ((HA5.out.row.later l7.b).alloc _) (by go_simp) (RdF.lit w7 (cmcs 1 nr A7 os.length c7) 88 1 3 rfl) (by go_simp) (by simp [Value.oneCell']) (by omega) ?_; intro v8 w8 hv8 hg8 hat8; obtain ⟨A8, c8, rfl, _, _⟩ := hv8.slice_; have k8 : Blk w8 zw 71 (wdc most q.d0 q.n0 q.d1 q.n1 q.lz (.slice Ar ms.length cr)) := (((l7.alloc _).blk HB5.out).gb hg8 fun e => hne6 zw e.symm rfl); have y68 : w8.cell? ⟨zw, 6, none⟩ = some (.slice Ar ms.length cr) := k8.cell 6; have f68 : w8.frozen? ⟨zw, 6, none⟩ = false := k8.frozen 6))
      all_goals
        have hmid := obj_mid (w := w5) (F := fun k => tag5 k = 22 ∨ k = zw) (ty := 71) (cz := wdc most q.d0 q.n0 q.d1 q.n1 q.lz (.slice Ar ms.length cr)) (ix := 6) (o := .cells (cmcs 1 nr A7 os.length c7) 88) (Or.inr rfl) HB5.out (by decide) (by decide) (HA5.out.to fun k hk => .inl hk) l7 (Lat.size (by repeat (first | exact l6 | refine Lat.drew ?_ | refine Lat.drewN ?_ _ | refine Lat.alloc ?_ _))) ho7 rfl (hv8.to fun k hk => hk.imp (fun h => .inl h) id) hg8
        exact ⟨w7, A7, c7, A8, c8, rfl, hmid.1, hmid.2.1, hmid.2.2⟩
    case g2 =>
      obtain ⟨k9, c9, m9⟩ := h9
      obtain ⟨vA', ms', blk', hz', mm0, mm1, lk, an', hA'⟩ := HW5.out
      obtain ⟨tag9, ht9, hw9⟩ := ans_fin (s0 := cmS os s0 most) (s1 := s1) HT5.out.td HB5.out HZ5.out mm0 mm1 lk (by show _ ≤ (cmC os s0.cs s0.ac most).length; rw [HCN.out]; simp; exact HZ.out.2) k9 c9 m9
      have htd : Calls Tryz.prog 22 #[.int .i64 nr, .int .i64 0] w9 _ := wtold22 nr 0 w9
      have HT9 := hid (HTW.out.trans ht9)
      have HW9 := hid hw9
      clear k9 c9 m9 blk' hz' mm0 mm1 lk an' hA' ht9 hw9 y5 y6
      go_wp2_with ((go_at_call 22; refine stop_ (fun Ps hPs => ?_)))
      refine hPs ?_
      clear hPs Ps
      refine htd.mono ?_
      rintro e' w6 ⟨rfl, hb6⟩
      obtain ⟨hfin, hkf, hkx⟩ := HFI.out w6 tag9 (HT9.out.lat ⟨hb6⟩) (HW9.out.later ⟨hb6⟩)
      obtain ⟨⟨x0, x1, x2, x3, x4⟩, f0, f1, f2, f3, f4⟩ := didcells hkx
      obtain ⟨⟨d0, d1, d2, d3, d4⟩, _⟩ := didcells hkf
      have HF := hid hfin
      clear hfin hkf hkx hb6 htd
      go_wp2_with fail
      refine bodyPost_ret (by simp [results, Tryz.results53, go_sem, d0, d1, d2, d3, d4]; try rfl) rfl ?_
      rw [← HER.out, ← HNR.out]
      exact HF.out _ rfl
end Go.Proofs.YtbpnbcjgkbpmgaaGreat
namespace Go.Proofs.YtbpnbcjgkbpmgaaGreat
open Go.RowKit Go.Lg Ds St
set_option linter.unusedVariables false
set_option linter.unusedSimpArgs false
attribute [local go_sem] field190 field43_0 field43_1 field43_2
def ends2 {α β : Type} (A : α → β → Act) (R : α → β → World → Prop) : Exit → Act → World → Prop
  | .normal, a, W => ∃ x1 x2, a = A x1 x2 ∧ R x1 x2 W
  | _, _, _ => False
theorem merge2 {α β : Type} {c : Code} {P : Program} {Q : Exit → Act → World → Prop} {a : Act} {w : World} (R : α → β → World → Prop) {A : α → β → Act} (h1 : c.wp P (ends2 A R) a w)
    (h2 : ∀ x1 x2 W, R x1 x2 W → Q .normal (A x1 x2) W) : c.wp P Q a w :=
  Go.wp_mono h1 fun e a W h => by
    cases e <;> first | exact h.elim | (obtain ⟨x1, x2, rfl, h⟩ := h; exact h2 x1 x2 W h)
def KGot (tag : Nat → Nat) (i z : Nat) (x : Lk.Key) (er last : Int) (ks' : List Lk.Key) (w : World) (e : Ending) (w' : World) : Prop :=
  ∃ A c, e = .returned (.tuple #[.agg #[.int .i64 x.1, .int .i64 x.2.1, .slice A x.2.2.length c], .int .i64 er]) ∧ (∃ tag', Turn (fun k => k = i) w tag w' tag' ∧ LK w' tag' i z last ks') ∧ Rd w' w'.heap.size 1 A x.2.2.length (bts x.2.2) ∧ x.2.2.length ≤ c ∧ c ≤ maxLen
theorem kdeliver43 {w : World} {tag : Nat → Nat} {i z : Nat} {last : Int} {ks : List Lk.Key} (hT : Tidy w tag) (h : LK w tag i z last ks) (n : Int) :
    Calls Tryz.prog 43 #[P z, .int .i64 n] w (KGot tag i z (Lk.dX n ks) (Lk.dE n ks) last (Lk.dK n ks) w) := by
  obtain ⟨sv, ls, hx, hz, hs, rfl⟩ := h
  refine (Lk.deliver12 hx n).mono fun e w' ⟨x, hk, he, hl, ho, hle⟩ => ?_
  obtain ⟨A, c, hv, h1, h2⟩ := owned_slice ho
  have e1 : x.n = (Lk.dX n (ls.map Lk.Lt.k)).1 := by rw [← hk]; rfl
  have e2 : x.to = (Lk.dX n (ls.map Lk.Lt.k)).2.1 := by rw [← hk]; rfl
  have e3 : x.b = (Lk.dX n (ls.map Lk.Lt.k)).2.2 := by rw [← hk]; rfl
  refine ⟨A, c, ?_, left_turn hT hx hz hs hl, ?_, ?_, h2⟩
  · rw [he, ← e1, ← e2, ← e3]; show Ending.returned (Lk.lv x _) = _; unfold Lk.lv; rw [hv]
  · rw [← e3]; rw [hv] at ho; exact Rd.of_own ho
  · rw [← e3]; exact h1
def hrS (s : Ps) (ac kn : Int) (cs : List Cmt) (B : Nat) : Ps := { s with ac := ac, kn := kn, cs := cs, B := B }
set_option maxHeartbeats 4000000 in
set_option maxRecDepth 100000 in
theorem wdeliver23_0 {w : World} {tag : Nat → Nat} {zw : Nat} {most : Int} {q : Wz} {s0 s1 : Ps} {last : Int} {ks : List Lk.Key} {num : Int} {b : Bys} {bs : List Bys} {ac' kn' : Int} {cs' : List Cmt} {B' : Nat} (hT : Tidy w tag) (h : WM w tag zw most q s0 s1 last ks)
    (hE : Lk.dE num ks = 0) (hX : Lk.dX num ks = (num, 0, b)) (l0 : 0 ≤ last) (l1 : last ≤ 1000000000) (hb : bs.length ≤ 2) (hbm : ∀ x ∈ bs, x.length ≤ 1000000000) (hcl : s0.cs.length ≤ cs'.length)
    (hrc : ∀ X tagX A c, Tidy X tagX → NM X tagX 0 q.d0 q.n0 q.z0 0 most s0.ac s0.kn s0.p s0.cs s0.B → Rd X X.heap.size 1 A b.length (bts b) → b.length ≤ c → c ≤ maxLen → Calls Tryz.prog 45 #[P q.n0, .slice A b.length c] X (HrR tagX 0 q.d0 q.n0 q.z0 0 most ac' kn' s0.p cs' B' bs X)) :
    Calls Tryz.prog 23 #[P zw, .int .i64 num] w (ADid tag zw most q 0 0 noStr false 2 (hrS s0 ac' kn' cs' B') s1 (postL 1 bs (last, Lk.dK num ks)).1 (postL 1 bs (last, Lk.dK num ks)).2 w) := by
  obtain ⟨W, hW⟩ : ∃ W, W = w.alloc (.cells did0 34) := ⟨_, rfl⟩
  have lW : Lat w W := by rw [hW]; exact (Lat.refl w).alloc _
  have kW : Blk W w.heap.size 34 did0 := by rw [hW]; exact Blk.new _ _ _
  have hTW := hT.below lW.size
  have hWM := h.later lW
  obtain ⟨vA, ms, blk, hz, mm0, mm1, lk, an, hA⟩ := h.later lW
  have hdl := kdeliver43 hTW lk num
  rw [hE, hX] at hdl
  obtain ⟨ks', hks⟩ : ∃ ks', ks' = Lk.dK num ks := ⟨_, rfl⟩
  rw [← hks] at hdl ⊢
  obtain ⟨c0, c1, c2, c3, c4, c5, c6⟩ := wdcells blk
  have HWM := hid hWM
  have HL := hid lW
  have HK := hid kW
  have HT := hid hT
  have HTW := hid hTW
  have HRC := hid hrc
  have HBS := hid (And.intro hb (And.intro hbm hcl))
  have HZ := hid hz
  have HB := hid blk
  clear hWM lW kW hT hTW hrc hb hbm hcl hz blk mm0 mm1 lk an h hE hX hks
  go_enter Tryz.func23, Tryz.ntmps23
  go_upto_region 1 with fail
  rw [← hW]
  clear hW
  go_upto_region 2 with (go_at_call 43; (with_reducible refine hdl.mono ?_); rintro e' w1 ⟨A1, m1, rfl, ⟨tag1, ht1, lk1⟩, hrd1, hc1, hm1⟩)
  obtain ⟨V, hV⟩ : ∃ V, V = w1.alloc (.cells #[.int .i64 num, .int .i64 0, .slice A1 b.length m1] 102) := ⟨_, rfl⟩
  have lV : Lat w1 V := by rw [hV]; exact (Lat.refl w1).alloc _
  have kV : Blk V w1.heap.size 102 #[.int .i64 num, .int .i64 0, .slice A1 b.length m1] := by rw [hV]; exact Blk.new _ _ _
  obtain ⟨g, hg⟩ : ∃ g, g = w1.heap.size := ⟨_, rfl⟩
  rw [← hg] at kV ⊢
  rw [← hV]
  have hWV := (HWM.out.link ht1 lk1).later lV
  have htV : Turn Wp W tag V tag1 := (ht1.more fun i hi => by subst hi; unfold Wp; omega).lat lV
  have hbV := lV.blk (ht1.blk HB.out (by rw [HZ.out]; decide))
  have hz1 : tag1 zw = 23 := (ht1.old zw HB.out.lt).trans HZ.out
  obtain ⟨vA', ms', blk', hz', mm0, mm1, lk, an, hA'⟩ := hWV
  have hWV := (HWM.out.link ht1 lk1).later lV
  have hup : ∀ d, Calls Tryz.prog 44 #[P q.n0] (V.drewN d) fun e w' => e = .returned (.bool true) ∧ w' = V.drewN d := fun d => (ndup44 ((mm0.later ((Lat.refl V).drewN d)).blk.1)).mono fun _ _ h => ⟨h.1, h.2.symm⟩
  have hrc : ∀ X, Lat V X → Calls Tryz.prog 45 #[P q.n0, .slice A1 b.length m1] X (HrR tag1 0 q.d0 q.n0 q.z0 0 most ac' kn' s0.p cs' B' bs X) := fun X l => HRC.out X tag1 A1 m1 (htV.td.below l.size) (mm0.later l) ((hrd1.below (lV.trans l).b).more (lV.trans l).size) hc1 hm1
  have x0 : V.cell? ⟨g, 0, none⟩ = some (.int .i64 num) := kV.cell 0
  have x1 : V.cell? ⟨g, 1, none⟩ = some (.int .i64 0) := kV.cell 1
  have x2 : V.cell? ⟨g, 2, none⟩ = some (.slice A1 b.length m1) := kV.cell 2
  obtain ⟨c0, c1, c2, c3, c4, c5, c6⟩ := wdcells hbV
  have HUP := hid hup
  have HRV := hid hrc
  have HKV := hid kV
  have HBV := hid hbV
  have HWV := hid hWV
  have HTV := hid htV
  have HZ1 := hid hz1
  have HMM := hid mm0
  have HGW : Hid (w.heap.size ≤ V.heap.size) := hid (Nat.le_trans HL.out.size htV.size)
  have HG0 : Hid (tag1 g = 0) := hid (by rw [hg]; exact ht1.td _ (Nat.le_refl _))
  clear hV lV hg kV hbV hWV htV hz1 hup hrc blk' hz' mm0 mm1 lk an hA' hA ht1 lk1 hrd1 hc1 hm1 hdl HRC
  go_quiet ((go_at_call 44; with_reducible exact Calls.quiet_of_same (HUP.out _)))
  obtain ⟨w2, hw2⟩ : ∃ w2, w2 = V.drewN nq := ⟨_, rfl⟩
  rw [← hw2]
  have l2 : Lat V w2 := by rw [hw2]; exact (Lat.refl V).drewN _
  have y1 : w2.cell? ⟨g, 1, none⟩ = some (.int .i64 0) := (l2.blk HKV.out).cell 1
  have y2 : w2.cell? ⟨g, 2, none⟩ = some (.slice A1 b.length m1) := (l2.blk HKV.out).cell 2
  have z2 : w2.cell? ⟨zw, 2, none⟩ = some (P q.n0) := (wdcells (l2.blk HBV.out)).2.2.1
  have HL2 := hid l2
  clear hw2 l2 c0 c1 c2 c3 c4 c5 c6 x0 x1 x2
  go_upto_region 4 with fail
  refine' merge2 (fun A c X => ∃ tag5, Turn (Pr6 0) V tag1 X tag5 ∧ NM X tag5 0 q.d0 q.n0 q.z0 0 most ac' kn' s0.p cs' B' ∧ Bb X (Own0 V.heap.size tag5) (.slice A bs.length c) bs) ?i1 (fun A5 c5 w5 h5 => ?i2)
  case i1 =>
    go_region_law ((go_simp; go_at_call 45; (with_reducible refine (HRV.out _ (HL2.out.trans (by repeat (first | exact Lat.refl _ | refine Lat.drew ?_ | refine Lat.drewN ?_ _ | refine Lat.alloc ?_ _)))).mono ?_); rintro e2 w3 ⟨A3, c3, rfl, tag3, ht3, hn3, hb3⟩; have hlx := HL2.out.trans (by repeat (first | exact Lat.refl _ | refine Lat.drew ?_ | refine Lat.drewN ?_ _ | refine Lat.alloc ?_ _))))
    all_goals
      have hlx : Lat V _ := HL2.out.trans (by repeat (first | exact Lat.refl _ | refine Lat.drew ?_ | refine Lat.drewN ?_ _ | refine Lat.alloc ?_ _))
      refine ⟨A3, c3, rfl, tag3, ?_, hn3, hb3.to fun k hk => ⟨Nat.le_trans (Lat.size (HL2.out.trans (by repeat (first | exact Lat.refl _ | refine Lat.drew ?_ | refine Lat.drewN ?_ _ | refine Lat.alloc ?_ _)))) hk.1, hk.2⟩⟩
      first
        | exact (HL2.out.turn HTV.out.td (Pr6 0)).trans ht3
        | exact ((HL2.out.trans (Lat.drew (Lat.refl _))).turn HTV.out.td (Pr6 0)).trans ht3
  obtain ⟨tag5, ht5, hn5, hb5⟩ := h5
  have hW5 := HWV.out.site0 (s0' := hrS s0 ac' kn' cs' B') ht5 hn5 HBS.out.2.2
  have hbk5 := ht5.blk HBV.out (by rw [HZ1.out]; unfold Pr6; omega)
  have hz5 : tag5 zw = 23 := (ht5.old zw HBV.out.lt).trans HZ1.out
  have hW5' := hW5
  obtain ⟨vA', ms', blk', hz', mm0, mm1, lk5, an, hA'⟩ := hW5'
  have hpo : Calls Tryz.prog 46 #[P zw, .int .i64 ((0 : Nat) : Int), .slice A5 bs.length c5] w5 _ := wpost46 0 (by omega) ht5.td hbk5 hz5 lk5 l0 l1 (hb5.to fun k hk => hk.2) (by have := HBS.out.1; omega) HBS.out.2.1
  have y1 : w5.cell? ⟨g, 1, none⟩ = some (.int .i64 0) := (ht5.blk HKV.out (by rw [HG0.out]; exact pr6_0 0)).cell 1
  have HPO := hid hpo
  have HW5 := hid hW5
  have HT5 := hid (HTV.out.trans (ht5.more fun i hi => by unfold Pr6 at hi; unfold Wp; omega))
  have HS5 := hid (Nat.le_trans HGW.out ht5.size)
  clear hpo hW5 ht5 hn5 hb5 hbk5 hz5 blk' hz' mm0 mm1 lk5 an hA'
  go_wp2_with (go_at_call 46; refine stop_ (fun Ps hPs => ?_))
  refine hPs ?_
  clear hPs Ps
  refine HPO.out.mono ?_
  rintro e' w6 ⟨v6, n6, xs, rfl, tag6, ht6, lk6, sl6, hn6, hone⟩
  obtain ⟨A6, c6, rfl, _, _⟩ := sl6.slice_
  have htX : Turn Wp W tag w6 tag6 := HT5.out.trans (ht6.more fun i hi => by subst hi; unfold Wp; omega)
  obtain ⟨hfin, hkf, hkx⟩ := adid_fin (er := 0) (nr := 0) (sv := noStr) (tb := false) (N := 2) HT.out HL.out (Nat.le_refl _) HK.out htX (HW5.out.link ht6 lk6) (sl6.to fun k hk => ⟨Nat.le_trans HS5.out hk.1, hk.2⟩) (by have := HBS.out.1; omega) hone
  obtain ⟨⟨x0, x1, x2, x3, x4⟩, f0, f1, f2, f3, f4⟩ := didcells hkx
  obtain ⟨⟨d0, d1, d2, d3, d4⟩, _⟩ := didcells hkf
  have HF := hid hfin
  clear hfin hkf hkx ht6 lk6 sl6 htX hn6 hone y1 y2 z2
  go_wp2_with fail
  refine bodyPost_ret (by simp [results, Tryz.results23, go_sem, d0, d1, d2, d3, d4]; try rfl) rfl ?_
  exact HF.out _ rfl
end Go.Proofs.YtbpnbcjgkbpmgaaGreat
