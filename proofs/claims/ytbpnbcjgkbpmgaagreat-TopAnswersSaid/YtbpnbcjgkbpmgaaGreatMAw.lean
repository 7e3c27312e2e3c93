/- A primary answers without waiting for the other site, as many times as its leash allows: of any acts. No condition. (part 23) -/
import Derived.Defers
import Derived.Test.YtbpnbcjgkbpmgaaGreatMAr
import Derived.Test.YtbpnbcjgkbpmgaaGreatMAv
namespace Go.Proofs.YtbpnbcjgkbpmgaaGreat
open Go.RowKit Go.Lg Ds St
set_option linter.unusedVariables false
set_option linter.unusedSimpArgs false
attribute [local go_sem] field190
abbrev setp (w : World) (z : Nat) (q : Pg) : World :=
  (((((w.setCell ⟨z, 2, none⟩ (.int .i64 q.ep)).setCell ⟨z, 3, none⟩ (.int .u8 q.ro)).setCell ⟨z, 4, none⟩ (.int .i64 q.ac)).setCell ⟨z, 5, none⟩ (.int .u8 q.ph)).setCell ⟨z, 6, none⟩ (.int .i64 q.fo)).setCell ⟨z, 7, none⟩ (.int .i64 q.ba)
theorem Sb.setp {w : World} {F : Fp} {z dz wz rz sz : Nat} {p : Pg} {cs : List Cmt} (h : Sb w F z dz wz rz sz p cs) (q : Pg) : Sb (setp w z q) F z dz wz rz sz q cs := by
  obtain ⟨vL, ms, inz, blk, hms, cl⟩ := h
  have b1 := blk.set_ 2 (.int .i64 q.ep)
  have b2 := b1.set_ 3 (.int .u8 q.ro)
  have b3 := b2.set_ 4 (.int .i64 q.ac)
  have b4 := b3.set_ 5 (.int .u8 q.ph)
  have b5 := b4.set_ 6 (.int .i64 q.fo)
  have b6 := b5.set_ 7 (.int .i64 q.ba)
  have c1 := cl.setz blk (by decide) (by decide) 2 (.int .i64 q.ep)
  have c2 := c1.setz b1 (by decide) (by decide) 3 (.int .u8 q.ro)
  have c3 := c2.setz b2 (by decide) (by decide) 4 (.int .i64 q.ac)
  have c4 := c3.setz b3 (by decide) (by decide) 5 (.int .u8 q.ph)
  have c5 := c4.setz b4 (by decide) (by decide) 6 (.int .i64 q.fo)
  have c6 := c5.setz b5 (by decide) (by decide) 7 (.int .i64 q.ba)
  exact ⟨vL, ms, inz, b6, hms, c6⟩
theorem SM.setp {w : World} {tag : Nat → Nat} {t dz wz rz sz z n : Nat} {p : Pg} {d : Dsk} {cs cs' : List Cmt} {es : List Nat} (hT : Tidy w tag) (h : SM w tag t dz wz rz sz z n p d cs cs' es) (q : Pg) :
    Turn (Prt t) w tag (setp w z q) tag ∧ SM (setp w z q) tag t dz wz rz sz z n q d cs cs' es := by
  have htz : tag z = t + 5 := h.sb.inz.1
  have h5 : t + 5 ≠ 0 := by omega
  have t1 := turn_set (b := 2) hT (.int .i64 q.ep) htz h5
  have t2 := t1.trans (turn_set (b := 3) t1.td (.int .u8 q.ro) htz h5)
  have t3 := t2.trans (turn_set (b := 4) t2.td (.int .i64 q.ac) htz h5)
  have t4 := t3.trans (turn_set (b := 5) t3.td (.int .u8 q.ph) htz h5)
  have t5 := t4.trans (turn_set (b := 6) t4.td (.int .i64 q.fo) htz h5)
  have t6 := t5.trans (turn_set (b := 7) t5.td (.int .i64 q.ba) htz h5)
  refine ⟨t6.more fun i hi => by subst hi; unfold Prt; omega, h.dk.mv (t6.mv (by omega)), h.wl.mv (t6.mv (by omega)), h.r0.mv (t6.mv (by omega)), h.sr.mv (t6.mv (by omega)), h.sb.setp q⟩
theorem SM.dsk {w w' : World} {tag tag' : Nat → Nat} {t dz wz rz sz z n : Nat} {p : Pg} {d d' : Dsk} {cs cs' : List Cmt} {es : List Nat} (h : SM w tag t dz wz rz sz z n p d cs cs' es) (ht : Turn (fun i => i = t + 1) w tag w' tag') (hd : Dk w' (Ow tag' (t + 1)) dz d') : SM w' tag' t dz wz rz sz z n p d' cs cs' es :=
  ⟨hd, h.wl.mv (ht.mv (by omega)), h.r0.mv (ht.mv (by omega)), h.sr.mv (ht.mv (by omega)), h.sb.mv (ht.mv (by omega))⟩
theorem encP_le (q : Pg) : (Pp.encP q).length ≤ 100000 := by
  have h1 := Pp.encN_le (Pp.nums q)
  have h2 : (Pp.nums q).length ≤ 10000 := by unfold Pp.nums; (repeat' split) <;> simp
  unfold Pp.encP
  omega
set_option maxHeartbeats 4000000 in
set_option maxRecDepth 100000 in
theorem stset80 {w : World} {tag : Nat → Nat} {t dz wz rz sz z n : Nat} {p q : Pg} {fs : Nat → Bs} {cs : List Cmt} {es : List Nat} (hT : Tidy w tag) (h : SM w tag t dz wz rz sz z n p (At fs) cs cs es)
    (hq : Pp.Ok q) (hph : q.ph = 0) (hro : q.ro ≠ 3) (hpe : lastEp cs ≤ q.ep) (hpa : q.ac ≤ cs.length) (hcs : cs.length ≤ 10000) (hs : tot fs ≤ 1000000) :
    Calls Tryz.prog 80 #[P z, q.v] w fun e w' => e = .returned (.int .i64 0) ∧ ∃ tag', Turn (Prt t) w tag w' tag' ∧ SM w' tag' t dz wz rz sz z n q (At (upd fs 1 (fs 1 ++ Vi.fr (Pp.encP q)))) cs cs es := by
  have hen0 := fun X => Pp.encode14_ok hq X
  obtain ⟨fq, hfq⟩ : ∃ fq, fq = Pp.encP q := ⟨_, rfl⟩
  have hfl : fq.length ≤ 100000 := by rw [hfq]; exact encP_le q
  rw [← hfq] at hen0 ⊢
  have HFQ := hid hfq
  have HQ := hid hq
  clear hfq hq
  obtain ⟨q1, q2, q3, q4, q5, q6⟩ := q
  simp only at hph hro hpe hpa
  subst hph
  obtain ⟨W, hW⟩ : ∃ W, W = w.alloc (.cells #[.int .i64 q1, .int .u8 q2, .int .i64 q3, .int .u8 0, .int .i64 q5, .int .i64 q6] 43) := ⟨_, rfl⟩
  have lW : Lat w W := by rw [hW]; exact (Lat.refl w).alloc _
  have kW : Blk W w.heap.size 43 #[.int .i64 q1, .int .u8 q2, .int .i64 q3, .int .u8 0, .int .i64 q5, .int .i64 q6] := by rw [hW]; exact Blk.new _ _ _
  have hSW := h.later lW
  have hon : Calls Tryz.prog 118 #[P dz] W (Asked true W) := on118 hSW.dk
  have hw := stwrong124 hSW.sb hon
  have hen := hen0 W
  have htz : tag z = t + 5 := h.sb.inz.1
  have hzw : z < w.heap.size := h.sb.inz.2
  have hbx : tag w.heap.size = 0 := hT _ (Nat.le_refl _)
  have HS := hid hSW
  have HLW := hid lW
  have HK := hid kW
  have b0 : W.cell? ⟨w.heap.size, 0, none⟩ = some (.int .i64 q1) := kW.cell 0
  have b1 : W.cell? ⟨w.heap.size, 1, none⟩ = some (.int .u8 q2) := kW.cell 1
  have b2 : W.cell? ⟨w.heap.size, 2, none⟩ = some (.int .i64 q3) := kW.cell 2
  have b3 : W.cell? ⟨w.heap.size, 3, none⟩ = some (.int .u8 0) := kW.cell 3
  have b4 : W.cell? ⟨w.heap.size, 4, none⟩ = some (.int .i64 q5) := kW.cell 4
  have b5 : W.cell? ⟨w.heap.size, 5, none⟩ = some (.int .i64 q6) := kW.cell 5
  clear h hSW kW lW hon
  go_enter Tryz.func80, Tryz.ntmps80
  go_upto_region 1 with fail
  rw [← hW]
  clear hW
  go_wp2_with (first | (go_at_call 124; (with_reducible refine hw.mono ?_); rintro e' w1 ⟨rfl, rfl⟩) | (go_at_call 125; refine stop_ (fun Ps hPs => ?_)))
  refine hPs ?_
  clear hPs Ps
  refine hen.mono ?_
  rintro e' w1 ⟨vb, rfl, hvb, hb1⟩
  obtain ⟨Ab, cb, rfl, qb1, qb2⟩ := owned_slice hvb
  have l1 : Lat w w1 := HLW.out.below hb1
  go_wp2_with fail
  have lW1 : Lat W w1 := ⟨hb1⟩
  have hs1 : SM w1 tag t dz wz rz sz z n p (At fs) cs cs es := HS.out.later lW1
  have hbk : ∃ vL ms, Blk w1 z 205 (stc dz p vL wz rz sz) ∧ ms.map Cm.p = cs ∧ Cl w1 (Ow tag (t + 5)) vL ms := by
    obtain ⟨vL, ms, inz, blk, hms, cl⟩ := hs1.sb
    exact ⟨vL, ms, blk, hms, cl⟩
  obtain ⟨vL, ms, blk, hms, cl⟩ := hbk
  obtain ⟨Ar, cr, rfl, _, _⟩ := cl.row.slice_
  have hml : ms.length = cs.length := by rw [← hms]; simp
  have H1 := hid hs1
  have hLA : ∀ X, Lat w1 X → Calls Tryz.prog 127 #[P z] X fun e w' => e = .returned (.int .i64 (lastEp cs)) ∧ ∃ d, w' = X.drewN d := fun X l => stlast127 (H1.out.sb.mv (bmv l.b _))
  have h128 : ∀ X, Lat w1 X → Calls Tryz.prog 128 #[P rz] X (Num0 0 X) := fun X l => rend128 (H1.out.r0.mv (bmv l.b _))
  have h126 : ∀ X, Calls Tryz.prog 126 #[P z, .agg #[.int .i64 q1, .int .u8 q2, .int .i64 q3, .int .u8 0, .int .i64 q5, .int .i64 q6], .int .i64 (ms.length : Nat), .int .i64 (lastEp cs), .int .i64 0] X fun e w' => e = .returned (.bool true) ∧ Below X.heap.size X w' := fun X => stsound126 z ⟨q1, q2, q3, 0, q5, q6⟩ _ (lastEp cs) X rfl hro (by omega) hpe (by show q3 ≤ _; omega)
  have hCE : ∀ X, Lat w1 X → X.cell? ⟨w.heap.size, 0, none⟩ = some (.int .i64 q1) ∧ X.cell? ⟨w.heap.size, 1, none⟩ = some (.int .u8 q2) ∧ X.cell? ⟨w.heap.size, 2, none⟩ = some (.int .i64 q3) ∧ X.cell? ⟨w.heap.size, 3, none⟩ = some (.int .u8 0) ∧ X.cell? ⟨w.heap.size, 4, none⟩ = some (.int .i64 q5) ∧ X.cell? ⟨w.heap.size, 5, none⟩ = some (.int .i64 q6) ∧ X.cell? ⟨z, 8, none⟩ = some (.slice Ar ms.length cr) ∧ X.cell? ⟨z, 10, none⟩ = some (P rz) := fun X l => by
    have k := l.blk (lW1.blk HK.out)
    have b := l.blk blk
    exact ⟨k.cell 0, k.cell 1, k.cell 2, k.cell 3, k.cell 4, k.cell 5, b.cell 8, b.cell 10⟩
  have HK1 := hid (lW1.blk HK.out)
  have HLA := hid hLA
  have H128 := hid h128
  have H126 := hid h126
  have HCE := hid hCE
  have HL1 := hid l1
  have HVB := hid hvb
  have HBK := hid blk
  clear hLA h128 h126 hCE l1 hvb blk hms cl hs1 hb1 b0 b1 b2 b3 b4 b5 hw hen hen0 hml lW1
  refine' merge0 (fun X => Lat w1 X) ?i1 (fun w4 l4 => ?i2)
  case i1 =>
    go_region_held3 (fun X => X.cell? ⟨w.heap.size, 0, none⟩ = some (.int .i64 q1) ∧ X.cell? ⟨w.heap.size, 1, none⟩ = some (.int .u8 q2) ∧ X.cell? ⟨w.heap.size, 2, none⟩ = some (.int .i64 q3) ∧ X.cell? ⟨w.heap.size, 3, none⟩ = some (.int .u8 0) ∧ X.cell? ⟨w.heap.size, 4, none⟩ = some (.int .i64 q5) ∧ X.cell? ⟨w.heap.size, 5, none⟩ = some (.int .i64 q6) ∧ X.cell? ⟨z, 8, none⟩ = some (.slice Ar ms.length cr) ∧ X.cell? ⟨z, 10, none⟩ = some (P rz))
      ((refine HCE.out _ ?_; repeat (first | exact Lat.refl _ | assumption | refine Lat.drew ?_ | refine Lat.drewN ?_ _ | refine Lat.alloc ?_ _)))
      (first
      | (go_at_call 127; (with_reducible refine (HLA.out _ (by repeat (first | exact Lat.refl _ | refine Lat.drew ?_ | refine Lat.drewN ?_ _ | refine Lat.alloc ?_ _))).mono ?_); rintro e2 w2 ⟨rfl, d2, rfl⟩)
      | (go_at_call 128; (with_reducible refine (H128.out _ (by repeat (first | exact Lat.refl _ | refine Lat.drew ?_ | refine Lat.drewN ?_ _ | refine Lat.alloc ?_ _))).mono ?_); rintro e2 w2 ⟨rfl, rfl⟩)
      | (go_at_call 126; (with_reducible refine (H126.out _).mono ?_); rintro e4 w6 ⟨rfl, hb6⟩; have l6 : Lat w1 w6 := Lat.below (by repeat (first | exact Lat.refl _ | refine Lat.drew ?_ | refine Lat.drewN ?_ _ | refine Lat.alloc ?_ _)) hb6))
    all_goals exact ⟨rfl, l6⟩
  go_wp2_with (go_at_call 129; refine stop_ (fun Ps hPs => ?_))
  refine hPs ?_
  clear hPs Ps
  refine (frame_nil Ab cb fq w4 (Rd.of_own (owned_later HVB.out l4.b)) (by omega)).mono ?_
  rintro e' w5 ⟨v5, rfl, hv5, hb5⟩
  obtain ⟨A5, c5, rfl, q51, q52⟩ := owned_slice hv5
  have l5 : Lat w w5 := (HL1.out.trans l4).below hb5
  have l15 : Lat w1 w5 := l4.below hb5
  have hfl2 := fr_len fq
  obtain ⟨fr, hfr⟩ : ∃ fr, fr = Vi.fr fq := ⟨_, rfl⟩
  rw [← hfr] at hfl2 hv5 q51 ⊢
  have hs5 := H1.out.later l15
  have hT5 : Tidy w5 tag := hT.below l5.size
  have hwr := write131 (G := fun b => w.heap.size ≤ b) hs5.dk (At.ok fs) 1 A5 fr.length c5 fr ((Sl.of_own hv5 fun g hg => Nat.le_trans (HL1.out.trans l4).size (hv5.lt g hg).1).rdf) (fun b hb ht => by have h0 := hT b hb; have h1 : tag b = t + 1 := ht; omega) (by rw [at_sz]; omega) q51 q52
  rw [show ((1 : Int)) = ((1 : Nat) : Int) from rfl, at_write fs (by decide)] at hwr
  have b5 := l15.blk HBK.out
  obtain ⟨e0, e1, _⟩ := stcells b5
  have HS5 := hid hs5
  have HT5 := hid hT5
  have HL5 := hid l5
  have HL15 := hid l15
  have HFR := hid hfr
  clear hv5 hb5 hs5 hT5 l5 l4 l15 hfr
  go_wp2_with (go_at_call 131; refine stop_ (fun Ps hPs => ?_))
  refine hPs ?_
  clear hPs Ps
  refine hwr.mono ?_
  rintro e' w6 ⟨rfl, hl6⟩
  obtain ⟨tag6, ht6, hd6⟩ := DLeft.turn (I := fun k => k = t + 1) HT5.out hl6 rfl
  have b6 := ht6.blk b5 (by rw [htz]; omega)
  have hs6 : SM w6 tag6 t dz wz rz sz z n p (Wt fs 1 fr) cs cs es := HS5.out.dsk ht6 hd6
  obtain ⟨hq7, hs7⟩ := hs6.tried ht6.td
  have HT7 := hid (((HL5.out.turn hT (Prt t)).trans (ht6.more fun i hi => by subst hi; unfold Prt; omega)).trans hq7)
  have k7 := (ht6.blk (HL15.out.blk HK1.out) (by rw [hbx]; omega)).far (p := ⟨z, 1, none⟩) (by dsimp only; omega) (.bool false)
  have htz6 : tag6 z = t + 5 := hs6.sb.inz.1
  have hbx6 : tag6 w.heap.size = 0 := by rw [ht6.old _ (by have := HL5.out.size; have := (HL15.out.blk HK1.out).lt; omega)]; exact hbx
  have b7 : Blk (w6.setCell ⟨z, 1, none⟩ (.bool false)) z 205 (stc dz p (.slice Ar ms.length cr) wz rz sz) := b6.set_ 1 _
  obtain ⟨y0, y1, _⟩ := stcells b7
  have hsy := sync132 hs7.dk (Wt.ok fs (by decide) fr) (by have := wt_sz fs 1 fr; omega)
  rw [wt_sync] at hsy
  have HS7 := hid hs7
  have HB7 := hid b7
  have HK7 := hid k7
  clear hl6 ht6 hd6 hs6 hq7 hs7 k7 e0 e1 hwr b5 b7
  go_wp2_with (first | (go_at_call 130; (with_reducible refine (sttried130 b6).mono ?_); rintro e9 w9 ⟨rfl, rfl⟩) | (go_at_call 132; refine stop_ (fun Ps hPs => ?_)))
  refine hPs ?_
  clear hPs Ps y0 y1
  refine hsy.mono ?_
  rintro e' w8 ⟨rfl, hl8⟩
  obtain ⟨tag8, ht8, hd8⟩ := DLeft.turn (I := fun k => k = t + 1) HT7.out.td hl8 rfl
  have b8 := ht8.blk HB7.out (by rw [htz6]; omega)
  have hs8 : SM w8 tag8 t dz wz rz sz z n p (At (upd fs 1 (fs 1 ++ fr))) cs cs es := HS7.out.dsk ht8 hd8
  obtain ⟨hq9, hs9⟩ := hs8.tried ht8.td
  have HT9 := hid ((HT7.out.trans (ht8.more fun i hi => by subst hi; unfold Prt; omega)).trans hq9)
  have k9 := (ht8.blk HK7.out (by rw [hbx6]; omega)).far (p := ⟨z, 1, none⟩) (by dsimp only; omega) (.bool false)
  have HS9 := hid hs9
  have b9 : Blk (w8.setCell ⟨z, 1, none⟩ (.bool false)) z 205 (stc dz p (.slice Ar ms.length cr) wz rz sz) := b8.set_ 1 _
  obtain ⟨e0, e1, e2, e3, e4, e5, e6, e7, _⟩ := stcells b9
  have f2 : (w8.setCell ⟨z, 1, none⟩ (.bool false)).frozen? ⟨z, 2, none⟩ = false := b9.frozen 2
  have f3 : (w8.setCell ⟨z, 1, none⟩ (.bool false)).frozen? ⟨z, 3, none⟩ = false := b9.frozen 3
  have f4 : (w8.setCell ⟨z, 1, none⟩ (.bool false)).frozen? ⟨z, 4, none⟩ = false := b9.frozen 4
  have f5 : (w8.setCell ⟨z, 1, none⟩ (.bool false)).frozen? ⟨z, 5, none⟩ = false := b9.frozen 5
  have f6 : (w8.setCell ⟨z, 1, none⟩ (.bool false)).frozen? ⟨z, 6, none⟩ = false := b9.frozen 6
  have f7 : (w8.setCell ⟨z, 1, none⟩ (.bool false)).frozen? ⟨z, 7, none⟩ = false := b9.frozen 7
  have d0 : (w8.setCell ⟨z, 1, none⟩ (.bool false)).cell? ⟨w.heap.size, 0, none⟩ = some (.int .i64 q1) := k9.cell 0
  have d1 : (w8.setCell ⟨z, 1, none⟩ (.bool false)).cell? ⟨w.heap.size, 1, none⟩ = some (.int .u8 q2) := k9.cell 1
  have d2 : (w8.setCell ⟨z, 1, none⟩ (.bool false)).cell? ⟨w.heap.size, 2, none⟩ = some (.int .i64 q3) := k9.cell 2
  have d3 : (w8.setCell ⟨z, 1, none⟩ (.bool false)).cell? ⟨w.heap.size, 3, none⟩ = some (.int .u8 0) := k9.cell 3
  have d4 : (w8.setCell ⟨z, 1, none⟩ (.bool false)).cell? ⟨w.heap.size, 4, none⟩ = some (.int .i64 q5) := k9.cell 4
  have d5 : (w8.setCell ⟨z, 1, none⟩ (.bool false)).cell? ⟨w.heap.size, 5, none⟩ = some (.int .i64 q6) := k9.cell 5
  clear hl8 ht8 hd8 hs8 hq9 hs9 hsy b9 k9
  go_wp2_with (go_at_call 130; (with_reducible refine (sttried130 b8).mono ?_); rintro e9 w9 ⟨rfl, rfl⟩)
  go_ret
  obtain ⟨ha, hb⟩ := HS9.out.setp HT9.out.td ⟨q1, q2, q3, 0, q5, q6⟩
  rw [HFR.out] at hb
  exact ⟨rfl, tag8, HT9.out.trans ha, hb⟩
end Go.Proofs.YtbpnbcjgkbpmgaaGreat
namespace Go.Proofs.YtbpnbcjgkbpmgaaGreat
open Go.RowKit Go.Lg Ds St
set_option linter.unusedVariables false
set_option linter.unusedSimpArgs false
attribute [local go_sem] field190
abbrev ndc (num most : Int) (dz z : Nat) (ac kn : Int) : Array Value := #[.int .i64 num, .int .i64 most, P dz, P z, .int .i64 ac, .int .i64 kn, .int .i64 0, .int .i64 0, .int .u8 0, .int .i64 0, .slice none 0 0, .int .i64 0, .int .i64 0, .slice none 0 0]
theorem ndcells {w : World} {nz dz z : Nat} {num most ac kn : Int} (h : Blk w nz 149 (ndc num most dz z ac kn)) :
    w.cell? ⟨nz, 0, none⟩ = some (.int .i64 num) ∧ w.cell? ⟨nz, 1, none⟩ = some (.int .i64 most) ∧ w.cell? ⟨nz, 2, none⟩ = some (P dz) ∧ w.cell? ⟨nz, 3, none⟩ = some (P z) ∧ w.cell? ⟨nz, 4, none⟩ = some (.int .i64 ac) ∧ w.cell? ⟨nz, 5, none⟩ = some (.int .i64 kn) :=
  ⟨h.cell 0, h.cell 1, h.cell 2, h.cell 3, h.cell 4, h.cell 5⟩
set_option maxHeartbeats 1000000 in
set_option maxRecDepth 100000 in
theorem ndnone74 {w : World} {nz dz z : Nat} {num most ac kn : Int} (h : Blk w nz 149 (ndc num most dz z ac kn)) : Calls Tryz.prog 74 #[P nz] w (Asked false w) := by
  obtain ⟨c0, c1, c2, c3, c4, c5⟩ := ndcells h
  clear h
  go_enter Tryz.func74, Tryz.ntmps74
  go_wp2_with fail
  all_goals (go_ret; exact asked_eq rfl)
set_option maxHeartbeats 1000000 in
set_option maxRecDepth 100000 in
theorem ndup44 {w : World} {nz dz z : Nat} {num most ac kn : Int} (h : Blk w nz 149 (ndc num most dz z ac kn)) : Calls Tryz.prog 44 #[P nz] w (Asked true w) := by
  have hn := ndnone74 h
  obtain ⟨c0, c1, c2, c3, c4, c5⟩ := ndcells h
  clear h
  go_enter Tryz.func44, Tryz.ntmps44
  go_wp2_with (go_at_call 74; (with_reducible refine hn.mono ?_); rintro e' w1 ⟨rfl, rfl⟩)
  all_goals (go_ret; exact asked_eq rfl)
abbrev Bet (a b : Nat) : Fp := fun k => a ≤ k ∧ k < b
set_option maxHeartbeats 1000000 in
set_option maxRecDepth 100000 in
theorem nddo117 (b4 b2 : Nat) (er : Int) (he : er ≠ 6) (u : FrameMode) (w : World) (h4 : w.cell? ⟨b4, 0, none⟩ = some (.int .i64 er)) :
    CallsD Tryz.prog 117 #[P b4, P b2] u w fun e u' w' => u' = u ∧ e = .returned (.tuple #[]) ∧ w' = w := by
  go_enter_d Tryz.func117, Tryz.ntmps117
  go_wp2
  go_end0
  exact ⟨rfl, rfl⟩
def Does (lo : Nat) (er : Int) (R : World → World → Prop) (X : World) (e : Ending) (w' : World) : Prop :=
  e = .returned (.int .i64 er) ∧ X.heap.size ≤ w'.heap.size ∧ (∀ k, lo ≤ k → k < X.heap.size → w'.heap[k]? = X.heap[k]?) ∧ R X w'
set_option maxHeartbeats 2000000 in
set_option maxRecDepth 100000 in
theorem nddo75 {w : World} {nz dz z : Nat} {num most ac kn er : Int} {fn : Nat} {caps : Array Value} {R : World → World → Prop} (h : Blk w nz 149 (ndc num most dz z ac kn)) (he : er ≠ 6) (hon : ∀ X, Lat w X → Calls Tryz.prog 118 #[P dz] X (Asked true X))
    (hent : ∀ args w, (callFunc fn args).run Tryz.prog w = .ok (.enter fn args) w) (hf : ∀ X, Lat w X → Calls Tryz.prog fn (#[P z] ++ caps) X (Does w.heap.size er R X)) :
    Calls Tryz.prog 75 #[P nz, .func (.func fn) #[] caps] w fun e w' => e = .returned (.int .i64 er) ∧ ∃ X w1, Lat w X ∧ R X w1 ∧ X.heap.size ≤ w1.heap.size ∧ Mod (Bet w.heap.size X.heap.size) w1 w' := by
  have hmf : ∀ (fn : Fn) (first cap : Array Value) (w : World), (Instr.makeFunc fn first cap).run Tryz.prog w = .ok (.func fn first cap) w := fun _ _ _ _ => rfl
  obtain ⟨W, hW⟩ : ∃ W, W = (w.alloc (.cells #[P nz] 65)).alloc (.cells #[.int .i64 0] 31) := ⟨_, rfl⟩
  have lW : Lat w W := by rw [hW]; exact ((Lat.refl w).alloc _).alloc _
  have k2 : Blk W w.heap.size 65 #[P nz] := by rw [hW]; exact (Blk.new w 65 _).alloc _
  have k4 : Blk W (w.heap.size + 1) 31 #[.int .i64 0] := by
    rw [hW]
    have := Blk.new (w.alloc (.cells #[P nz] 65)) 31 #[.int .i64 0]
    simpa using this
  have hW2 : W.heap.size = w.heap.size + 2 := by rw [hW]; simp
  have hnb := lW.blk h
  have hn := ndnone74 hnb
  have hon' := hon W lW
  have hf' := hf W lW
  obtain ⟨c0, c1, c2, c3, c4, c5⟩ := ndcells hnb
  have t2 : W.cell? ⟨w.heap.size, 0, none⟩ = some (P nz) := k2.cell 0
  have HL := hid lW
  have HK2 := hid k2
  have HK4 := hid k4
  have HS := hid hW2
  clear lW k2 k4 hnb h hf hon
  go_enter_defers Tryz.func75, Tryz.ntmps75
  go_upto_region 1 with fail
  rw [← hW]
  clear hW
  go_wp2_with (first | (go_at_call 74; (with_reducible refine hn.mono ?_); rintro e' w1 ⟨rfl, rfl⟩) | (go_at_call 118; (with_reducible refine hon'.mono ?_); rintro e' w1 ⟨rfl, rfl⟩))
  refine hf'.mono ?_
  rintro e' w1 ⟨rfl, hs1, hk1, hR⟩
  have k41 : Blk w1 (w.heap.size + 1) 31 #[.int .i64 0] := (hk1 _ (by omega) (by omega)).trans HK4.out
  have q4 : w1.cell? ⟨w.heap.size + 1, 0, none⟩ = some (.int .i64 0) := k41.cell 0
  have f4 : w1.frozen? ⟨w.heap.size + 1, 0, none⟩ = false := k41.frozen 0
  go_wp2_with fail
  refine leaves_cons (f := 117) (args := #[P (w.heap.size + 1), P w.heap.size]) (by simp) (by simp [go_sem]) ?_
  refine (nddo117 (w.heap.size + 1) w.heap.size er he .returning _ ((k41.set_ 0 (.int .i64 er)).cell 0)).mono ?_
  rintro e u' w3 ⟨rfl, rfl, rfl⟩
  refine ⟨_, by simp [results, Tryz.results75, go_sem, (k41.set_ 0 (.int .i64 er)).cell 0], rfl, W, w1, HL.out, hR, hs1, ?_⟩
  exact Mod.setCell (p := ⟨w.heap.size + 1, 0, none⟩) (by show w.heap.size ≤ w.heap.size + 1 ∧ w.heap.size + 1 < W.heap.size; omega) _
end Go.Proofs.YtbpnbcjgkbpmgaaGreat
namespace Go.Proofs.YtbpnbcjgkbpmgaaGreat
open Go.RowKit Go.Lg Ds St
set_option linter.unusedVariables false
set_option linter.unusedSimpArgs false
abbrev stg (dz : Nat) (p : Pg) (vL wv rv sv : Value) : Array Value :=
  #[P dz, .bool false, .int .i64 p.ep, .int .u8 p.ro, .int .i64 p.ac, .int .u8 p.ph, .int .i64 p.fo, .int .i64 p.ba, vL, wv, rv, sv, .int .i64 0]
theorem sgcells {w : World} {z dz : Nat} {p : Pg} {vL wv rv sv : Value} (h : Blk w z 205 (stg dz p vL wv rv sv)) :
    w.cell? ⟨z, 0, none⟩ = some (P dz) ∧ w.cell? ⟨z, 1, none⟩ = some (.bool false) ∧ w.cell? ⟨z, 2, none⟩ = some (.int .i64 p.ep) ∧ w.cell? ⟨z, 3, none⟩ = some (.int .u8 p.ro) ∧ w.cell? ⟨z, 4, none⟩ = some (.int .i64 p.ac) ∧ w.cell? ⟨z, 5, none⟩ = some (.int .u8 p.ph) ∧
      w.cell? ⟨z, 6, none⟩ = some (.int .i64 p.fo) ∧ w.cell? ⟨z, 7, none⟩ = some (.int .i64 p.ba) ∧ w.cell? ⟨z, 8, none⟩ = some vL ∧ w.cell? ⟨z, 9, none⟩ = some wv ∧ w.cell? ⟨z, 10, none⟩ = some rv ∧ w.cell? ⟨z, 11, none⟩ = some sv ∧ w.cell? ⟨z, 12, none⟩ = some (.int .i64 0) :=
  ⟨h.cell 0, h.cell 1, h.cell 2, h.cell 3, h.cell 4, h.cell 5, h.cell 6, h.cell 7, h.cell 8, h.cell 9, h.cell 10, h.cell 11, h.cell 12⟩
set_option maxHeartbeats 1000000 in
set_option maxRecDepth 100000 in
theorem stf195 (A : Option Addr) (c : Nat) (hc : c ≤ maxLen) (w : World) : Calls Tryz.prog 195 #[.slice A 0 c] w fun e w' => e = .returned (.int .i64 0) ∧ Below w.heap.size w w' := by
  go_enter Tryz.func195, Tryz.ntmps195
  go_wp2_with (go_at_call 36; (with_reducible refine (oscan36 A c hc _).mono ?_); rintro e' w1 ⟨rfl, hb⟩)
  go_ret
  exact ⟨rfl, hb⟩
theorem lastP_nil (p : Pg) : Pp.lastP p [] = (p, 0) := by
  unfold Pp.lastP Pp.lastN
  rw [fread_nil]
set_option maxHeartbeats 1000000 in
set_option maxRecDepth 100000 in
theorem stf193 {w : World} {A : Option Addr} {c : Nat} {nd : Int} {b3 b2 z dz : Nat} {p0 q : Pg} {vL wv rv sv : Value} (hc : c ≤ maxLen) (hf : Pp.firstP nd = (q, 0)) (h3 : w.cell? ⟨b3, 0, none⟩ = some (.int .i64 nd)) (l3 : b3 < w.heap.size) (h2 : w.cell? ⟨b2, 0, none⟩ = some (P z)) (l2 : b2 < w.heap.size)
    (hz : Blk w z 205 (stg dz p0 vL wv rv sv)) : Calls Tryz.prog 193 #[.slice A 0 c, P b3, P b2] w fun e w' => e = .returned (.int .i64 0) ∧ ∃ w1, Lat w w1 ∧ w' = setp w1 z q := by
  obtain ⟨q1, q2, q3, q4, q5, q6⟩ := q
  have hla := Pp.last11 A 0 c nd q1 q2 q3 q4 q5 q6 [] w ⟨rfl, fun h => absurd h (Nat.lt_irrefl _)⟩ (by omega) (by omega) hc hf
  rw [lastP_nil] at hla
  have HZ := hid hz
  have HF := hid hf
  clear hz hf
  go_enter Tryz.func193, Tryz.ntmps193
  go_wp2_with (go_at_call 29; refine stop_ (fun Ps hPs => ?_))
  refine hPs ?_
  clear hPs Ps
  refine hla.mono ?_
  rintro e' w1 ⟨rfl, hb⟩
  have l1 : Lat w w1 := ⟨hb⟩
  have h21 : w1.cell? ⟨b2, 0, none⟩ = some (P z) := (World.cell?_of_block (a := ⟨b2, 0, none⟩) (hb.block b2 l2)).trans h2
  obtain ⟨W, hW⟩ : ∃ W, W = w1.alloc (.cells #[.int .i64 q1, .int .u8 q2, .int .i64 q3, .int .u8 q4, .int .i64 q5, .int .i64 q6] 43) := ⟨_, rfl⟩
  have lW : Lat w W := by rw [hW]; exact l1.alloc _
  have h2W : W.cell? ⟨b2, 0, none⟩ = some (P z) := (World.cell?_of_block (a := ⟨b2, 0, none⟩) (lW.b.block b2 l2)).trans h2
  have kW : Blk W w1.heap.size 43 #[.int .i64 q1, .int .u8 q2, .int .i64 q3, .int .u8 q4, .int .i64 q5, .int .i64 q6] := by rw [hW]; exact Blk.new _ _ _
  have bW := lW.blk HZ.out
  obtain ⟨c0, c1, c2, c3, c4, c5, c6, c7, c8, _⟩ := sgcells bW
  have f2 : W.frozen? ⟨z, 2, none⟩ = false := bW.frozen 2
  have f3 : W.frozen? ⟨z, 3, none⟩ = false := bW.frozen 3
  have f4 : W.frozen? ⟨z, 4, none⟩ = false := bW.frozen 4
  have f5 : W.frozen? ⟨z, 5, none⟩ = false := bW.frozen 5
  have f6 : W.frozen? ⟨z, 6, none⟩ = false := bW.frozen 6
  have f7 : W.frozen? ⟨z, 7, none⟩ = false := bW.frozen 7
  have d0 : W.cell? ⟨w1.heap.size, 0, none⟩ = some (.int .i64 q1) := kW.cell 0
  have d1 : W.cell? ⟨w1.heap.size, 1, none⟩ = some (.int .u8 q2) := kW.cell 1
  have d2 : W.cell? ⟨w1.heap.size, 2, none⟩ = some (.int .i64 q3) := kW.cell 2
  have d3 : W.cell? ⟨w1.heap.size, 3, none⟩ = some (.int .u8 q4) := kW.cell 3
  have d4 : W.cell? ⟨w1.heap.size, 4, none⟩ = some (.int .i64 q5) := kW.cell 4
  have d5 : W.cell? ⟨w1.heap.size, 5, none⟩ = some (.int .i64 q6) := kW.cell 5
  have HLW := hid lW
  clear kW bW hb hla l1 lW
  go_upto_region 2 with fail
  rw [← hW]
  clear hW
  go_wp2_with fail
  go_ret
  exact ⟨rfl, W, HLW.out, rfl⟩
set_option maxHeartbeats 1000000 in
set_option maxRecDepth 100000 in
theorem sttrim192_o {w : World} {dz : Nat} (hr : Calls Tryz.prog 73 #[P dz, .int .i64 3] w (Read0 w)) : Calls Tryz.prog 192 #[P dz, .int .i64 3, .func (.func 195) #[] #[]] w fun e w' => e = .returned (.tuple #[.int .i64 0, .int .i64 0]) ∧ Lat w w' := by
  go_enter Tryz.func192, Tryz.ntmps192
  go_wp2_with (go_at_call 73; refine stop_ (fun Ps hPs => ?_))
  refine hPs ?_
  clear hPs Ps
  refine hr.mono ?_
  rintro e' w1 ⟨A, c, rfl, hc, hb⟩
  have HB := hid hb
  have h195 := stf195 A c hc w1
  clear hb hr
  go_wp2_with (go_at_call 195; refine stop_ (fun Ps hPs => ?_))
  refine hPs ?_
  clear hPs Ps
  refine h195.mono ?_
  rintro e' w2 ⟨rfl, hb2⟩
  have HB2 := hid hb2
  clear hb2 h195
  go_wp2_with fail
  go_ret2
  exact ⟨rfl, ⟨bl_trans HB.out HB2.out HB.out.size⟩⟩
set_option maxHeartbeats 1000000 in
set_option maxRecDepth 100000 in
theorem sttrim192_p {w : World} {nd : Int} {b3 b2 z dz : Nat} {p0 q : Pg} {vL wv rv sv : Value} (hr : Calls Tryz.prog 73 #[P dz, .int .i64 1] w (Read0 w)) (hf : Pp.firstP nd = (q, 0)) (h3 : w.cell? ⟨b3, 0, none⟩ = some (.int .i64 nd)) (l3 : b3 < w.heap.size) (h2 : w.cell? ⟨b2, 0, none⟩ = some (P z)) (l2 : b2 < w.heap.size)
    (hz : Blk w z 205 (stg dz p0 vL wv rv sv)) : Calls Tryz.prog 192 #[P dz, .int .i64 1, .func (.func 193) #[] #[P b3, P b2]] w fun e w' => e = .returned (.tuple #[.int .i64 0, .int .i64 0]) ∧ ∃ w1, Lat w w1 ∧ w' = setp w1 z q := by
  go_enter Tryz.func192, Tryz.ntmps192
  go_wp2_with (go_at_call 73; refine stop_ (fun Ps hPs => ?_))
  refine hPs ?_
  clear hPs Ps
  refine hr.mono ?_
  rintro e' w1 ⟨A, c, rfl, hc, hb⟩
  have l1 : Lat w w1 := ⟨hb⟩
  have h193 := stf193 (w := w1) (A := A) (c := c) hc hf ((World.cell?_of_block (a := ⟨b3, 0, none⟩) (hb.block b3 l3)).trans h3) (Nat.lt_of_lt_of_le l3 hb.size) ((World.cell?_of_block (a := ⟨b2, 0, none⟩) (hb.block b2 l2)).trans h2) (Nat.lt_of_lt_of_le l2 hb.size) (l1.blk hz)
  have HL1 := hid l1
  clear hb hr hz h3 h2 l1 hf
  go_wp2_with (go_at_call 193; refine stop_ (fun Ps hPs => ?_))
  refine hPs ?_
  clear hPs Ps
  refine h193.mono ?_
  rintro e' w2 ⟨rfl, W, hl, hw2⟩
  have HL := hid (And.intro hl hw2)
  clear hl hw2 h193
  go_wp2_with fail
  go_ret2
  exact ⟨rfl, W, HL1.out.trans HL.out.1, HL.out.2⟩
end Go.Proofs.YtbpnbcjgkbpmgaaGreat
