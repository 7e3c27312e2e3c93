/- A primary answers without waiting for the other site, as many times as its leash allows: of any acts. No condition. (part 21) -/
import Derived.Deep.RegionHeld3
import Derived.Test.YtbpnbcjgkbpmgaaGreatMAj
import Derived.Test.YtbpnbcjgkbpmgaaGreatMAp
import Derived.Test.YtbpnbcjgkbpmgaaGreatMAt
namespace Go.Proofs.YtbpnbcjgkbpmgaaGreat
open Go.RowKit Go.Lg Go.Shelf St Ds
set_option linter.unusedVariables false
set_option linter.unusedSimpArgs false
attribute [local go_sem] field190
theorem wapp_mid {w w6 w8 : World} {F : Fp} {z dz B ne : Nat} {ms : List Cm} {v v8 vE : Value} {ep num : Int} {A6 : Option Addr} {k c6 : Nat} {os : List Op3} {es : List Value} {o : Obj} (inz : F z) (blk : Blk w z 280 (wcs dz false v vE)) (cl : Cl w F v ms) (en : Sl w F 3 1 vE ne es)
    (lX : Lat w w6) (hB : w.heap.size ≤ B) (ho6 : w6.ownsRow B 77 3 (.slice A6 k c6) k (opc os)) (hl : os.length = k) (hv8 : Sl w8 (fun i => F i ∨ (w6.alloc o).heap.size ≤ i) 88 3 v8 (ms.length + 1) (cmc ms ++ [.int .i64 ep, .int .i64 num, .slice A6 k c6]))
    (hg8 : (w6.alloc o).grownBy w8 v.ownBlock) : Blk (w8.setCell ⟨z, 2, none⟩ v8) z 280 (wcs dz false v8 vE) ∧ Cl (w8.setCell ⟨z, 2, none⟩ v8) (fun i => F i ∨ w.heap.size ≤ i) v8 (ms ++ [⟨ep, num, A6, k, c6, os⟩]) ∧ Sl (w8.setCell ⟨z, 2, none⟩ v8) F 3 1 vE ne es ∧ Mod F w (w8.setCell ⟨z, 2, none⟩ v8) := by
  have lY : Lat w (w6.alloc o) := lX.alloc o
  have hz : Blk (w6.alloc o) z 280 (wcs dz false v vE) := lY.blk blk
  have hne : ∀ g, v.ownBlock = some g → g ≠ z := cl.row.ne_blk blk (by decide)
  have k8 : Blk w8 z 280 (wcs dz false v vE) := hz.gb hg8 fun e => hne z e.symm rfl
  have clY : Cl (w6.alloc o) F v ms := cl.later lY.b
  have e8 : Sl w8 F 3 1 vE ne es := (en.later lY.b).gb hg8 fun g h e => en.ne_sl cl.row (by decide) g h e.symm
  have cl8 := Cl.snoc (k := k) cl lY.b (owned_less (ho6.alloc o) hB) hl hv8 hg8
  exact ⟨k8.set_ 2 v8, cl8.setz k8 (by decide) (by decide) 2 v8, Sl.setz e8 k8 (by decide) 2 v8, field_mod (t := 280) (cs := #[]) cl.row inz lY hg8⟩
theorem wapp_end {w X w8 : World} {F : Fp} {z dz ne : Nat} {ms : List Cm} {v v8 vE : Value} {es es' : List Value} (inz : F z) (blk : Blk w z 280 (wcs dz false v vE)) (cl : Cl w F v ms) (en : Sl w F 3 1 vE ne es)
    (lX : Lat w X) (hv8 : Sl w8 (fun i => F i ∨ X.heap.size ≤ i) 3 1 v8 (ne + 1) es') (hg8 : X.grownBy w8 vE.ownBlock) :
    Blk (w8.setCell ⟨z, 3, none⟩ v8) z 280 (wcs dz false v v8) ∧ Cl (w8.setCell ⟨z, 3, none⟩ v8) F v ms ∧ Sl (w8.setCell ⟨z, 3, none⟩ v8) (fun i => F i ∨ w.heap.size ≤ i) 3 1 v8 (ne + 1) es' ∧ Mod F w (w8.setCell ⟨z, 3, none⟩ v8) := by
  have hz : Blk X z 280 (wcs dz false v vE) := lX.blk blk
  have hne : ∀ g, vE.ownBlock = some g → g ≠ z := en.ne_blk blk (by decide)
  have k8 : Blk w8 z 280 (wcs dz false v vE) := hz.gb hg8 fun e => hne z e.symm rfl
  have c8 : Cl w8 F v ms := (cl.later lX.b).gb (en.later lX.b) hg8 (by decide) (by decide)
  exact ⟨k8.set_ 3 v8, c8.setz k8 (by decide) (by decide) 3 v8, Sl.setz (hv8.to fun i hi => hi.imp id fun h => Nat.le_trans lX.size h) k8 (by decide) 3 v8, field_mod (t := 280) (cs := #[]) en inz lX hg8⟩
theorem fr_len (r : List UInt8) : (Vi.fr r).length ≤ r.length + 20 := by
  have := Vi.encF_len_le 9 r.length
  unfold Vi.fr Vi.enc
  rw [List.length_append]
  omega
theorem frame_nil (Ab : Option Addr) (cb : Nat) (r : List UInt8) (w : World) (h : Rd w w.heap.size 1 Ab r.length (bts r)) (hr : r.length ≤ 131072) : Calls Tryz.prog 129 #[.slice none 0 0, .slice Ab r.length cb] w (Framed w (Vi.fr r)) :=
  fAppend_any none Ab 0 0 r.length cb [] r (Vi.fr r) w ⟨rfl, fun h => absurd h (Nat.lt_irrefl _)⟩ h (by omega) hr (List.nil_append _).symm
set_option maxHeartbeats 4000000 in
set_option maxRecDepth 100000 in
theorem wappend172 {w : World} {tag : Nat → Nat} {i j dz z : Nat} {fs : Nat → Bs} {cs : List Cmt} {es : List Nat} (hT : Tidy w tag) (hij : i ≠ j) (hi : i ≠ 0) (hj : j ≠ 0) (hd : Dk w (Ow tag i) dz (At fs)) (hx : Wl w (Ow tag j) z dz ⟨false, cs, es⟩)
    {G : Fp} {ep num : Int} {A : Option Addr} {k c : Nat} {os : List Op3} (ho : Ro w G A k c (opc os)) (hl : os.length = k) (hG : ∀ b, G b → tag b ≠ i ∧ tag b ≠ j)
    (hck : (Cmt.mk ep num os).k = 0) (hnum : num - 1 = cs.length) (hep : lastEp cs ≤ ep) (hcs : cs.length ≤ 100000) (hes : es.length ≤ 100000) (hwl : wlen es ≤ 1000000) (hs : tot fs ≤ 1000000) (hlen : (encC ⟨ep, num, os⟩).length ≤ 100000) :
    Calls Tryz.prog 172 #[P z, cmv ep num A k c] w (WDid i j dz z (Wt fs 0 (Vi.fr (encC ⟨ep, num, os⟩))) ⟨false, cs ++ [⟨ep, num, os⟩], es ++ [wlen es + (Vi.fr (encC ⟨ep, num, os⟩)).length]⟩ tag w) := by
  obtain ⟨hok, hk8, _⟩ := Cmt.oks hck
  simp only at hok hk8
  subst hl
  have hkc := ho.cap
  unfold maxLen at hkc
  obtain ⟨W, hW⟩ : ∃ W, W = w.alloc (.cells (cmcs ep num A os.length c) 88) := ⟨_, rfl⟩
  have lW : Lat w W := by rw [hW]; exact (Lat.refl w).alloc _
  have kW : Blk W w.heap.size 88 (cmcs ep num A os.length c) := by rw [hW]; exact Blk.new _ _ _
  have hdW := hd.mv (bmv lW.b _)
  have hxW : Wl W (Ow tag j) z dz ⟨false, cs, es⟩ := hx.mv (bmv lW.b _)
  have hoW := ho.later lW.b
  have hon : Calls Tryz.prog 118 #[P dz] W (Asked true W) := on118 hdW
  have hbk : ∃ vC vE ms, Blk W z 280 (wcs dz false vC vE) ∧ ms.map Cm.p = cs ∧ Cl W (Ow tag j) vC ms ∧ Sl W (Ow tag j) 3 1 vE es.length (ic es) ∧ tag z = j := by
    obtain ⟨vC, vE, ms, inz, blk, hms, cl, en⟩ := hxW
    exact ⟨vC, vE, ms, blk, hms, cl, en, inz⟩
  obtain ⟨vC, vE, ms, blk, hms, cl, en, inz⟩ := hbk
  have hw := wwrong203 blk hon
  have hen := encode176 (w := W) (ep := ep) (num := num) (c := c) (os := os) (A := A) ⟨hoW.rdf.rd (by decide), rfl⟩ (by omega) hkc.1
  rw [hck, if_pos rfl] at hen
  have b0 : W.cell? ⟨w.heap.size, 0, none⟩ = some (.int .i64 ep) := kW.cell 0
  have b1 : W.cell? ⟨w.heap.size, 1, none⟩ = some (.int .i64 num) := kW.cell 1
  have b2 : W.cell? ⟨w.heap.size, 2, none⟩ = some (.slice A os.length c) := kW.cell 2
  have HX := hid hxW
  have HD := hid hdW
  have HO := hid hoW
  have HLW := hid lW
  have HK := hid kW
  have HCL := hid cl
  have HE := hid en
  have HBK := hid blk
  clear hd hx ho lW kW hdW hxW hoW hon cl en blk
  go_enter Tryz.func172, Tryz.ntmps172
  go_upto_region 1 with fail
  rw [← hW]
  clear hW
  go_wp2_with (first | (go_at_call 203; (with_reducible refine hw.mono ?_); rintro e' w1 ⟨rfl, rfl⟩) | (go_at_call 176; refine stop_ (fun Ps hPs => ?_)))
  refine hPs ?_
  clear hPs Ps
  refine hen.mono ?_
  rintro e' w1 ⟨vb, rfl, hvb, hb1⟩
  obtain ⟨Ab, cb, rfl, qb1, qb2⟩ := owned_slice hvb
  have l1 : Lat w w1 := HLW.out.below hb1
  have hEP : ∀ X, Lat w1 X → Calls Tryz.prog 204 #[P z] X fun e w' => e = .returned (.int .i64 (lastEp cs)) ∧ ∃ d, w' = X.drewN d := fun X l => wepoch204 (HX.out.mv ((bmv hb1 _).trans (bmv l.b _) hb1.size))
  have hEN : ∀ X, Lat w1 X → Calls Tryz.prog 191 #[P z] X (Num0 (cs.length : Nat) X) := fun X l => by
    obtain ⟨A0, c0, e0, _⟩ := HCL.out.row.slice_
    have hb := l.blk (HBK.out.later hb1)
    rw [e0] at hb
    have := wend191 hb
    rwa [show ms.length = cs.length by rw [← hms]; simp] at this
  have hFO : ∀ X g, Lat w1 X → Blk X g 88 (cmcs ep num A os.length c) → Calls Tryz.prog 112 #[.int .i64 (lastEp cs), .int .i64 (cs.length : Nat), .slice (some ⟨g, 0, none⟩) 1 1] X (Folds (0, 0) X) := fun X g l hb => by
    have := follows37 (some ⟨g, 0, none⟩) 1 1 [⟨ep, num, A, os.length, c, os⟩] (lastEp cs) cs.length X ⟨(RdF.of_blk hb 1 3 rfl).rd (by decide), rfl, fun m hm => by
      obtain rfl := List.mem_singleton.1 hm
      exact ⟨⟨((HO.out.later hb1).later l.b).rdf.rd (by decide), rfl⟩, by show os.length ≤ _; omega⟩⟩ (by omega)
    rwa [fol_one (x := ⟨ep, num, A, os.length, c, os⟩) hck, if_neg (by simp only; omega)] at this
  have hCE : ∀ X, Lat w1 X → X.cell? ⟨w.heap.size, 0, none⟩ = some (.int .i64 ep) ∧ X.cell? ⟨w.heap.size, 1, none⟩ = some (.int .i64 num) ∧ X.cell? ⟨w.heap.size, 2, none⟩ = some (.slice A os.length c) := fun X l => by
    have k := l.blk (HK.out.later hb1)
    exact ⟨k.cell 0, k.cell 1, k.cell 2⟩
  have hFA : ∀ X, Lat w1 X → Calls Tryz.prog 129 #[.slice none 0 0, .slice Ab (encC ⟨ep, num, os⟩).length cb] X (Framed X (Vi.fr (encC ⟨ep, num, os⟩))) := fun X l =>
    frame_nil Ab cb (encC ⟨ep, num, os⟩) X (Rd.of_own (owned_later hvb l.b)) (Nat.le_trans hlen (by decide))
  have HFA := hid hFA
  have HN1 : Hid (∀ d, Blk ((w1.drewN d).alloc (.cells #[.int .i64 ep, .int .i64 num, .slice A os.length c] 88)) w1.heap.size 88 (cmcs ep num A os.length c)) := hid fun d => Blk.new (w1.drewN d) 88 (cmcs ep num A os.length c)
  have HN2 : Hid (∀ d, Blk ((w1.alloc (.cells #[.int .i64 ep, .int .i64 num, .slice A os.length c] 88)).drewN d) w1.heap.size 88 (cmcs ep num A os.length c)) := hid fun d => Blk.new w1 88 (cmcs ep num A os.length c)
  have HEP := hid hEP
  have HEN := hid hEN
  have HFO := hid hFO
  have HCE := hid hCE
  have HL1 := hid l1
  have HVB := hid hvb
  clear hEP hEN hFO hCE hFA l1 hvb hw b0 b1 b2 hen
  go_wp2_with fail
  refine' merge0 (fun X => Lat w1 X) ?h1 (fun w4 l4 => ?h2)
  case h1 =>
    go_region_held3 (fun X => X.cell? ⟨w.heap.size, 0, none⟩ = some (.int .i64 ep) ∧ X.cell? ⟨w.heap.size, 1, none⟩ = some (.int .i64 num) ∧ X.cell? ⟨w.heap.size, 2, none⟩ = some (.slice A os.length c))
      ((refine HCE.out _ ?_; repeat (first | exact Lat.refl _ | assumption | refine Lat.drew ?_ | refine Lat.drewN ?_ _ | refine Lat.alloc ?_ _)))
      (first
      | (go_at_call 204; (with_reducible refine (HEP.out _ (by repeat (first | exact Lat.refl _ | refine Lat.drew ?_ | refine Lat.drewN ?_ _ | refine Lat.alloc ?_ _))).mono ?_); rintro e2 w2 ⟨rfl, d2, rfl⟩)
      | (go_at_call 191; (with_reducible refine (HEN.out _ (by repeat (first | exact Lat.refl _ | refine Lat.drew ?_ | refine Lat.drewN ?_ _ | refine Lat.alloc ?_ _))).mono ?_); rintro e2 w2 ⟨rfl, rfl⟩)
      | (go_at_call 112; (with_reducible refine (HFO.out _ _ (by repeat (first | exact Lat.refl _ | refine Lat.drew ?_ | refine Lat.drewN ?_ _ | refine Lat.alloc ?_ _)) (by first | (with_reducible exact HN1.out _) | (with_reducible exact HN2.out _))).mono ?_); rintro e4 w4 ⟨rfl, hb4⟩; have l4 : Lat w1 w4 := Lat.below (by repeat (first | exact Lat.refl _ | refine Lat.drew ?_ | refine Lat.drewN ?_ _ | refine Lat.alloc ?_ _)) hb4))
    all_goals exact ⟨rfl, l4⟩
  go_wp2_with (go_at_call 129; refine stop_ (fun Ps hPs => ?_))
  refine hPs ?_
  clear hPs Ps
  refine (HFA.out _ l4).mono ?_
  rintro e' w5 ⟨v5, rfl, hv5, hb5⟩
  obtain ⟨A5, c5, rfl, q51, q52⟩ := owned_slice hv5
  have l5 : Lat w w5 := (HL1.out.trans l4).below hb5
  have lW5 : Lat W w5 := ⟨bl_trans (bl_trans hb1 l4.b hb1.size) hb5 (Nat.le_trans hb1.size l4.size)⟩
  have hT5 : Tidy w5 tag := hT.below l5.size
  have hfl := fr_len (encC ⟨ep, num, os⟩)
  obtain ⟨fr, hfr⟩ : ∃ fr, fr = Vi.fr (encC ⟨ep, num, os⟩) := ⟨_, rfl⟩
  rw [← hfr] at hfl hv5 q51 ⊢
  have hd5 : Dk w5 (Ow tag i) dz (At fs) := HD.out.mv (bmv lW5.b _)
  have hwr := write131 (G := fun b => w.heap.size ≤ b) hd5 (At.ok fs) 0 A5 fr.length c5 fr ((Sl.of_own hv5 fun g hg => Nat.le_trans (HL1.out.trans l4).size (hv5.lt g hg).1).rdf) (fun b hb ht => hi (by have h0 := hT b hb; have h1 : tag b = i := ht; omega)) (by rw [at_sz]; omega) q51 q52
  rw [show ((0 : Int)) = ((0 : Nat) : Int) from rfl, at_write fs (by decide)] at hwr
  obtain ⟨e0, e1, e2, e3⟩ := wcells (lW5.blk HBK.out)
  have HHT := hid hT5
  have HW5 := hid lW5
  have HFR := hid hfr
  have HNUM := hid hnum
  have HMS := hid hms
  have HL5 := hid l5
  have HFL := hid hfl
  clear hT5 lW5 hfr hnum hms l5 hd5 hv5 hb5 hep hck hb1 l4 hfl
  go_wp2_with (go_at_call 131; refine stop_ (fun Ps hPs => ?_))
  refine hPs ?_
  clear hPs Ps
  refine hwr.mono ?_
  rintro e' w6 ⟨rfl, hl6⟩
  obtain ⟨tag6, ht6, hd6⟩ := DLeft.turn (I := fun k => k = i) HHT.out hl6 rfl
  have HT6 := hid ht6
  have HD6 := hid hd6
  clear hl6 ht6 hd6 hwr e0 e1 e2 e3
  go_wp2_with (go_at_call 205; (with_reducible refine (wtried205 z w6).mono ?_); rintro e' w7 ⟨rfl, rfl⟩)
  have hzl : z < w5.heap.size := (HW5.out.blk HBK.out).lt
  have b6 : Blk w6 z 280 (wcs dz false vC vE) := HT6.out.blk (HW5.out.blk HBK.out) (by rw [inz]; exact fun h => hij h.symm)
  have hw0 : tag w.heap.size = 0 := hT _ (Nat.le_refl _)
  have k6 : Blk w6 w.heap.size 88 (cmcs ep num A os.length c) := HT6.out.blk (HW5.out.blk HK.out) (by rw [hw0]; exact fun h => hi h.symm)
  have o6 : Ro w6 G A os.length c (opc os) := (HO.out.later HW5.out.b).mv fun b hb hg => ⟨hg, HT6.out.keep hb (hG b hg).1⟩
  have c6 : Cl w6 (Ow tag6 j) vC ms := (HCL.out.later HW5.out.b).mv (HT6.out.mv fun h => hij h.symm)
  have e6 : Sl w6 (Ow tag6 j) 3 1 vE es.length (ic es) := (HE.out.later HW5.out.b).mv (HT6.out.mv fun h => hij h.symm)
  obtain ⟨Ar, cr, rfl, _, _⟩ := c6.row.slice_
  have hml : ms.length ≤ 100000 := by have : ms.length = cs.length := by rw [← HMS.out]; simp
                                      omega
  have hrow : Sl w6 (Ow tag6 j) 88 3 (.slice Ar ms.length cr) ms.length (cmc ms) := c6.row
  have hnez : ∀ g, (Value.slice Ar ms.length cr).ownBlock = some g → g ≠ z := c6.row.ne_blk b6 (by decide)
  have hz6 : tag6 z = j := by rw [HT6.out.old z hzl]; exact inz
  obtain ⟨y0, y1, y2, y3⟩ := wcells b6
  have x0 : w6.cell? ⟨w.heap.size, 0, none⟩ = some (.int .i64 ep) := k6.cell 0
  have x1 : w6.cell? ⟨w.heap.size, 1, none⟩ = some (.int .i64 num) := k6.cell 1
  have x2 : w6.cell? ⟨w.heap.size, 2, none⟩ = some (.slice A os.length c) := k6.cell 2
  have HCP := hid (copy91 (w := w6.drew) (ep := ep) (num := num) (c := c) (os := os) (A := A) (k := os.length) ⟨(o6.rdf.rd (by decide)), rfl⟩ (by omega) hkc.1)
  have HBL := hid b6
  have HC6 := hid c6
  have HE6 := hid e6
  have HZ6 := hid hz6
  clear b6 c6 e6 hz6 o6 k6 hw0
  refine' merge5 (fun (X : World) A7 c7 A8 c8 Y => Blk Y z 280 (wcs dz false (.slice A8 (ms.length + 1) c8) vE) ∧ Cl Y (fun b => Ow tag6 j b ∨ w6.heap.size ≤ b) (.slice A8 (ms.length + 1) c8) (ms ++ [⟨ep, num, A7, os.length, c7, os⟩]) ∧ Sl Y (Ow tag6 j) 3 1 vE es.length (ic es) ∧ Mod (Ow tag6 j) w6 Y) ?g1 (fun X A7 c7 A8 c8 W9 h9 => ?g2)
  case g1 =>
    go_region_law
      (first
      | (go_simp; go_at_call 91; (with_reducible refine HCP.out.mono ?_); rintro e7 w7 ⟨A7, c7, rfl, ho7, hb7⟩; have z27 : w7.cell? ⟨z, 2, none⟩ = some (.slice Ar ms.length cr) := ((HBL.out.later (w' := w6.drew) (below_drew w6)).later hb7).cell 2; have z27a : (w7.alloc (.cells (cmcs ep num A7 os.length c7) 88)).cell? ⟨z, 2, none⟩ = some (.slice Ar ms.length cr) := (((HBL.out.later (w' := w6.drew) (below_drew w6)).later hb7).alloc _).cell 2; have hsl7 : Sl w7 (Ow tag6 j) 88 3 (.slice Ar ms.length cr) ms.length (cmc ms) := (hrow.later (below_drew w6)).later hb7)
      | (refine step_appS (c := 1) T46 (.tmp 55) (.tmp 58) rfl (by rfl) (hsl7.alloc _) (by go_simp) (RdF.lit w7 (cmcs ep num A7 os.length c7) 88 1 3 rfl) (by go_simp) (by simp [Value.oneCell']) (by omega) ?_; intro v8 w8 hv8 hg8 hat8; obtain ⟨A8, c8, rfl, _, _⟩ := hv8.slice_; have k8 : Blk w8 z 280 (wcs dz false (.slice Ar ms.length cr) vE) := ((((HBL.out.later (w' := w6.drew) (below_drew w6)).later hb7).alloc _).gb hg8 fun e => hnez z e.symm rfl); have z28 : w8.cell? ⟨z, 2, none⟩ = some (.slice Ar ms.length cr) := k8.cell 2; have f28 : w8.frozen? ⟨z, 2, none⟩ = false := k8.frozen 2))
    all_goals exact ⟨w7, A7, c7, A8, c8, rfl, wapp_mid (o := .cells (cmcs ep num A7 os.length c7) 88) HZ6.out HBL.out HC6.out HE6.out ((Lat.refl w6).drew.below hb7) (Nat.le_refl _) ho7 rfl hv8 hg8⟩
  case g2 =>
    obtain ⟨k9, c9, e9, m9⟩ := h9
    obtain ⟨Ae, ce, rfl, r1, r2⟩ := e9.slice_
    have hne9 : ∀ g, (Value.slice Ae es.length ce).ownBlock = some g → g ≠ z := e9.ne_blk k9 (by decide)
    obtain ⟨u0, u1, u2, u3⟩ := wcells k9
    have HWL := hid (wlen68 (w := W9.drew) (c := ce) (e9.later (below_drew W9)).rdf (by omega))
    have HK9 := hid k9
    have HC9 := hid c9
    have HE9 := hid e9
    have HM9 := hid m9
    have hrow9 : Sl W9.drew (Ow tag6 j) 3 1 (.slice Ae es.length ce) es.length (ic es) := e9.later (below_drew W9)
    obtain ⟨n9, hn9⟩ : ∃ n9, n9 = wlen es := ⟨_, rfl⟩
    obtain ⟨f9, hf9⟩ : ∃ f9, f9 = fr.length := ⟨_, rfl⟩
    have hf9' := HFL.out
    rw [← hn9] at HWL hwl
    rw [← hf9] at hf9'
    have hsum : IntKind.i64.wrap ((n9 : Int) + (f9 : Int)) = (n9 : Int) + (f9 : Int) := IntWalk.i64_in _ (by omega)
    have u3a : (W9.alloc (.cells #[.int .i64 ((n9 : Int) + (f9 : Int))] 3)).cell? ⟨z, 3, none⟩ = some (.slice Ae es.length ce) := (k9.alloc _).cell 3
    have HN9 := hid hn9
    have HF9 := hid hf9
    clear k9 c9 e9 m9 hn9 hrow
    go_wp2_with fail
    rw [← hf9]
    clear hf9
    go_region_law
      (first
      | (go_simp; go_at_call 68; (with_reducible refine HWL.out.mono ?_); rintro e10 w10 ⟨rfl, rfl⟩)
      | (refine step_appS (c := 1) T32 (.tmp 66) (.tmp 75) rfl (by rfl) (hrow9.alloc _) (by go_simp) (RdF.lit W9.drew #[.int .i64 ((n9 : Int) + (f9 : Int))] 3 1 1 rfl) (by go_simp) (by simp [Value.oneCell']) (by omega) ?_; intro v10 w10 hv10 hg10 hat10; obtain ⟨A10, c10, rfl, _, _⟩ := hv10.slice_; have k10 : Blk w10 z 280 (wcs dz false (.slice A8 (ms.length + 1) c8) (.slice Ae es.length ce)) := (((HK9.out.later (w' := W9.drew) (below_drew W9)).alloc _).gb hg10 fun e => hne9 z e.symm rfl); have z310 : w10.cell? ⟨z, 3, none⟩ = some (.slice Ae es.length ce) := k10.cell 3; have f310 : w10.frozen? ⟨z, 3, none⟩ = false := k10.frozen 3))
    all_goals
      have hend := wapp_end (X := W9.drew.alloc (.cells #[.int .i64 ((n9 : Int) + (f9 : Int))] 3)) (F := fun b => Ow tag6 j b ∨ w6.heap.size ≤ b) (.inl HZ6.out) HK9.out HC9.out (HE9.out.to fun b hb => .inl hb) ((Lat.refl W9).drew.alloc _) (hv10.to fun b hb => hb.imp .inl id) hg10
      have HEND := hid hend
      clear hend hv10 hg10 hat10
      go_wp2_with fail
      go_ret
      refine ⟨rfl, ?_⟩
      obtain ⟨q1, q2, q3, q4⟩ := HEND.out
      have hm : Mod (Ow tag6 j) w6 (w10.setCell ⟨z, 3, none⟩ (.slice A10 (es.length + 1) c10)) := HM9.out.trans q4 fun b hb => hb
      have hx : Wl (w10.setCell ⟨z, 3, none⟩ (.slice A10 (es.length + 1) c10)) (fun b => (Ow tag6 j b ∨ w6.heap.size ≤ b) ∨ W9.heap.size ≤ b) z dz ⟨false, cs ++ [⟨ep, num, os⟩], es ++ [n9 + f9]⟩ := by
        refine ⟨_, _, _, .inl (.inl HZ6.out), q1, by simp [HMS.out, Cm.p], q2.to fun b hb => .inl hb, ?_⟩
        have : (es ++ [n9 + f9]).length = es.length + 1 := by simp
        rw [this, ic_snoc, Int.natCast_add]
        exact q3
      have hsub : Sub w6 (Ow tag6 j) (fun b => (Ow tag6 j b ∨ w6.heap.size ≤ b) ∨ W9.heap.size ≤ b) := fun b hb => by
        have := HM9.out.size
        rcases hb with (h | h) | h
        · exact .inl h
        · exact .inr h
        · exact .inr (by omega)
      have ht := turn_of (I := fun b => b = j) HT6.out.td hm hsub rfl
      have hx' := hx.mv (tgF_mv hsub)
      rw [HN9.out, HF9.out] at hx'
      rw [← HFR.out]
      exact ⟨_, ((HL5.out.turn hT _).trans (HT6.out.more fun _ h => .inl h)).trans (ht.more fun _ h => .inr h), HD6.out.mv (ht.mv fun h => hij h), hx'⟩
end Go.Proofs.YtbpnbcjgkbpmgaaGreat
namespace Go.Proofs.YtbpnbcjgkbpmgaaGreat
open Go.RowKit Go.Lg Ds St
set_option linter.unusedVariables false
set_option linter.unusedSimpArgs false
def LogIs (cs : List Cmt) (w : World) (e : Ending) (w' : World) : Prop := ∃ v ms, e = .returned v ∧ ms.map Cm.p = cs ∧ Cl w' (fun k => w.heap.size ≤ k) v ms ∧ Below w.heap.size w w'
theorem take_map {ms : List Cm} {cs : List Cmt} {j : Nat} {m : Cm} (h : ms.map Cm.p = cs) (hm : ms[j]? = some m) : cs.take (j + 1) = cs.take j ++ [m.p] := by
  subst h
  rw [List.take_add_one, List.getElem?_map, hm]
  rfl
set_option maxHeartbeats 4000000 in
set_option maxRecDepth 100000 in
theorem stlog136 {w : World} {F : Fp} {z dz wz rz sz : Nat} {p : Pg} {cs : List Cmt} (h : Sb w F z dz wz rz sz p cs) (hcs : cs.length ≤ 100000) (hlt : ∀ c ∈ cs, c.os.length ≤ 1000000) : Calls Tryz.prog 136 #[P z] w (LogIs cs w) := by
  have hn := stnone122 h
  obtain ⟨vL, ms, inz, blk, hms, cl⟩ := h
  obtain ⟨A, c, rfl, q1, q2⟩ := cl.row.slice_
  obtain ⟨c0, c1, c2, c3, c4, c5, c6, c7, c8, _⟩ := stcells blk
  have hml : ms.length ≤ 100000 := by have : ms.length = cs.length := by rw [← hms]; simp
                                      omega
  have hcs := cl.cs rfl
  obtain ⟨n, hnn⟩ : ∃ n, n = ms.length := ⟨_, rfl⟩
  have HC := hid hcs
  have HCL := hid cl
  have HMS := hid hms
  have HN := hid hnn
  have HLT := hid hlt
  rw [← hnn] at HC c8 q1 hml
  clear blk cl hms hcs hlt hnn
  go_enter Tryz.func136, Tryz.ntmps136
  go_wp2_with (go_at_call 122; (with_reducible refine hn.mono ?_); rintro e' w1 ⟨rfl, rfl⟩)
  go_loopg [3, 13] n (fun g o i wr => ∃ (j : Nat) (ms' : List Cm), j ≤ n ∧ g = n - j ∧ i = .int .i64 j ∧ Hid (ms'.map Cm.p = cs.take j ∧ ms'.length = j) ∧ Hid (Cl wr (fun k => w.heap.size ≤ k) o ms') ∧ Hid (Below w.heap.size w wr))
  case atStart => exact ⟨0, [], by omega, rfl, rfl, hid ⟨by simp, rfl⟩, hid (Cl.nil_ _ _), hid (Below.refl _ _)⟩
  case round =>
    obtain ⟨j, ms', hj, rfl, rfl, hms', hcl', hb⟩ := hrel
    obtain ⟨Ao, co, rfl, r1, r2⟩ := hcl'.out.row.slice_
    have HJL := hid hms'.out.2
    have HROW : Hid (Sl wr (fun k => w.heap.size ≤ k) 88 3 (.slice Ao j co) j (cmc ms')) := hid (by have := hcl'.out.row; rwa [HJL.out] at this)
    have HCL1 : Hid (Cl wr (fun k => w.heap.size ≤ k) (.slice Ao j co) ms') := hid (by have := hcl'.out; rwa [HJL.out] at this)
    rw [hms'.out.2]
    clear hcl'
    by_cases hlt : j < n
    · obtain ⟨b, off, ep, num, A1, n1, k1, os, rfl, hbB, hm, hos, hn1, x0, x1, x2⟩ := (HC.out.keep hb.out).at_ hlt
      have hji : (j : Int) < (n : Int) := by omega
      have hsz := hb.out.size
      have hn1' : n1 ≤ 1000000 := by
        have := HLT.out ⟨ep, num, os⟩ (by rw [← HMS.out]; exact List.mem_map.2 ⟨_, List.mem_of_getElem? hm, rfl⟩)
        have h2 := hos.2
        simp only at this
        omega
      have hk1 : n1 ≤ k1 := by
        have := (HCL.out.ops _ (List.mem_of_getElem? hm)).1.cap
        exact this.1
      have HCP := hid (copy91 (w := wr.alloc (.cells (cmcs ep num A1 n1 k1) 88)) (ep := ep) (num := num) (c := k1) ((hos.keep ((Below.refl _ _).mono hsz |>.alloc hsz _)).more (by simp; omega)) hn1' hk1)
      have HM := hid hm
      have HOS := hid hos.2
      clear hm hos
      go_wp2_with (go_at_call 91; refine stop_ (fun Ps hPs => ?_))
      refine hPs ?_
      clear hPs Ps x0 x1 x2
      refine HCP.out.mono ?_
      rintro e' w5 ⟨A5, c5, rfl, ho5, hb5⟩
      have hl5 : Lat wr w5 := (Lat.refl wr).alloc _ |>.below hb5
      have HL5 := hid hl5
      have HO5 := hid ho5
      clear ho5 hb5 hl5 HCP
      go_wp2_with (at_builtin; refine stop_ (fun Ps hPs => ?_))
      refine hPs ?_
      clear hPs Ps
      refine wpList_appS1 (c := 1) T46 (.tmp 17) (.tmp 20) rfl rfl (HROW.out.later HL5.out.b) rfl rfl rfl (by simp [Value.oneCell']) (by omega) fun v6 w6 hv6 hg6 hat6 => ?_
      have hcl6 : Cl w6 (fun k => w.heap.size ≤ k) v6 (ms' ++ [⟨ep, num, A5, n1, c5, os⟩]) := by
        have := Cl.snoc (k := n1) (v4 := v6) HCL1.out HL5.out.b (owned_less HO5.out (by simp)) HOS.out (by rw [hms'.out.2]; exact hv6.to fun i hi => hi) hg6
        exact this.to fun i hi => by
          rcases hi with h | h
          · exact h
          · omega
      have hb6 : Below w.heap.size w w6 := by
        have h5 := bl_trans hb.out HL5.out.b hsz
        exact h5.grown hg6 (Nat.le_trans hsz HL5.out.size) fun g hg => (HROW.out.lt g hg).1
      have HCL6 := hid hcl6
      have HB6 := hid hb6
      have HTK := hid (take_map HMS.out HM.out)
      clear hcl6 hb6 hv6 hg6 hat6
      go_wp2_with fail
      go_roundg (n - (j + 1))
      case measure => omega
      case rel =>
        refine ⟨j + 1, _, by omega, rfl, by go_num, hid ⟨?_, ?_⟩, HCL6, HB6⟩
        · rw [List.map_append, hms'.out.1, HTK.out]; rfl
        · rw [List.length_append, hms'.out.2]; rfl
    · obtain rfl : j = n := by omega
      have HE := hid hms'.out.1
      go_wp2_with fail
      go_ret
      refine ⟨_, ms', rfl, ?_, HCL1.out, hb.out⟩
      rw [HE.out, List.take_of_length_le]
      rw [← HMS.out, List.length_map]
      have := HN.out; omega
end Go.Proofs.YtbpnbcjgkbpmgaaGreat
