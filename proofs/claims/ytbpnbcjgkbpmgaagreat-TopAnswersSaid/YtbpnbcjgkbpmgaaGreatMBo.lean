/- A primary answers without waiting for the other site, as many times as its leash allows: of any acts. No condition. (part 41) -/
import Derived.Test.YtbpnbcjgkbpmgaaGreatMAl
import Derived.Test.YtbpnbcjgkbpmgaaGreatMBn
namespace Go.Proofs.YtbpnbcjgkbpmgaaGreat
open Go.RowKit Go.Lg Ds St
set_option linter.unusedVariables false
set_option linter.unusedSimpArgs false
attribute [local go_sem] field190 field43_0 field43_1 field43_2
set_option maxHeartbeats 4000000 in
set_option maxRecDepth 100000 in
theorem wdeliver23_1 {w : World} {tag : Nat → Nat} {zw : Nat} {most : Int} {q : Wz} {s0 s1 : Ps} {last : Int} {ks : List Lk.Key} {num : Int} {b : Bys} {bs : List Bys} {ac' kn' : Int} {cs' : List Cmt} {B' : Nat} (hT : Tidy w tag) (h : WM w tag zw most q s0 s1 last ks)
    (hE : Lk.dE num ks = 0) (hX : Lk.dX num ks = (num, 1, b)) (l0 : 0 ≤ last) (l1 : last ≤ 1000000000) (hb : bs.length ≤ 2) (hbm : ∀ x ∈ bs, x.length ≤ 1000000000)
    (hrc : ∀ X tagX A c, Tidy X tagX → NM X tagX 10 q.d1 q.n1 q.z1 1 most s1.ac s1.kn s1.p s1.cs s1.B → Rd X X.heap.size 1 A b.length (bts b) → b.length ≤ c → c ≤ maxLen → Calls Tryz.prog 45 #[P q.n1, .slice A b.length c] X (HrR tagX 10 q.d1 q.n1 q.z1 1 most ac' kn' s1.p cs' B' bs X)) :
    Calls Tryz.prog 23 #[P zw, .int .i64 num] w (ADid tag zw most q 0 0 noStr false 2 s0 (hrS s1 ac' kn' cs' B') (postL 0 bs (last, Lk.dK num ks)).1 (postL 0 bs (last, Lk.dK num ks)).2 w) := by
  obtain ⟨W, hW⟩ : ∃ W, W = w.alloc (.cells did0 34) := ⟨_, rfl⟩
  have lW : Lat w W := by rw [hW]; exact (Lat.refl w).alloc _
  have kW : Blk W w.heap.size 34 did0 := by rw [hW]; exact Blk.new _ _ _
  have hTW := hT.below lW.size
  have hWM := h.later lW
  obtain ⟨vA, ms, blk, hz, mm0, mm1, lk, an, hA⟩ := h.later lW
  have hdl := kdeliver43 hTW lk num
  rw [hE, hX] at hdl
  obtain ⟨ks', hks⟩ : ∃ ks', ks' = Lk.dK num ks := ⟨_, rfl⟩
  rw [← hks] at hdl ⊢
  obtain ⟨c0, c1, c2, c3, c4, c5, c6⟩ := wdcells blk
  have HWM := hid hWM
  have HL := hid lW
  have HK := hid kW
  have HT := hid hT
  have HTW := hid hTW
  have HRC := hid hrc
  have HBS := hid (And.intro hb hbm)
  have HZ := hid hz
  have HB := hid blk
  clear hWM lW kW hT hTW hrc hb hbm hz blk mm0 mm1 lk an h hE hX hks
  go_enter Tryz.func23, Tryz.ntmps23
  go_upto_region 1 with fail
  rw [← hW]
  clear hW
  go_upto_region 2 with (go_at_call 43; (with_reducible refine hdl.mono ?_); rintro e' w1 ⟨A1, m1, rfl, ⟨tag1, ht1, lk1⟩, hrd1, hc1, hm1⟩)
  obtain ⟨V, hV⟩ : ∃ V, V = w1.alloc (.cells #[.int .i64 num, .int .i64 1, .slice A1 b.length m1] 102) := ⟨_, rfl⟩
  have lV : Lat w1 V := by rw [hV]; exact (Lat.refl w1).alloc _
  have kV : Blk V w1.heap.size 102 #[.int .i64 num, .int .i64 1, .slice A1 b.length m1] := by rw [hV]; exact Blk.new _ _ _
  obtain ⟨g, hg⟩ : ∃ g, g = w1.heap.size := ⟨_, rfl⟩
  rw [← hg] at kV ⊢
  rw [← hV]
  have hWV := (HWM.out.link ht1 lk1).later lV
  have htV : Turn Wp W tag V tag1 := (ht1.more fun i hi => by subst hi; unfold Wp; omega).lat lV
  have hbV := lV.blk (ht1.blk HB.out (by rw [HZ.out]; decide))
  have hz1 : tag1 zw = 23 := (ht1.old zw HB.out.lt).trans HZ.out
  obtain ⟨vA', ms', blk', hz', mm0, mm1, lk, an, hA'⟩ := hWV
  have hWV := (HWM.out.link ht1 lk1).later lV
  have hup : ∀ d, Calls Tryz.prog 44 #[P q.n1] (V.drewN d) fun e w' => e = .returned (.bool true) ∧ w' = V.drewN d := fun d => (ndup44 ((mm1.later ((Lat.refl V).drewN d)).blk.1)).mono fun _ _ h => ⟨h.1, h.2.symm⟩
  have hrc : ∀ X, Lat V X → Calls Tryz.prog 45 #[P q.n1, .slice A1 b.length m1] X (HrR tag1 10 q.d1 q.n1 q.z1 1 most ac' kn' s1.p cs' B' bs X) := fun X l => HRC.out X tag1 A1 m1 (htV.td.below l.size) (mm1.later l) ((hrd1.below (lV.trans l).b).more (lV.trans l).size) hc1 hm1
  have x0 : V.cell? ⟨g, 0, none⟩ = some (.int .i64 num) := kV.cell 0
  have x1 : V.cell? ⟨g, 1, none⟩ = some (.int .i64 1) := kV.cell 1
  have x2 : V.cell? ⟨g, 2, none⟩ = some (.slice A1 b.length m1) := kV.cell 2
  obtain ⟨c0, c1, c2, c3, c4, c5, c6⟩ := wdcells hbV
  have HUP := hid hup
  have HRV := hid hrc
  have HKV := hid kV
  have HBV := hid hbV
  have HWV := hid hWV
  have HTV := hid htV
  have HZ1 := hid hz1
  have HMM := hid mm1
  have HGW : Hid (w.heap.size ≤ V.heap.size) := hid (Nat.le_trans HL.out.size htV.size)
  have HG0 : Hid (tag1 g = 0) := hid (by rw [hg]; exact ht1.td _ (Nat.le_refl _))
  clear hV lV hg kV hbV hWV htV hz1 hup hrc blk' hz' mm0 mm1 lk an hA' hA ht1 lk1 hrd1 hc1 hm1 hdl HRC
  go_quiet ((go_at_call 44; with_reducible exact Calls.quiet_of_same (HUP.out _)))
  obtain ⟨w2, hw2⟩ : ∃ w2, w2 = V.drewN nq := ⟨_, rfl⟩
  rw [← hw2]
  have l2 : Lat V w2 := by rw [hw2]; exact (Lat.refl V).drewN _
  have y1 : w2.cell? ⟨g, 1, none⟩ = some (.int .i64 1) := (l2.blk HKV.out).cell 1
  have y2 : w2.cell? ⟨g, 2, none⟩ = some (.slice A1 b.length m1) := (l2.blk HKV.out).cell 2
  have z2 : w2.cell? ⟨zw, 4, none⟩ = some (P q.n1) := (wdcells (l2.blk HBV.out)).2.2.2.2.1
  have HL2 := hid l2
  clear hw2 l2 c0 c1 c2 c3 c4 c5 c6 x0 x1 x2
  go_upto_region 4 with fail
  refine' merge2 (fun A c X => ∃ tag5, Turn (Pr6 10) V tag1 X tag5 ∧ NM X tag5 10 q.d1 q.n1 q.z1 1 most ac' kn' s1.p cs' B' ∧ Bb X (Own0 V.heap.size tag5) (.slice A bs.length c) bs) ?i1 (fun A5 c5 w5 h5 => ?i2)
  case i1 =>
    go_region_law ((go_simp; go_at_call 45; (with_reducible refine (HRV.out _ (HL2.out.trans (by repeat (first | exact Lat.refl _ | refine Lat.drew ?_ | refine Lat.drewN ?_ _ | refine Lat.alloc ?_ _)))).mono ?_); rintro e2 w3 ⟨A3, c3, rfl, tag3, ht3, hn3, hb3⟩; have hlx := HL2.out.trans (by repeat (first | exact Lat.refl _ | refine Lat.drew ?_ | refine Lat.drewN ?_ _ | refine Lat.alloc ?_ _))))
    all_goals
      have hlx : Lat V _ := HL2.out.trans (by repeat (first | exact Lat.refl _ | refine Lat.drew ?_ | refine Lat.drewN ?_ _ | refine Lat.alloc ?_ _))
      refine ⟨A3, c3, rfl, tag3, ?_, hn3, hb3.to fun k hk => ⟨Nat.le_trans (Lat.size (HL2.out.trans (by repeat (first | exact Lat.refl _ | refine Lat.drew ?_ | refine Lat.drewN ?_ _ | refine Lat.alloc ?_ _)))) hk.1, hk.2⟩⟩
      first
        | exact (HL2.out.turn HTV.out.td (Pr6 10)).trans ht3
        | exact ((HL2.out.trans (Lat.drew (Lat.refl _))).turn HTV.out.td (Pr6 10)).trans ht3
  obtain ⟨tag5, ht5, hn5, hb5⟩ := h5
  have hW5 := HWV.out.site1 (s1' := hrS s1 ac' kn' cs' B') ht5 hn5
  have hbk5 := ht5.blk HBV.out (by rw [HZ1.out]; unfold Pr6; omega)
  have hz5 : tag5 zw = 23 := (ht5.old zw HBV.out.lt).trans HZ1.out
  have hW5' := hW5
  obtain ⟨vA', ms', blk', hz', mm0, mm1, lk5, an, hA'⟩ := hW5'
  have hpo : Calls Tryz.prog 46 #[P zw, .int .i64 ((1 : Nat) : Int), .slice A5 bs.length c5] w5 _ := wpost46 1 (by omega) ht5.td hbk5 hz5 lk5 l0 l1 (hb5.to fun k hk => hk.2) (by have := HBS.out.1; omega) HBS.out.2
  have y1 : w5.cell? ⟨g, 1, none⟩ = some (.int .i64 1) := (ht5.blk HKV.out (by rw [HG0.out]; exact pr6_0 10)).cell 1
  have HPO := hid hpo
  have HW5 := hid hW5
  have HT5 := hid (HTV.out.trans (ht5.more fun i hi => by unfold Pr6 at hi; unfold Wp; omega))
  have HS5 := hid (Nat.le_trans HGW.out ht5.size)
  clear hpo hW5 ht5 hn5 hb5 hbk5 hz5 blk' hz' mm0 mm1 lk5 an hA'
  go_wp2_with (go_at_call 46; refine stop_ (fun Ps hPs => ?_))
  refine hPs ?_
  clear hPs Ps
  refine HPO.out.mono ?_
  rintro e' w6 ⟨v6, n6, xs, rfl, tag6, ht6, lk6, sl6, hn6, hone⟩
  obtain ⟨A6, c6, rfl, _, _⟩ := sl6.slice_
  have htX : Turn Wp W tag w6 tag6 := HT5.out.trans (ht6.more fun i hi => by subst hi; unfold Wp; omega)
  obtain ⟨hfin, hkf, hkx⟩ := adid_fin (er := 0) (nr := 0) (sv := noStr) (tb := false) (N := 2) HT.out HL.out (Nat.le_refl _) HK.out htX (HW5.out.link ht6 lk6) (sl6.to fun k hk => ⟨Nat.le_trans HS5.out hk.1, hk.2⟩) (by have := HBS.out.1; omega) hone
  obtain ⟨⟨x0, x1, x2, x3, x4⟩, f0, f1, f2, f3, f4⟩ := didcells hkx
  obtain ⟨⟨d0, d1, d2, d3, d4⟩, _⟩ := didcells hkf
  have HF := hid hfin
  clear hfin hkf hkx ht6 lk6 sl6 htX hn6 hone y1 y2 z2
  go_wp2_with fail
  refine bodyPost_ret (by simp [results, Tryz.results23, go_sem, d0, d1, d2, d3, d4]; try rfl) rfl ?_
  exact HF.out _ rfl
end Go.Proofs.YtbpnbcjgkbpmgaaGreat
namespace Go.Proofs.YtbpnbcjgkbpmgaaGreat
open Go.RowKit Go.Lg Ds St
set_option linter.unusedVariables false
set_option linter.unusedSimpArgs false
def DHello (en : Nat) (X : World) (vS vC : Value) : Prop := vC = .slice none 0 0 ∧ ∃ A c, vS = .slice A (st1 en).length c ∧ SS X X.heap.size A (st1 en).length (si (st1 en))
theorem DHello.later {en : Nat} {X X' : World} {vS vC : Value} (h : DHello en X vS vC) (l : Lat X X') : DHello en X' vS vC := by
  obtain ⟨h1, A, c, h2, h3⟩ := h
  exact ⟨h1, A, c, h2, ⟨(h3.1.below l.b).more l.size, h3.2⟩⟩
theorem DHello.sl {en : Nat} {X : World} {vS vC : Value} (h : DHello en X vS vC) : ∃ A1 n1 c1 A2 n2 c2, vS = .slice A1 n1 c1 ∧ vC = .slice A2 n2 c2 := by
  obtain ⟨h1, A, c, h2, h3⟩ := h
  exact ⟨A, _, c, none, 0, 0, h2, h1⟩
section
variable {w : World} {tag : Nat → Nat} {t dz nz z B : Nat} {num most ac kn : Int} {cs : List Cmt}
theorem dec_hello {A : Option Addr} {c : Nat} (ro en : Nat) (r1 : 1 ≤ ro) (r2 : ro ≤ 3) (hen : en ≤ 1000) (hr : Rd w w.heap.size 1 A (Msg.hello 1 ro en (st1 en)).enc.length (bts (Msg.hello 1 ro en (st1 en)).enc)) (hc : (Msg.hello 1 ro en (st1 en)).enc.length ≤ c) (hm : c ≤ maxLen) (X : World) (l : Lat w X) :
    Calls Tryz.prog 77 #[.slice A (Msg.hello 1 ro en (st1 en)).enc.length c] X fun e w' => ∃ vS vC, e = .returned (.tuple #[.agg (msgc 1 1 ro en vS 0 0 vC), .int .i64 0]) ∧ DHello en w' vS vC ∧ Below X.heap.size X w' :=
  (decode_hello (w := X) (ep := 1) (ro := ro) (en := en) (l := st1 en) ((hr.below l.b).more l.size) hc hm (st1_ok en (by omega)) r1 r2 (fun h => st1_last en h) (by have := st1_len en; omega) (by omega) (by omega) (by omega) (st1_sm en)).mono fun e w' ⟨A', c', he, hs, hb⟩ => ⟨_, _, he, ⟨rfl, A', c', rfl, ⟨hs.rdf.rd (by decide), by simp [si]⟩⟩, hb⟩
theorem rc_hello0 {A : Option Addr} {c en : Nat} {kv na : Int} (hT : Tidy w tag) (h : NM w tag t dz nz z num most ac kn p1 cs B) (hcs : cs.length ≤ 1000) (a1 : 0 ≤ ac) (a2 : ac ≤ cs.length) (hen : en ≤ 1000) (hkv : kv = max (max kn 0) en) (hna : na = max ac (min kv (cs.length : Nat)))
    (hr : Rd w w.heap.size 1 A (Msg.hello 1 2 en (st1 en)).enc.length (bts (Msg.hello 1 2 en (st1 en)).enc)) (hc : (Msg.hello 1 2 en (st1 en)).enc.length ≤ c) (hm : c ≤ maxLen) :
    Calls Tryz.prog 45 #[P nz, .slice A (Msg.hello 1 2 en (st1 en)).enc.length c] w (HrR tag t dz nz z num most na kv p1 cs B [] w) :=
  ndrecv45 (pro := 1) (k := 1) (ro := ((2 : Nat) : Int)) (en := (en : Int)) (fr := 0) (pv := 0) (DHello en) (fun X X' vS vC h l => h.later l) (fun X vS vC h => h.sl) hT h (.inl rfl) (dec_hello 2 en (by omega) (by omega) hen hr hc hm) (fun X vS vC l hd => by
    obtain ⟨rfl, A1, c1, rfl, hss⟩ := hd
    have hmok : Mok X X.heap.size (msgc 1 1 ((2 : Nat) : Int) en (.slice A1 (st1 en).length c1) 0 0 nils) := .hello 1 _ _ A1 _ c1 (si (st1 en)) hss (st1_ok en (by omega)) (by decide) (by decide) (fun h => st1_last en h) (by have := st1_len en; omega) (by decide) (by decide)
    exact (ndheard81_p (na := na) (kv := kv) hna (by rw [hkv]; exact if_pos (.inr ⟨rfl, rfl⟩)) (hT.below l.size) (h.later l) hmok hcs a1 a2).mono fun e w' ⟨he, tag', ht, hn⟩ => ⟨none, 0, he, tag', ht, hn, Bb.nil_ _ _⟩)
theorem rc_ack0 {A : Option Addr} {c en : Nat} {kv na : Int} (hT : Tidy w tag) (h : NM w tag t dz nz z num most ac kn p1 cs B) (hcs : cs.length ≤ 1000) (a1 : 0 ≤ ac) (a2 : ac ≤ cs.length) (hen : en ≤ 1000) (hkv : kv = max (max kn 0) en) (hna : na = max ac (min kv (cs.length : Nat)))
    (hr : Rd w w.heap.size 1 A (Msg.ack 1 en).enc.length (bts (Msg.ack 1 en).enc)) (hc : (Msg.ack 1 en).enc.length ≤ c) (hm : c ≤ maxLen) :
    Calls Tryz.prog 45 #[P nz, .slice A (Msg.ack 1 en).enc.length c] w (HrR tag t dz nz z num most na kv p1 cs B [] w) :=
  ndrecv45 (pro := 1) (k := 3) (ro := 0) (en := (en : Int)) (fr := 0) (pv := 0) (fun _ vS vC => vS = .slice none 0 0 ∧ vC = .slice none 0 0) (fun X X' vS vC h l => h) (fun X vS vC h => ⟨none, 0, 0, none, 0, 0, h.1, h.2⟩) hT h (.inl rfl)
    (fun X l => (decode_ack (w := X) (ep := 1) (en := en) ((hr.below l.b).more l.size) hc hm (by omega) (by omega) (by omega)).mono fun e w' ⟨he, hb⟩ => ⟨_, _, he, ⟨rfl, rfl⟩, hb⟩) (fun X vS vC l hd => by
    obtain ⟨rfl, rfl⟩ := hd
    have hmok : Mok X X.heap.size (msgc 3 1 0 en nils 0 0 nils) := .ack 1 en (by omega) (by omega) (by decide) (by decide)
    exact (ndheard81_p (na := na) (kv := kv) hna (by rw [hkv]; exact if_pos (.inl rfl)) (hT.below l.size) (h.later l) hmok hcs a1 a2).mono fun e w' ⟨he, tag', ht, hn⟩ => ⟨none, 0, he, tag', ht, hn, Bb.nil_ _ _⟩)
theorem rc_hello1 {A : Option Addr} {c en : Nat} (hT : Tidy w tag) (h : NM w tag t dz nz z num most ac kn p2 cs B) (hen : en ≤ 1000)
    (hr : Rd w w.heap.size 1 A (Msg.hello 1 1 en (st1 en)).enc.length (bts (Msg.hello 1 1 en (st1 en)).enc)) (hc : (Msg.hello 1 1 en (st1 en)).enc.length ≤ c) (hm : c ≤ maxLen) :
    Calls Tryz.prog 45 #[P nz, .slice A (Msg.hello 1 1 en (st1 en)).enc.length c] w (HrR tag t dz nz z num most ac kn p2 cs B [] w) :=
  ndrecv45 (pro := 2) (k := 1) (ro := ((1 : Nat) : Int)) (en := (en : Int)) (fr := 0) (pv := 0) (DHello en) (fun X X' vS vC h l => h.later l) (fun X vS vC h => h.sl) hT h (.inr rfl) (dec_hello 1 en (by omega) (by omega) hen hr hc hm) (fun X vS vC l hd =>
    (ndheard81_n (h.later l) (by decide)).mono fun e w' ⟨he, hb⟩ => ⟨none, 0, he, tag, Turn.below (hT.below l.size) hb, (h.later l).later ⟨hb⟩, Bb.nil_ _ _⟩)
def DShip (cl : List Cmt) (X : World) (vS vC : Value) : Prop := vS = .slice none 0 0 ∧ ∃ A c ns, vC = .slice A cl.length c ∧ ns.map Cm.p = cl ∧ CS X X.heap.size A cl.length ns ∧ ∀ m ∈ ns, m.n ≤ m.c ∧ m.n ≤ 1000000
theorem DShip.later {cl : List Cmt} {X X' : World} {vS vC : Value} (h : DShip cl X vS vC) (l : Lat X X') : DShip cl X' vS vC := by
  obtain ⟨h1, A, c, ns, h2, h3, h4, h5⟩ := h
  exact ⟨h1, A, c, ns, h2, h3, (h4.keep l.b).more l.size, h5⟩
theorem ship_fits {ms ns : List Cm} {fr : Nat} {pv : Nat} {cs cl : List Cmt} (h1 : ms.map Cm.p = cs) (h2 : ns.map Cm.p = cl) (hc : One 0 cs) (hl : One (fr - 1) cl) (f1 : 1 ≤ fr) (f2 : fr ≤ 10000) (hpv : fr = 1 ∨ pv = 1) (hg : fr - 1 ≤ cs.length) (hn : cl.length ≤ 4) : Fits ms ns fr pv := by
  have hml : ms.length = cs.length := by rw [← h1]; simp
  have at1 : ∀ i, i < cs.length → ∃ m, ms[i]? = some m ∧ m.ep = 1 := fun i hi => by
    have hm : i < ms.length := by omega
    refine ⟨ms[i], List.getElem?_eq_getElem hm, ?_⟩
    have := (hc.mem (by rw [← h1]; exact List.mem_map.2 ⟨ms[i], List.getElem_mem hm, rfl⟩)).2
    exact this
  refine ⟨fun h => ?_, fun x hx => ?_⟩
  · obtain ⟨m, h3, h4⟩ := at1 (fr - 2) (by omega)
    exact ⟨m, h3, by rw [h4]; rcases hpv with h | h <;> omega⟩
  · obtain ⟨j, hj⟩ := List.mem_iff_getElem?.1 hx
    have hjl : j < 4 := by
      have := (List.getElem?_eq_some_iff.1 hj).1
      have e : ns.length = cl.length := by rw [← h2]; simp
      omega
    have hx2 : cl[j]? = some x.p := by rw [← h2, List.getElem?_map, hj]; rfl
    have ha := hl.at_ hx2
    have e1 : x.p.num = x.num := rfl
    have e2 : x.p.ep = x.ep := rfl
    rw [e1, e2] at ha
    refine ⟨by omega, by omega, fun hle => ?_⟩
    obtain ⟨m, h3, h4⟩ := at1 (x.num - 1).toNat (by omega)
    exact ⟨m, h3, by rw [h4]; exact ha.2.2.symm⟩
theorem rc_ship1 {A : Option Addr} {c fr pv : Nat} {cl tk : List Cmt} (hT : Tidy w tag) (h : NM w tag t dz nz z num most ac kn p2 cs B) (f1 : 1 ≤ fr) (f2 : fr ≤ 10000) (hpv : pv = 0 ↔ fr = 1) (hpv1 : pv ≤ 1) (hcl : One (fr - 1) cl) (hn : cl.length ≤ 4) (hg : fr - 1 ≤ cs.length) (hc1 : One 0 cs) (htk : tk = beh cs.length cl) (h1 : One 0 (cs ++ tk)) (htl : tk.length ≤ 1) (hcs : cs.length ≤ 500) (hB : B ≤ 500000)
    (hr : Rd w w.heap.size 1 A (Msg.ship 1 fr pv cl).enc.length (bts (Msg.ship 1 fr pv cl).enc)) (hc : (Msg.ship 1 fr pv cl).enc.length ≤ c) (hm : c ≤ maxLen) :
    Calls Tryz.prog 45 #[P nz, .slice A (Msg.ship 1 fr pv cl).enc.length c] w (HrR tag t dz nz z num most ac kn p2 (cs ++ tk) (B + 2000) [(Msg.ack 1 (cs ++ tk).length).enc] w) :=
  ndrecv45 (pro := 2) (k := 2) (ro := 0) (en := 0) (fr := (fr : Int)) (pv := (pv : Int)) (DShip cl) (fun X X' vS vC h l => h.later l) (fun X vS vC h => by obtain ⟨h1, A, c, ns, h2, _⟩ := h; exact ⟨none, 0, 0, A, _, c, h1, h2⟩) hT h (.inr rfl)
    (fun X l => (decode_ship (w := X) (ep := 1) (fr := fr) (pv := pv) (cs := cl) ((hr.below l.b).more l.size) hc hm f1 (by omega) hpv1 hpv hn (fun c hc => (hcl.mem hc).1) (fun ms hms => by
        have h9 := One.fol_ (ms := ms) (i := 0) (ep := (pv : Int)) (by rw [hms]; exact hcl) (by omega)
        rw [show ((fr - 1 : Nat) : Int) = (fr : Int) - 1 by omega] at h9
        exact h9) (fun c hc => by have := (hcl.mem hc).2; omega) (by omega) (by omega)).mono fun e w' ⟨v, ms, he, hms, hclm, hb⟩ => by
      obtain ⟨A', c', hv, _, _⟩ := hclm.row.slice_
      have hml : ms.length = cl.length := by rw [← hms]; simp
      rw [hml] at hv
      subst hv
      exact ⟨_, _, he, ⟨rfl, A', c', ms, rfl, hms, hclm.cs hml, fun m hm => ⟨(hclm.ops m hm).1.cap.1, by
        have h8 := (Cmt.oks (hcl.mem (by rw [← hms]; exact List.mem_map.2 ⟨m, hm, rfl⟩)).1).2.1
        have e1 := (hclm.ops m hm).2
        have e2 : m.p.os = m.os := rfl
        rw [e2] at h8
        omega⟩⟩, hb⟩)
    (fun X vS vC l hd => by
      obtain ⟨rfl, A2, c2, ns, rfl, hns, hcsn, hcap⟩ := hd
      have hfol := One.fol_ (ms := ns) (i := 0) (ep := (pv : Int)) (by rw [hns]; exact hcl) (by omega)
      rw [show ((fr - 1 : Nat) : Int) = (fr : Int) - 1 by omega] at hfol
      have hmok : Mok X X.heap.size (msgc 2 1 0 0 nils fr pv (.slice A2 cl.length c2)) := .ship 1 fr pv A2 _ c2 ns hcsn (by omega) (by omega) (by omega) (by omega) (by omega) hn hfol (fun m hm => by have e := (hcl.mem (by rw [← hns]; exact List.mem_map.2 ⟨m, hm, rfl⟩)).2; have e2 : m.p.ep = m.ep := rfl; omega) (by decide) (by decide)
      exact (ndheard81_s (c2 := c2) (hT.below l.size) (h.later l) h1 hcsn hmok hn f1 (by omega) (fun ms hms => ship_fits hms hns hc1 hcl f1 f2 (by omega) hg hn) hg hcap (by rw [hns]; exact htk) htl hcs hB).mono fun e w' ⟨v, he, tag', ht, hn', hb⟩ => by
        obtain ⟨A9, c9, hv, _⟩ := hb.len
        subst hv
        exact ⟨A9, c9, he, tag', ht, hn', hb⟩)
end
end Go.Proofs.YtbpnbcjgkbpmgaaGreat
namespace Go.Proofs.YtbpnbcjgkbpmgaaGreat.Lk
open Go.RowKit Go.Lg Go.Shelf
variable {F : Nat → Prop}
set_option linter.unusedVariables false
set_option linter.unusedSimpArgs false
attribute [local go_sem] Oper.semAt_some
def nums (l : List Int) : List Value := l.map (Value.int .i64)
theorem nums_snoc (l : List Int) (x : Int) : nums (l ++ [x]) = nums l ++ [.int .i64 x] := by simp [nums]
theorem nums_length (l : List Int) : (nums l).length = l.length := by simp [nums]
set_option maxHeartbeats 1000000 in
set_option maxRecDepth 100000 in
theorem values89 (a : Option Addr) (len cap : Nat) (w : World) : Calls Tryz.prog 89 #[.slice a len cap] w fun e w' => e = .returned (.func (.func 145) #[] #[.pointer (some ⟨w.heap.size, 0, none⟩)]) ∧ w' = w.alloc (.cells #[.slice a len cap] 32) := by
  go_enter Tryz.func89, Tryz.ntmps89
  go_wp2_with fail
  go_ret
  exact ⟨rfl, rfl⟩
def GivesB (ns : List Int) (w : World) (e : Ending) (w' : World) : Prop :=
  ∃ Bs A cap, e = .returned (.func (.func 145) #[] #[.pointer (some ⟨Bs, 0, none⟩)]) ∧ w.heap.size ≤ Bs ∧ Bs < w'.heap.size ∧ w'.cell? ⟨Bs, 0, none⟩ = some (.slice A ns.length cap) ∧ Rd w' w'.heap.size 1 A ns.length (nums ns) ∧ ns.length ≤ cap ∧ cap ≤ maxLen ∧ Below w.heap.size w w' ∧ ∀ b off, A = some ⟨b, off, none⟩ → w.heap.size ≤ b
set_option maxHeartbeats 4000000 in
set_option maxRecDepth 100000 in
theorem all52 (pv : Value) (ks : List Lt) (w : World) (hk5 : ks.length ≤ 512) (hF : Calls Tryz.prog 88 #[pv] w fun e w' => ∃ v ls', e = .returned v ∧ w'.ownsRow w.heap.size 102 3 v ls'.length (ltc ls') ∧ ls'.map Lt.k = ks.map Lt.k ∧ (∀ x ∈ ls', ∃ A c, x.v = .slice A x.b.length c) ∧ Below w.heap.size w w') :
    Calls Tryz.prog 52 #[pv] w (GivesB ((ks.map Lt.k).map (·.1)) w) := by
  obtain ⟨H0, hH0⟩ : ∃ H0, H0 = w.heap.size := ⟨_, rfl⟩
  have HH := hid hH0
  have HF := hid hF
  clear hF hH0
  go_enter Tryz.func52, Tryz.ntmps52
  go_wp2_with (go_at_call 88; refine stop_ (fun Ps hPs => ?_))
  refine hPs ?_
  clear hPs Ps
  refine HF.out.mono ?_
  rintro e w2 ⟨v2, ls', rfl, ho2, hm2, hone, hb2⟩
  have hl : ls'.length = ks.length := by have := congrArg List.length hm2; simpa using this
  obtain ⟨A, c, rfl, hc1, hc2⟩ := owned_slice ho2
  obtain ⟨m, hm⟩ : ∃ m, m = ls'.length := ⟨_, rfl⟩
  have HM := hid hm
  have hm5 : m ≤ 512 := by omega
  rw [← hm] at ho2 hc1 ⊢
  rw [← HH.out] at ho2 hb2
  have HO := hid ho2
  have HB := hid hb2
  have H1 := hid hone
  have HK := hid hm2
  clear ho2 hb2 hone hm hl hm2 hk5
  go_wp2_with fail
  go_loopg [3, 5, 9] m (fun gg v b x9 wr => ∃ k : Nat, k ≤ m ∧ gg = m - k ∧ x9 = .int .i64 k ∧ Hid (wr.ownsRow H0 3 1 v k (nums ((ls'.map (·.n)).take k))) ∧ Hid (wr.ownsRow H0 102 3 (.slice A m c) m (ltc ls')) ∧ Hid (Below H0 w wr))
  case atStart => exact ⟨0, by omega, rfl, rfl, hid (World.ownsRow_nil _ _ _ _), HO, HB⟩
  case round =>
    obtain ⟨k, hk, rfl, rfl, HN, HOr, HBr⟩ := hrel
    by_cases hlt : k < m
    · obtain ⟨x, hx⟩ : ∃ x, ls'[k]? = some x := ⟨ls'[k]'(by rw [← HM.out]; exact hlt), List.getElem?_eq_getElem _⟩
      obtain ⟨g, off, rfl, hg, c0, c1, c2⟩ := ltAt (Rd.of_own HOr.out) hx
      obtain ⟨Ax, cx, hv⟩ := H1.out x (List.mem_of_getElem? hx)
      obtain ⟨xn, xt, xv, xb⟩ := x
      simp only at c0 c1 c2 hv
      subst hv
      have hki : (k : Int) < (m : Int) := by omega
      have hk0 : (0 : Int) ≤ (k : Int) := Int.natCast_nonneg _
      have hk5 : (k : Int) < 512 := by omega
      have hs : H0 ≤ wr.heap.size := by rw [HH.out]; exact HBr.out.size
      have hbX := (Below.refl wr.heap.size wr).alloc (Nat.le_refl _) (.cells #[.int .i64 xn, .int .i64 xt, .slice Ax xb.length cx] 102)
      have kx := Blk.new wr 102 #[.int .i64 xn, .int .i64 xt, .slice Ax xb.length cx]
      obtain ⟨X, hX⟩ : ∃ X, X = wr.alloc (.cells #[.int .i64 xn, .int .i64 xt, .slice Ax xb.length cx] 102) := ⟨_, rfl⟩
      rw [← hX] at hbX kx
      have HX := hid hx
      have HNX := hid (owned_later HN.out hbX)
      have HOX := hid (owned_later HOr.out hbX)
      have HBX := hid (HBr.out.trans (hbX.mono hs))
      have HS := hid (show H0 ≤ X.heap.size from Nat.le_trans hs hbX.size)
      clear hx hs hbX kx
      go_wp2_with (at_builtin; refine stop_ (fun Ps hPs => ?_))
      refine hPs ?_
      clear hPs Ps
      rw [← hX]
      have hsz : wr.heap.size + 1 = X.heap.size := by rw [hX]; simp
      rw [hsz]
      clear hX hsz
      refine wpList_app1 T32 (.tmp 13) (.tmp 16) rfl rfl HNX.out rfl (cs := #[.int .i64 xn]) rfl rfl (by simp [Value.oneCell']) (by omega) HS.out fun v1 w4 hown1 hg1 hat1 => ?_
      have hb1 := below_append HBX.out HNX.out hg1 HS.out
      have ho1 := owned_gb HOX.out hg1 (fun g h1 h2 => ne_by_type HOX.out HNX.out (by decide) g h1 h2.symm)
      have HN1 := hid hown1
      have HB1 := hid hb1
      have HO1 := hid ho1
      clear hown1 hb1 hg1 hat1 ho1
      go_wp2_with fail
      go_roundg (m - (k + 1))
      case measure => omega
      case rel =>
        refine ⟨k + 1, by omega, rfl, by go_num, hid ?_, HO1, HB1⟩
        rw [take_succ_get? (show (ls'.map (·.n))[k]? = some xn by rw [List.getElem?_map, HX.out]; rfl), nums_snoc]
        exact HN1.out
    · obtain rfl : k = m := by omega
      have hki : ¬ (k : Int) < (k : Int) := by omega
      obtain ⟨A3, c3, rfl, hd1, hd2⟩ := owned_slice HN.out
      go_wp2_with (go_at_call 89; refine stop_ (fun Ps hPs => ?_))
      refine hPs ?_
      clear hPs Ps
      refine (values89 _ _ _ wr).mono ?_
      rintro e w4 ⟨rfl, rfl⟩
      go_wp2_with fail
      go_ret
      have hnn : (ls'.map (·.n)).take k = (ks.map Lt.k).map (·.1) := by
        rw [← HK.out, List.take_of_length_le (by have := HM.out; simp; omega)]
        simp [Lt.k]
      have hnl : ((ks.map Lt.k).map (·.1)).length = k := by
        have := HN.out.1
        rw [nums_length, hnn] at this
        omega
      have hN := HN.out
      rw [hnn] at hN
      have hs : H0 ≤ wr.heap.size := by rw [HH.out]; exact HBr.out.size
      refine ⟨wr.heap.size, A3, c3, rfl, by rw [← HH.out]; exact hs, by simp, ?_, ?_, by rw [hnl]; exact hd1, hd2, by rw [← HH.out]; exact HBr.out.alloc hs _, fun b off e9 => by rw [← HH.out]; exact (hN.lt b (by rw [e9]; rfl)).1⟩
      · rw [hnl]
        exact (Blk.new wr 32 #[.slice A3 k c3]).cell 0
      · rw [hnl]
        have := (Rd.of_own hN).alloc (Nat.le_refl _) (.cells #[.slice A3 k c3] 32)
        exact this.more (by simp)
theorem all52_of {B z : Nat} {last : Int} {sv : Value} {ls : List Lt} {w : World} (h : LX F false w B z last sv ls) : Calls Tryz.prog 52 #[P z] w (GivesB ((ls.map Lt.k).map (·.1)) w) :=
  all52 _ ls w h.le ((flight21 h).mono fun e w' ⟨v, ls', he, ho, hf, hb⟩ => ⟨v, ls', he, ho, by rw [hf.keys, List.take_of_length_le (Nat.le_refl _)], fun x hx => by
    obtain ⟨A, c, e, _, _⟩ := owned_slice (hf.own x hx).own
    exact ⟨A, c, e⟩, hb⟩)
theorem nums_get {l : List Int} {k : Nat} {x : Int} (h : l[k]? = some x) : (nums l)[k]? = some (.int .i64 x) := by simp [nums, h]
abbrev enc1 (x : Int) : Array Value := #[.int .i64 x]
def Kp2 (K1 K2 : Nat) (W W' : World) : Prop := W'.heap[K1]? = W.heap[K1]? ∧ W'.heap[K2]? = W.heap[K2]?
theorem Kp2.trans {K1 K2 : Nat} {A B C : World} (h : Kp2 K1 K2 A B) (k : Kp2 K1 K2 B C) : Kp2 K1 K2 A C := ⟨k.1.trans h.1, k.2.trans h.2⟩
set_option maxRecDepth 100000 in
set_option maxHeartbeats 2000000 in
theorem values145_in (F : Fence) (n : Nat) (hf : F.fn 145) (hro : F.round = none) (hn : 1 ≤ n) (l Bs b off cap : Nat) (ns : List Int) (A : Option Addr) (hl : ns.length ≤ 512) (J Jx : List Int → World → Prop)
    (hY : ∀ pre x W, J pre W → pre.length < ns.length → ns[pre.length]? = some x → YieldAt F (n - 1) Tryz.prog l (enc1 x) W fun e W' =>
      (e = .returned (.bool true) ∧ J (pre ++ [x]) W' ∧ Kp2 Bs b W W') ∨ (e = .returned (.bool false) ∧ Jx (pre ++ [x]) W'))
    (W : World) (hBs : W.cell? ⟨Bs, 0, none⟩ = some (.slice A ns.length cap)) (hA : 0 < ns.length → A = some ⟨b, off, none⟩) (hos : ∀ j u, (nums ns)[j]? = some u → W.cell? ⟨b, off + j, none⟩ = some u) (hlc : ns.length ≤ cap) (h0 : J [] W) :
    CallsIn F n Tryz.prog 145 #[.func (.yield l) #[] #[], .pointer (some ⟨Bs, 0, none⟩)] W fun e W' => (∃ v, e = .returned v) ∧
      ((∃ ys, ys = ns ∧ J ys W') ∨ (∃ pre, (∃ k, k ≤ ns.length ∧ pre = ns.take k) ∧ Jx pre W')) := by
  refine callsIn_of_wp Tryz.func145 rfl hf ?_ hro
  obtain ⟨len, hlen⟩ : ∃ len, len = ns.length := ⟨_, rfl⟩
  have HLN := hid hlen
  rw [← hlen] at hl hBs hlc hY hA
  clear hlen
  simp only [Tryz.ntmps145, List.size_toArray, List.length_cons, List.length_nil, Nat.reduceAdd, Nat.reduceSub, Array.replicate_succ, Array.replicate_zero, List.push_toArray, List.append_toArray, List.nil_append, List.cons_append]
  gi_wp2
  gi_loopw [4, 7] (fun _ i wr => ∃ k : Nat, k ≤ len ∧ i = .int .i64 k ∧ J (ns.take k) wr ∧ Kp2 Bs b W wr)
    (fun _ i _ => len - (intOf i).toNat)
  case atStart => exact ⟨0, by omega, rfl, h0, ⟨rfl, rfl⟩⟩
  case round =>
    obtain ⟨k, hk, rfl, hJs, hnx⟩ := hrel
    by_cases hlt : k < len
    · obtain ⟨x, hx⟩ : ∃ x, ns[k]? = some x := ⟨ns[k]'(by rw [← HLN.out]; exact hlt), List.getElem?_eq_getElem _⟩
      have hA' := hA (by omega)
      subst hA'
      have c0 := (World.cell?_of_block (a := ⟨b, off + k, none⟩) hnx.2).trans (hos k _ (nums_get hx))
      have hki : (k : Int) < (len : Int) := by omega
      have hk0 : (0 : Int) ≤ (k : Int) := Int.natCast_nonneg _
      obtain ⟨fn, tmps, assign, body, hy, hR⟩ := hY _ x wr hJs (by rw [List.length_take]; omega) (by rw [List.length_take, Nat.min_eq_left (by have := HLN.out; omega)]; exact hx)
      dsimp only [enc1] at hy
      have HX := hid hx
      clear hx
      gi_wp2
      refine hR.mono ?_
      rintro e W3 (⟨rfl, hJ3, hk3⟩ | ⟨rfl, hJx3⟩)
      · gi_wp2
        go_roundw
        case rel => exact ⟨k + 1, by omega, by go_num, by rw [take_succ_get? HX.out]; exact hJ3, hnx.trans hk3⟩
        case measure => simp [intOf]; omega
      · gi_wp2
        refine bodyPost_ret (results_none rfl _ _ _) rfl ?_
        exact ⟨⟨_, rfl⟩, .inr ⟨_, ⟨k + 1, by have := HLN.out; omega, by rw [take_succ_get? HX.out]⟩, hJx3⟩⟩
    · obtain rfl : k = len := by omega
      have hki : ¬ (k : Int) < (k : Int) := by omega
      gi_wp2
      go_end0
      exact ⟨⟨_, rfl⟩, .inl (by rw [List.take_of_length_le (by have := HLN.out; omega)] at hJs; exact hJs)⟩
end Go.Proofs.YtbpnbcjgkbpmgaaGreat.Lk
