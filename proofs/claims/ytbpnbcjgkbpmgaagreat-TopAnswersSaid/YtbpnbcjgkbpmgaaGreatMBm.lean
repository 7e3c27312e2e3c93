/- A primary answers without waiting for the other site, as many times as its leash allows: of any acts. No condition. (part 39) -/
import Derived.Test.YtbpnbcjgkbpmgaaGreatMBl
namespace Go.Proofs.YtbpnbcjgkbpmgaaGreat
open Go.RowKit Go.Lg Ds St
set_option linter.unusedVariables false
set_option linter.unusedSimpArgs false
attribute [local go_sem] field190 field43_0 field43_1 field43_2
def HrR (tag : Nat → Nat) (t dz nz z : Nat) (num most ac kn : Int) (p : Pg) (cs : List Cmt) (B : Nat) (bs : List Bys) (X : World) (e : Ending) (w' : World) : Prop :=
  ∃ A c, e = .returned (.tuple #[.slice A bs.length c, .int .i64 0]) ∧ ∃ tag', Turn (Pr6 t) X tag w' tag' ∧ NM w' tag' t dz nz z num most ac kn p cs B ∧ Bb w' (Own0 X.heap.size tag') (.slice A bs.length c) bs
def RcR (tag : Nat → Nat) (t dz nz z : Nat) (num most ac kn : Int) (p : Pg) (cs : List Cmt) (B : Nat) (bs : List Bys) (b3 : Nat) (w w' : World) : Prop :=
  ∃ A c tag', TurnB (Pr6 t) b3 w tag w' tag' ∧ NM w' tag' t dz nz z num most ac kn p cs B ∧ Bb w' (Own0 w.heap.size tag') (.slice A bs.length c) bs ∧ Blk w' b3 105 #[.slice A bs.length c]
theorem hear_same {pro : Nat} (hpro : pro = 1 ∨ pro = 2) : Pp.hear ⟨1, pro, 0, 0, 0, 0⟩ 1 = (⟨1, pro, 0, 0, 0, 0⟩, false, 0) := by
  rcases hpro with rfl | rfl <;> decide
theorem lat_page {V X : World} {g : Nat} (hg : V.heap.size ≤ g) (l : Lat V X) (a b c d e f : Value) : Lat V ((((((X.setCell ⟨g, 0, none⟩ a).setCell ⟨g, 1, none⟩ b).setCell ⟨g, 2, none⟩ c).setCell ⟨g, 3, none⟩ d).setCell ⟨g, 4, none⟩ e).setCell ⟨g, 5, none⟩ f) :=
  Lat.setc (p := ⟨g, 5, none⟩) hg (Lat.setc (p := ⟨g, 4, none⟩) hg (Lat.setc (p := ⟨g, 3, none⟩) hg (Lat.setc (p := ⟨g, 2, none⟩) hg (Lat.setc (p := ⟨g, 1, none⟩) hg (Lat.setc (p := ⟨g, 0, none⟩) hg l a) b) c) d) e) f
theorem recv_fin {w X w6 : World} {tag tag6 : Nat → Nat} {t dz nz z lo b3 B : Nat} {num most ac kn : Int} {p : Pg} {cs : List Cmt} {bs : List Bys} {A : Option Addr} {c : Nat} (hT : Tidy w tag) (l : Lat w X) (k3 : Blk w b3 105 #[.slice none 0 0]) (hlo : ∀ j, lo ≤ j → tag j = 0) (h3 : b3 < lo) (t3 : tag b3 = 0)
    (ht : Turn (Pr6 t) X tag w6 tag6) (h : NM w6 tag6 t dz nz z num most ac kn p cs B) (hb : Bb w6 (Own0 X.heap.size tag6) (.slice A bs.length c) bs) :
    Blk w6 b3 105 #[.slice none 0 0] ∧ Does lo 0 (RcR tag t dz nz z num most ac kn p cs B bs b3) w (.returned (.int .i64 0)) (w6.setCell ⟨b3, 0, none⟩ (.slice A bs.length c)) := by
  have kX := l.blk k3
  have k6 := ht.blk kX (by rw [t3]; exact pr6_0 t)
  have htw : Turn (Pr6 t) w tag w6 tag6 := (l.turn hT (Pr6 t)).trans ht
  have hm := mod_set w6 b3 0 (.slice A bs.length c)
  have t6 : tag6 b3 = 0 := (ht.old b3 kX.lt).trans t3
  refine ⟨k6, rfl, Nat.le_trans htw.size hm.size, fun j h1 h2 => ?_, A, c, tag6, ⟨(htw.md.more fun k hk => .inl hk).trans_ (hm.more fun k hk => .inr hk), htw.old, htw.new, htw.td.below hm.size⟩, h.box hm fun k hk => by subst hk; exact t6, ?_, k6.set_ 0 _⟩
  · rw [hm.block j (Nat.lt_of_lt_of_le h2 htw.size) (by omega)]
    exact htw.keep h2 (by rw [hlo j h1]; exact pr6_0 t)
  · obtain ⟨vs, row, el⟩ := hb
    have hto : ∀ k, Own0 X.heap.size tag6 k → Own0 w.heap.size tag6 k := fun k hk => ⟨Nat.le_trans l.size hk.1, hk.2⟩
    exact ⟨vs, (Sl.setz row k6 (by decide) 0 _).to hto, fun j b hj => by obtain ⟨A1, c1, e1, e2⟩ := el j b hj; exact ⟨A1, c1, e1, (Sl.setz e2 k6 (by decide) 0 _).to hto⟩⟩
set_option maxHeartbeats 4000000 in
set_option maxRecDepth 100000 in
theorem ndrecv76 {w : World} {tag : Nat → Nat} {t dz nz z lo b1 b2 b3 B B' : Nat} {num most ac kn ac' kn' : Int} {pro : Nat} {cs cs' : List Cmt} {bs : List Bys} {k ro en fr pv : Int} {A : Option Addr} {n c : Nat} (D : World → Value → Value → Prop) (hD : ∀ X X' vS vC, D X vS vC → Lat X X' → D X' vS vC) (hDs : ∀ X vS vC, D X vS vC → ∃ A1 n1 c1 A2 n2 c2, vS = .slice A1 n1 c1 ∧ vC = .slice A2 n2 c2)
    (hT : Tidy w tag) (h : NM w tag t dz nz z num most ac kn ⟨1, pro, 0, 0, 0, 0⟩ cs B) (hpro : pro = 1 ∨ pro = 2)
    (hdec : ∀ X, Lat w X → Calls Tryz.prog 77 #[.slice A n c] X fun e w' => ∃ vS vC, e = .returned (.tuple #[.agg (msgc k 1 ro en vS fr pv vC), .int .i64 0]) ∧ D w' vS vC ∧ Below X.heap.size X w')
    (hhr : ∀ X vS vC, Lat w X → D X vS vC → Calls Tryz.prog 81 #[P nz, P z, .agg (msgc k 1 ro en vS fr pv vC)] X (HrR tag t dz nz z num most ac' kn' ⟨1, pro, 0, 0, 0, 0⟩ cs' B' bs X))
    (k1 : Blk w b1 80 #[.slice A n c]) (k2 : Blk w b2 65 #[P nz]) (k3 : Blk w b3 105 #[.slice none 0 0]) (hlo : ∀ j, lo ≤ j → tag j = 0) (h3 : b3 < lo) (t3 : tag b3 = 0) :
    Calls Tryz.prog 76 #[P z, P b1, P b2, P b3] w (Does lo 0 (RcR tag t dz nz z num most ac' kn' ⟨1, pro, 0, 0, 0, 0⟩ cs' B' bs b3) w) := by
  have hPG : ∀ X, Lat w X → Calls Tryz.prog 78 #[P z] X fun e w' => e = .returned (.agg #[.int .i64 1, .int .u8 (pro : Int), .int .i64 0, .int .u8 0, .int .i64 0, .int .i64 0]) ∧ Below X.heap.size X w' := fun X l => by
    obtain ⟨wz, rz, sz, n, es, fs, sm, _⟩ := h.later l
    exact stpage78 sm.sb
  have hHE : ∀ X, Calls Tryz.prog 79 #[.agg #[.int .i64 1, .int .u8 (pro : Int), .int .i64 0, .int .u8 0, .int .i64 0, .int .i64 0], .int .i64 1] X fun e w' => e = .returned (.tuple #[.agg #[.int .i64 1, .int .u8 (pro : Int), .int .i64 0, .int .u8 0, .int .i64 0, .int .i64 0], .bool false, .int .i64 0]) ∧ Below X.heap.size X w' := fun X => by
    have := Pp.hear13 ⟨1, pro, 0, 0, 0, 0⟩ 1 X
    rwa [hear_same hpro] at this
  have q1 : w.cell? ⟨b1, 0, none⟩ = some (.slice A n c) := k1.cell 0
  have HPG := hid hPG
  have HHE := hid hHE
  have HHR := hid hhr
  have HK2 := hid k2
  have HK3 := hid k3
  have HLO := hid (And.intro hlo (And.intro h3 t3))
  have HD := hid hD
  have HDS := hid hDs
  have HT := hid hT
  have hdec' := hdec w (Lat.refl w)
  clear hPG hHE hhr k1 k2 k3 hlo h3 t3 hD hT h hDs hdec
  go_enter Tryz.func76, Tryz.ntmps76
  go_wp2_with (go_at_call 77; refine stop_ (fun Ps hPs => ?_))
  refine hPs ?_
  clear hPs Ps q1
  refine hdec'.mono ?_
  rintro e' w1 ⟨vS, vC, rfl, hd1, hb1⟩
  obtain ⟨A1, n1, c1, A2, n2, c2, rfl, rfl⟩ := HDS.out _ _ _ hd1
  go_upto_region 4 with fail
  obtain ⟨V, hV⟩ : ∃ V, V = w1.alloc (.cells (msgc k 1 ro en (.slice A1 n1 c1) fr pv (.slice A2 n2 c2)) 147) := ⟨_, rfl⟩
  have lV : Lat w V := by rw [hV]; exact (Lat.mk hb1).alloc _
  have kV : Blk V w1.heap.size 147 (msgc k 1 ro en (.slice A1 n1 c1) fr pv (.slice A2 n2 c2)) := by rw [hV]; exact Blk.new _ _ _
  have hdV : D V (.slice A1 n1 c1) (.slice A2 n2 c2) := HD.out _ _ _ _ hd1 (by rw [hV]; exact (Lat.refl w1).alloc _)
  obtain ⟨g, hg⟩ : ∃ g, g = w1.heap.size := ⟨_, rfl⟩
  rw [← hg] at kV ⊢
  rw [← hV]
  obtain ⟨m0, m1, m2, m3, m4, m5, m6, m7⟩ := mcells kV
  have HLV := hid lV
  have HKV := hid kV
  have HDV := hid hdV
  clear hV lV kV hg hb1 hd1 hdV hdec'
  refine' merge0 (fun X => Lat V X) ?i1 (fun w3 l3 => ?i2)
  case i1 =>
    go_region_law ((go_simp; go_at_call 78; (with_reducible refine (HPG.out _ (HLV.out.trans (by repeat (first | exact Lat.refl _ | refine Lat.drew ?_ | refine Lat.drewN ?_ _ | refine Lat.alloc ?_ _)))).mono ?_); rintro e2 w2 ⟨rfl, hb2⟩; have l2 : Lat V w2 := Lat.below (by repeat (first | exact Lat.refl _ | refine Lat.drew ?_ | refine Lat.drewN ?_ _ | refine Lat.alloc ?_ _)) hb2; have m12 : w2.cell? ⟨g, 1, none⟩ = some (.int .i64 1) := (l2.blk HKV.out).cell 1))
    all_goals first | exact ⟨rfl, l2⟩ | exact ⟨rfl, l2.drew⟩
  clear m0 m1 m2 m3 m4 m5 m6 m7
  have HL3 := hid l3
  clear l3
  go_upto_region 6 with fail
  refine' merge1 (fun (Y : World) X => Lat V X) ?j1 (fun Y w5 l5 => ?j2)
  case j1 =>
    obtain ⟨w3', hw3'⟩ : ∃ w3', w3' = w3 := ⟨_, rfl⟩
    rw [← hw3'] at HL3 ⊢
    clear hw3'
    have kz1 : Blk (w3'.alloc (.cells #[.int .i64 0, .int .u8 0, .int .i64 0, .int .u8 0, .int .i64 0, .int .i64 0] 43)) w3'.heap.size 43 #[.int .i64 0, .int .u8 0, .int .i64 0, .int .u8 0, .int .i64 0, .int .i64 0] := Blk.new _ _ _
    have KZ := hid kz1
    have kz2 : Blk (w3'.drew.alloc (.cells #[.int .i64 0, .int .u8 0, .int .i64 0, .int .u8 0, .int .i64 0, .int .i64 0] 43)) w3'.heap.size 43 #[.int .i64 0, .int .u8 0, .int .i64 0, .int .u8 0, .int .i64 0, .int .i64 0] := Blk.new w3'.drew 43 _
    have KZ2 := hid kz2
    clear kz2
    have KN : Hid (∀ X : World, Blk (X.alloc (.cells #[.int .i64 0, .int .u8 0, .int .i64 0, .int .u8 0, .int .i64 0, .int .i64 0] 43)) X.heap.size 43 #[.int .i64 0, .int .u8 0, .int .i64 0, .int .u8 0, .int .i64 0, .int .i64 0]) := hid fun X => Blk.new X 43 _
    have g13 : w3'.cell? ⟨g, 1, none⟩ = some (.int .i64 1) := (HL3.out.blk HKV.out).cell 1
    have g1z : (w3'.alloc (.cells #[.int .i64 0, .int .u8 0, .int .i64 0, .int .u8 0, .int .i64 0, .int .i64 0] 43)).cell? ⟨g, 1, none⟩ = some (.int .i64 1) := ((HL3.out.alloc _).blk HKV.out).cell 1
    clear kz1
    go_region_law (first
      | (go_simp; go_at_call 78; (with_reducible refine (HPG.out _ (HLV.out.trans (HL3.out.trans (by repeat (first | exact Lat.refl _ | refine Lat.drew ?_ | refine Lat.drewN ?_ _ | refine Lat.alloc ?_ _))))).mono ?_); rintro e2 w4 ⟨rfl, hb4⟩; have l4 : Lat w3' w4 := Lat.below (by repeat (first | exact Lat.refl _ | refine Lat.drew ?_ | refine Lat.drewN ?_ _ | refine Lat.alloc ?_ _)) hb4; have g14 : w4.cell? ⟨g, 1, none⟩ = some (.int .i64 1) := ((HL3.out.trans l4).blk HKV.out).cell 1; have g14a : (w4.alloc (.cells #[.int .i64 0, .int .u8 0, .int .i64 0, .int .u8 0, .int .i64 0, .int .i64 0] 43)).cell? ⟨g, 1, none⟩ = some (.int .i64 1) := ((HL3.out.trans (l4.alloc _)).blk HKV.out).cell 1; (try (first | have ka4 := (KZ.out.later (below_drew _)).later hb4 | have ka4 := KZ.out.later hb4 | have ka4 := KZ2.out.later hb4 | have ka4 := (KZ2.out.later (below_drew _)).later hb4)))
      | (go_simp; go_at_call 79; (with_reducible refine (HHE.out _).mono ?_); rintro e3 w7 ⟨rfl, hb7⟩; have l7 : Lat w4 w7 := Lat.below (by repeat (first | exact Lat.refl _ | refine Lat.drew ?_ | refine Lat.drewN ?_ _ | refine Lat.alloc ?_ _)) hb7; (try (first | have kb := ka4.later hb7 | have kb := (ka4.later (below_drew _)).later hb7 | have kb := (KN.out w4).later hb7 | have kb := ((KN.out w4).later (below_drew _)).later hb7 | have kb := (KN.out w4.drew).later hb7); obtain ⟨⟨b0, b1', b2', b3', b4, b5⟩, f0, f1, f2', f3, f4, f5⟩ := Pp.page_cells kb)))
    all_goals first
      | (refine ⟨w7, rfl, ?_⟩; with_reducible exact ((HL3.out.trans (l4.trans l7)).alloc _))
      | (refine ⟨w4, rfl, ?_⟩; with_reducible exact (lat_page (HL3.out.trans l4).size (HL3.out.trans (l4.trans l7)) _ _ _ _ _ _))
      | (refine ⟨w3', rfl, ?_⟩; with_reducible exact (lat_page HL3.out.size (HL3.out.trans (l4.trans l7)) _ _ _ _ _ _))
  case j2 =>
    have hl := HLV.out.trans l5
    have q2 : w5.cell? ⟨b2, 0, none⟩ = some (P nz) := (hl.blk HK2.out).cell 0
    obtain ⟨m0, m1, m2, m3, m4, m5, m6, m7⟩ := mcells (l5.blk HKV.out)
    have hh := HHR.out w5 _ _ hl (HD.out _ _ _ _ HDV.out l5)
    have HL5 := hid hl
    clear l5 hl
    go_wp2_with (go_at_call 81; refine stop_ (fun Ps hPs => ?_))
    refine hPs ?_
    clear hPs Ps m0 m1 m2 m3 m4 m5 m6 m7 q2
    refine hh.mono ?_
    rintro e' w6 ⟨A6, c6, rfl, tag6, ht6, hn6, hb6⟩
    obtain ⟨k36, hfin⟩ := recv_fin HT.out HL5.out HK3.out HLO.out.1 HLO.out.2.1 HLO.out.2.2 ht6 hn6 hb6
    have c3 : w6.cell? ⟨b3, 0, none⟩ = some (.slice none 0 0) := k36.cell 0
    have f3 : w6.frozen? ⟨b3, 0, none⟩ = false := k36.frozen 0
    have HF := hid hfin
    clear k36 hfin ht6 hn6 hb6 hh
    go_wp2_with fail
    go_ret
    exact HF.out
end Go.Proofs.YtbpnbcjgkbpmgaaGreat
namespace Go.Proofs.YtbpnbcjgkbpmgaaGreat
open Go.RowKit Go.Lg Ds St
set_option linter.unusedVariables false
set_option linter.unusedSimpArgs false
attribute [local go_sem] field190 field43_0 field43_1 field43_2
set_option maxHeartbeats 2000000 in
set_option maxRecDepth 100000 in
theorem ndrecv45 {w : World} {tag : Nat → Nat} {t dz nz z B B' : Nat} {num most ac kn ac' kn' : Int} {pro : Nat} {cs cs' : List Cmt} {bs : List Bys} {k ro en fr pv : Int} {A : Option Addr} {n c : Nat} (D : World → Value → Value → Prop) (hD : ∀ X X' vS vC, D X vS vC → Lat X X' → D X' vS vC) (hDs : ∀ X vS vC, D X vS vC → ∃ A1 n1 c1 A2 n2 c2, vS = .slice A1 n1 c1 ∧ vC = .slice A2 n2 c2)
    (hT : Tidy w tag) (h : NM w tag t dz nz z num most ac kn ⟨1, pro, 0, 0, 0, 0⟩ cs B) (hpro : pro = 1 ∨ pro = 2)
    (hdec : ∀ X, Lat w X → Calls Tryz.prog 77 #[.slice A n c] X fun e w' => ∃ vS vC, e = .returned (.tuple #[.agg (msgc k 1 ro en vS fr pv vC), .int .i64 0]) ∧ D w' vS vC ∧ Below X.heap.size X w')
    (hhr : ∀ X vS vC, Lat w X → D X vS vC → Calls Tryz.prog 81 #[P nz, P z, .agg (msgc k 1 ro en vS fr pv vC)] X (HrR tag t dz nz z num most ac' kn' ⟨1, pro, 0, 0, 0, 0⟩ cs' B' bs X)) :
    Calls Tryz.prog 45 #[P nz, .slice A n c] w (HrR tag t dz nz z num most ac' kn' ⟨1, pro, 0, 0, 0, 0⟩ cs' B' bs w) := by
  have hmf : ∀ (fn : Fn) (first cap : Array Value) (w : World), (Instr.makeFunc fn first cap).run Tryz.prog w = .ok (.func fn first cap) w := fun _ _ _ _ => rfl
  obtain ⟨W, hW⟩ : ∃ W, W = ((w.alloc (.cells #[P nz] 65)).alloc (.cells #[.slice A n c] 80)).alloc (.cells #[.slice none 0 0] 105) := ⟨_, rfl⟩
  have lW : Lat w W := by rw [hW]; exact (((Lat.refl w).alloc _).alloc _).alloc _
  have k2 : Blk W w.heap.size 65 #[P nz] := by rw [hW]; exact ((Blk.new w 65 _).alloc _).alloc _
  have k1 : Blk W (w.heap.size + 1) 80 #[.slice A n c] := by
    rw [hW]
    have := (Blk.new (w.alloc (.cells #[P nz] 65)) 80 #[.slice A n c]).alloc (.cells #[.slice none 0 0] 105)
    simpa using this
  have k3 : Blk W (w.heap.size + 2) 105 #[.slice none 0 0] := by
    rw [hW]
    have := Blk.new ((w.alloc (.cells #[P nz] 65)).alloc (.cells #[.slice A n c] 80)) 105 #[.slice none 0 0]
    simpa using this
  have hWs : W.heap.size = w.heap.size + 3 := by rw [hW]; simp
  have hW1 := h.later lW
  have hTW : Tidy W tag := hT.below lW.size
  have hb := nddo75 (fn := 76) (caps := #[P (w.heap.size + 1), P w.heap.size, P (w.heap.size + 2)]) (er := 0) (R := RcR tag t dz nz z num most ac' kn' ⟨1, pro, 0, 0, 0, 0⟩ cs' B' bs (w.heap.size + 2)) hW1.blk.1 (by decide) (fun X l => nm_on hW1 l) (fun args w => rfl) (fun X l =>
    ndrecv76 D hD hDs (hTW.below l.size) (hW1.later l) hpro (fun Y ly => hdec Y ((lW.trans l).trans ly)) (fun Y vS vC ly hd => hhr Y vS vC ((lW.trans l).trans ly) hd) (l.blk k1) (l.blk k2) (l.blk k3) (fun j hj => hT j (by omega)) (by omega) (hT _ (by omega)))
  have q2 : W.cell? ⟨w.heap.size, 0, none⟩ = some (P nz) := k2.cell 0
  have HL := hid lW
  have HS := hid hWs
  clear h k1 k2 k3 hW1 lW hTW hdec hhr hD hDs
  go_enter Tryz.func45, Tryz.ntmps45
  go_upto_region 1 with fail
  rw [← hW]
  clear hW
  go_wp2_with (go_at_call 75; refine stop_ (fun Ps hPs => ?_))
  refine hPs ?_
  clear hPs Ps
  refine hb.mono ?_
  rintro e' w' ⟨rfl, X, w1, l, ⟨A9, c9, tag', ht, hn, hbb, kb⟩, hs, hm2⟩
  have hsz := HS.out
  have hXs := l.size
  have hXw := (HL.out.trans l).size
  have k9 : Blk w' (w.heap.size + 2) 105 #[.slice A9 bs.length c9] := (hm2.block _ kb.lt (fun h4 => by have h5 : W.heap.size ≤ w.heap.size + 2 := h4.1; omega)).trans kb
  have h0 := (ht.turn hT (HL.out.trans l) (by omega)).box hm2 fun k hk => by have h5 := hk.1; omega
  have hn9 := hn.box hm2 fun k hk => by
    rw [ht.old k hk.2]
    exact hT k (by have h5 := hk.1; omega)
  have hb9 := (hbb.mv (hm2.mv fun k a b => by have h5 := a.1; have h6 := b.2; omega)).to (G := Own0 w.heap.size tag') fun k hk => ⟨Nat.le_trans hXw hk.1, hk.2⟩
  have t9 : tag' (w.heap.size + 2) = 0 := (ht.old _ (by omega)).trans (hT _ (by omega))
  have hm := mod_set w' (w.heap.size + 2) 0 (.slice A9 bs.length c9)
  have hbf : Bb (w'.setCell ⟨w.heap.size + 2, 0, none⟩ (.slice A9 bs.length c9)) (Own0 w.heap.size tag') (.slice A9 bs.length c9) bs := by
    obtain ⟨vs, row, el⟩ := hb9
    exact ⟨vs, Sl.setz row k9 (by decide) 0 _, fun j b hj => by obtain ⟨A, c, h6, h7⟩ := el j b hj; exact ⟨A, c, h6, Sl.setz h7 k9 (by decide) 0 _⟩⟩
  have c3 : w'.cell? ⟨w.heap.size + 2, 0, none⟩ = some (.slice A9 bs.length c9) := k9.cell 0
  have c3' : w'.cell? ⟨w.heap.size + 1 + 1, 0, none⟩ = some (.slice A9 bs.length c9) := k9.cell 0
  have f3 : w'.frozen? ⟨w.heap.size + 1 + 1, 0, none⟩ = false := k9.frozen 0
  have c4 : (w'.setCell ⟨w.heap.size + 1 + 1, 0, none⟩ (.slice A9 bs.length c9)).cell? ⟨w.heap.size + 1 + 1, 0, none⟩ = some (.slice A9 bs.length c9) := (k9.set_ 0 (.slice A9 bs.length c9)).cell 0
  have H1 := hid (h0.box hm fun k hk => by subst hk; omega)
  have H2 := hid (hn9.box hm fun k hk => by subst hk; exact t9)
  have H3 := hid hbf
  clear hb q2 ht hn hbb kb hs hm2 h0 hn9 hb9 hm hbf k9 hsz hXs hXw l
  go_wp2_with fail
  refine bodyPost_ret (by simp [results, Tryz.results45, go_sem, c4]; try rfl) rfl ?_
  exact ⟨A9, c9, rfl, tag', H1.out, H2.out, H3.out⟩
end Go.Proofs.YtbpnbcjgkbpmgaaGreat
namespace Go.Proofs.YtbpnbcjgkbpmgaaGreat
open Go.RowKit Go.Lg Ds St
set_option linter.unusedVariables false
set_option linter.unusedSimpArgs false
attribute [local go_sem] field190 field43_0 field43_1 field43_2
structure Ps where
  p : Pg
  cs : List Cmt
  ac : Int
  kn : Int
  B : Nat
structure Wz where
  (d0 n0 z0 d1 n1 z1 lz : Nat)
inductive WM (w : World) (tag : Nat → Nat) (zw : Nat) (most : Int) (q : Wz) (s0 s1 : Ps) (last : Int) (ks : List Lk.Key) : Prop
  | mk (vA : Value) (ms : List Cm) (blk : Blk w zw 71 (wdc most q.d0 q.n0 q.d1 q.n1 q.lz vA)) (hz : tag zw = 23) (m0 : NM w tag 0 q.d0 q.n0 q.z0 0 most s0.ac s0.kn s0.p s0.cs s0.B) (m1 : NM w tag 10 q.d1 q.n1 q.z1 1 most s1.ac s1.kn s1.p s1.cs s1.B) (lk : LK w tag 21 q.lz last ks) (an : Cl w (Ow tag 22) vA ms) (hA : ms.length ≤ s0.cs.length)
def Wp : Nat → Prop := fun i => 1 ≤ i ∧ i ≤ 23
theorem wp_0 : ¬Wp 0 := by unfold Wp; omega
section
variable {w w' : World} {tag tag' : Nat → Nat} {zw : Nat} {most : Int} {q : Wz} {s0 s1 : Ps} {last : Int} {ks : List Lk.Key}
theorem WM.mv (h : WM w tag zw most q s0 s1 last ks) (hs : w.heap.size ≤ w'.heap.size) (m : ∀ i, Wp i → Mv w w' (Ow tag i) (Ow tag' i)) : WM w' tag' zw most q s0 s1 last ks := by
  obtain ⟨vA, ms, blk, hz, m0, m1, lk, an, hA⟩ := h
  have hb := m 23 (by unfold Wp; omega) zw blk.lt hz
  exact ⟨vA, ms, hb.2.trans blk, hb.1, m0.mv fun i hi => m i (by unfold Pr6 at hi; unfold Wp; omega), m1.mv fun i hi => m i (by unfold Pr6 at hi; unfold Wp; omega), lk.mv hs (m 21 (by unfold Wp; omega)), an.mv (m 22 (by unfold Wp; omega)), hA⟩
theorem WM.later (h : WM w tag zw most q s0 s1 last ks) (l : Lat w w') : WM w' tag zw most q s0 s1 last ks := h.mv l.size fun i _ => bmv l.b _
theorem WM.box {F : Fp} (h : WM w tag zw most q s0 s1 last ks) (m : Mod F w w') (hF : ∀ k, F k → tag k = 0) : WM w' tag zw most q s0 s1 last ks := h.mv m.size fun i hp => m.mv fun k a b => by
  have h1 : tag k = i := a
  have h2 := hF k b
  rw [← h1, h2] at hp
  exact wp_0 hp
end
abbrev didv (er nr : Int) (sv : ByteArray) (tb : Bool) (v : Value) : Value := .agg #[.int .i64 er, .int .i64 nr, .string sv, .bool tb, v]
abbrev noStr : ByteArray := ⟨#[]⟩
theorem didcells {w : World} {z : Nat} {er nr : Int} {sv : ByteArray} {tb : Bool} {v : Value} (h : Blk w z 34 #[.int .i64 er, .int .i64 nr, .string sv, .bool tb, v]) :
    (w.cell? ⟨z, 0, none⟩ = some (.int .i64 er) ∧ w.cell? ⟨z, 1, none⟩ = some (.int .i64 nr) ∧ w.cell? ⟨z, 2, none⟩ = some (.string sv) ∧ w.cell? ⟨z, 3, none⟩ = some (.bool tb) ∧ w.cell? ⟨z, 4, none⟩ = some v) ∧
    (w.frozen? ⟨z, 0, none⟩ = false ∧ w.frozen? ⟨z, 1, none⟩ = false ∧ w.frozen? ⟨z, 2, none⟩ = false ∧ w.frozen? ⟨z, 3, none⟩ = false ∧ w.frozen? ⟨z, 4, none⟩ = false) :=
  ⟨⟨h.cell 0, h.cell 1, h.cell 2, h.cell 3, h.cell 4⟩, h.frozen 0, h.frozen 1, h.frozen 2, h.frozen 3, h.frozen 4⟩
abbrev setd (X : World) (z : Nat) (er nr : Int) (sv : ByteArray) (tb : Bool) (v : Value) : World :=
  ((((X.setCell ⟨z, 0, none⟩ (.int .i64 er)).setCell ⟨z, 1, none⟩ (.int .i64 nr)).setCell ⟨z, 2, none⟩ (.string sv)).setCell ⟨z, 3, none⟩ (.bool tb)).setCell ⟨z, 4, none⟩ v
abbrev did0 : Array Value := #[.int .i64 0, .int .i64 0, .string noStr, .bool false, .slice none 0 0]
theorem did_set {X : World} {z : Nat} (er nr : Int) (sv : ByteArray) (tb : Bool) (v : Value) (h : Blk X z 34 did0) : Blk (setd X z er nr sv tb v) z 34 #[.int .i64 er, .int .i64 nr, .string sv, .bool tb, v] ∧ Mod (fun k => k = z) X (setd X z er nr sv tb v) :=
  ⟨((((h.set_ 0 (.int .i64 er)).set_ 1 (.int .i64 nr)).set_ 2 (.string sv)).set_ 3 (.bool tb)).set_ 4 v, mod_setc (mod_setc (mod_setc (mod_setc (mod_setc (Mod.refl _ _) 0 _) 1 _) 2 _) 3 _) 4 _⟩
set_option maxHeartbeats 1000000 in
set_option maxRecDepth 100000 in
theorem wtold22 (nr er : Int) (w : World) : Calls Tryz.prog 22 #[.int .i64 nr, .int .i64 er] w fun e w' => e = .returned (didv er nr noStr false (.slice none 0 0)) ∧ Below w.heap.size w w' := by
  obtain ⟨W, hW⟩ : ∃ W, W = w.alloc (.cells did0 34) := ⟨_, rfl⟩
  have lW : Lat w W := by rw [hW]; exact (Lat.refl w).alloc _
  have kW : Blk W w.heap.size 34 did0 := by rw [hW]; exact Blk.new _ _ _
  obtain ⟨hk, hm⟩ := did_set er nr noStr false (.slice none 0 0) kW
  obtain ⟨⟨c0, c1, c2, c3, c4⟩, f0, f1, f2, f3, f4⟩ := didcells kW
  obtain ⟨⟨d0, d1, d2, d3, d4⟩, _⟩ := didcells hk
  have HB := hid (Below.trans_mod lW.b hm (Nat.le_refl _) lW.size)
  clear lW kW hk hm
  go_enter Tryz.func22, Tryz.ntmps22
  go_upto_region 1 with fail
  rw [← hW]
  clear hW
  go_wp2_with fail
  refine bodyPost_ret (by simp [results, Tryz.results22, go_sem, d0, d1, d2, d3, d4]; try rfl) rfl ?_
  exact ⟨rfl, HB.out⟩
set_option maxHeartbeats 1000000 in
set_option maxRecDepth 100000 in
theorem wnone21 {w : World} {zw d0 n0 d1 n1 lz : Nat} {most : Int} {vA : Value} (h : Blk w zw 71 (wdc most d0 n0 d1 n1 lz vA)) (m1 : 1 ≤ most) : Calls Tryz.prog 21 #[P zw] w (Asked false w) := by
  have c0 := (wdcells h).1
  have q0 : ¬most = 0 := by omega
  have q1 : decide (most = 0) = false := by simp; omega
  have q2 : (most == 0) = false := by simp; omega
  clear h
  go_enter Tryz.func21, Tryz.ntmps21
  go_wp2_with fail
  all_goals (go_ret; exact asked_eq rfl)
set_option maxHeartbeats 1000000 in
set_option maxRecDepth 100000 in
theorem wis27 {w : World} {zw d0 n0 d1 n1 lz : Nat} {most : Int} {vA : Value} (h : Blk w zw 71 (wdc most d0 n0 d1 n1 lz vA)) (m1 : 1 ≤ most) (nd : Int) : Calls Tryz.prog 27 #[P zw, .int .i64 nd] w (Asked (decide (nd = 0 ∨ nd = 1)) w) := by
  have hn := wnone21 h m1
  clear h
  by_cases h0 : nd = 0
  · subst h0
    go_enter Tryz.func27, Tryz.ntmps27
    go_wp2_with (go_at_call 21; (with_reducible refine hn.mono ?_); rintro e' w1 ⟨rfl, rfl⟩)
    all_goals (go_ret; exact asked_eq rfl)
  · by_cases h1 : nd = 1
    · subst h1
      go_enter Tryz.func27, Tryz.ntmps27
      go_wp2_with (go_at_call 21; (with_reducible refine hn.mono ?_); rintro e' w1 ⟨rfl, rfl⟩)
      all_goals (go_ret; exact asked_eq rfl)
    · have hd : decide (nd = 0 ∨ nd = 1) = false := by simp; exact ⟨h0, h1⟩
      rw [hd]
      have q0 : (nd == 0) = false := by simp [h0]
      have q1 : (nd == 1) = false := by simp [h1]
      clear hd
      go_enter Tryz.func27, Tryz.ntmps27
      go_wp2_with (go_at_call 21; (with_reducible refine hn.mono ?_); rintro e' w1 ⟨rfl, rfl⟩)
      all_goals (go_ret; exact asked_eq rfl)
end Go.Proofs.YtbpnbcjgkbpmgaaGreat
namespace Go.Proofs.YtbpnbcjgkbpmgaaGreat
open Go.RowKit Go.Lg Ds St
set_option linter.unusedVariables false
set_option linter.unusedSimpArgs false
attribute [local go_sem] field190 field43_0 field43_1 field43_2
theorem due_len {ro : Nat} {cs : List Cmt} {kn : Int} (h1 : One 0 cs) : (∀ b ∈ (dueM ro cs kn).map Msg.enc, b.length ≤ 10000) ∧ ((dueM ro cs kn).map Msg.enc).length ≤ 2 := by
  constructor
  · intro b hb
    obtain ⟨m, hm, rfl⟩ := List.mem_map.1 hb
    unfold dueM at hm
    rcases List.mem_cons.1 hm with rfl | hm
    · unfold hloM Msg.enc
      have a1 := Pp.encN_le [1, 1, ro, cs.length, (st1 cs.length).length]
      have a2 := encS_le (st1 cs.length)
      have a3 := st1_len cs.length
      rw [List.length_append]
      simp only [List.length_cons, List.length_nil] at a1
      omega
    · split at hm
      · obtain rfl := List.mem_singleton.1 hm
        generalize min kn.toNat cs.length = k
        unfold shpM Msg.enc
        have a1 := Pp.encN_le [2, 1, k + 1, (if k = 0 then 0 else 1), ((cs.drop k).take 4).length]
        have a2 := encCs_le ((cs.drop k).take 4) (fun c hc => (h1.mem (List.mem_of_mem_drop (List.mem_of_mem_take hc))).1)
        have a3 : ((cs.drop k).take 4).length ≤ 4 := by rw [List.length_take]; omega
        rw [List.length_append]
        simp only [List.length_cons, List.length_nil] at a1
        omega
      · cases hm
  · unfold dueM
    split <;> simp
def ADid (tag : Nat → Nat) (zw : Nat) (most : Int) (q : Wz) (er nr : Int) (sv : ByteArray) (tb : Bool) (N : Nat) (s0 s1 : Ps) (last : Int) (ks : List Lk.Key) (w : World) (e : Ending) (w' : World) : Prop :=
  ∃ v n xs tag', e = .returned (didv er nr sv tb v) ∧ Turn Wp w tag w' tag' ∧ WM w' tag' zw most q s0 s1 last ks ∧ Sl w' (Own0 w.heap.size tag') 3 1 v n xs ∧ n ≤ N ∧ ∀ u ∈ xs, u.oneCell' = true
theorem adid_fin {w W X : World} {tag tag' : Nat → Nat} {zw : Nat} {most : Int} {q : Wz} {er nr : Int} {sv : ByteArray} {tb : Bool} {N : Nat} {s0 s1 : Ps} {last : Int} {ks : List Lk.Key} {v : Value} {n bx : Nat} {xs : List Value} (hT : Tidy w tag) (lW : Lat w W) (hbx : w.heap.size ≤ bx) (kb : Blk W bx 34 did0)
    (ht : Turn Wp W tag X tag') (h : WM X tag' zw most q s0 s1 last ks) (hv : Sl X (Own0 w.heap.size tag') 3 1 v n xs) (hn : n ≤ N) (h1c : ∀ u ∈ xs, u.oneCell' = true) :
    (∀ (w' : World), w' = setd X bx er nr sv tb v → ADid tag zw most q er nr sv tb N s0 s1 last ks w (.returned (didv er nr sv tb v)) w') ∧ Blk (setd X bx er nr sv tb v) bx 34 #[.int .i64 er, .int .i64 nr, .string sv, .bool tb, v] ∧ Blk X bx 34 did0 := by
  have h0 : tag bx = 0 := hT bx hbx
  have kX : Blk X bx 34 did0 := ht.blk kb (by rw [h0]; exact wp_0)
  have h0' : tag' bx = 0 := (ht.old bx kb.lt).trans h0
  obtain ⟨hk, hm⟩ := did_set er nr sv tb v kX
  refine ⟨fun w' hw => ?_, hk, kX⟩
  subst hw
  have hvs : Sl (setd X bx er nr sv tb v) (Own0 w.heap.size tag') 3 1 v n xs := by
    have b0 := kX
    have c0 := Sl.setz hv b0 (by decide) 0 (.int .i64 er)
    have b1 := b0.set_ 0 (.int .i64 er)
    have c1 := Sl.setz c0 b1 (by decide) 1 (.int .i64 nr)
    have b2 := b1.set_ 1 (.int .i64 nr)
    have c2 := Sl.setz c1 b2 (by decide) 2 (.string sv)
    have b3 := b2.set_ 2 (.string sv)
    have c3 := Sl.setz c2 b3 (by decide) 3 (.bool tb)
    have b4 := b3.set_ 3 (.bool tb)
    exact Sl.setz c3 b4 (by decide) 4 v
  exact ⟨v, n, xs, tag', rfl, ((lW.turn hT Wp).trans ht).box hm fun k hk => by subst hk; exact hbx, h.box hm fun k hk => by subst hk; exact h0', hvs, hn, h1c⟩
theorem WM.link {w w' : World} {tag tag' : Nat → Nat} {zw : Nat} {most : Int} {q : Wz} {s0 s1 : Ps} {last last' : Int} {ks ks' : List Lk.Key} (h : WM w tag zw most q s0 s1 last ks) (ht : Turn (fun k => k = 21) w tag w' tag') (lk' : LK w' tag' 21 q.lz last' ks') : WM w' tag' zw most q s0 s1 last' ks' := by
  obtain ⟨vA, ms, blk, hz, m0, m1, lk, an, hA⟩ := h
  exact ⟨vA, ms, ht.blk blk (by rw [hz]; decide), (ht.old zw blk.lt).trans hz, m0.turn ht (fun i hi => by subst hi; unfold Pr6; omega), m1.turn ht (fun i hi => by subst hi; unfold Pr6; omega), lk', an.mv (ht.mv (by decide)), hA⟩
set_option maxHeartbeats 2000000 in
set_option maxRecDepth 100000 in
theorem wtick51 {w : World} {tag : Nat → Nat} {zw : Nat} {most : Int} {q : Wz} {s0 s1 : Ps} {last : Int} {ks : List Lk.Key} (nd : Nat) (hnd : nd ≤ 1) (ro : Nat) (hro : ro = 1 ∨ ro = 2) (cs : List Cmt) (kn : Int) (hT : Tidy w tag) (h : WM w tag zw most q s0 s1 last ks)
    (hs : (if nd = 0 then s0 else s1).p = ⟨1, ro, 0, 0, 0, 0⟩ ∧ (if nd = 0 then s0 else s1).cs = cs ∧ (if nd = 0 then s0 else s1).kn = kn) (h1 : One 0 cs) (hcs : cs.length ≤ 1000) (l0 : 0 ≤ last) (l1 : last ≤ 1000000000) :
    Calls Tryz.prog 51 #[P zw, .int .i64 (nd : Int)] w (ADid tag zw most q 0 0 noStr false 2 s0 s1 (postL (1 - (nd : Int)) ((dueM ro cs kn).map Msg.enc) (last, ks)).1 (postL (1 - (nd : Int)) ((dueM ro cs kn).map Msg.enc) (last, ks)).2 w) := by
  obtain ⟨W, hW⟩ : ∃ W, W = w.alloc (.cells did0 34) := ⟨_, rfl⟩
  have lW : Lat w W := by rw [hW]; exact (Lat.refl w).alloc _
  have kW : Blk W w.heap.size 34 did0 := by rw [hW]; exact Blk.new _ _ _
  have hTW := hT.below lW.size
  have hWW := h.later lW
  have hlen := due_len (ro := ro) (kn := kn) h1
  obtain ⟨bs, hbs⟩ : ∃ bs, bs = (dueM ro cs kn).map Msg.enc := ⟨_, rfl⟩
  rw [← hbs] at hlen ⊢
  have hWM := hWW
  obtain ⟨vA, ms, blk, hz, mm0, mm1, lk, an, hA⟩ := hWW
  obtain ⟨ndp, hndp⟩ : ∃ ndp : Nat, ndp = if nd = 0 then q.n0 else q.n1 := ⟨_, rfl⟩
  have htk : Calls Tryz.prog 87 #[P ndp] W fun e w' => ∃ v, e = .returned (.tuple #[v, .int .i64 0]) ∧ Bb w' (fun k => W.heap.size ≤ k) v bs ∧ Below W.heap.size W w' := by
    rw [hbs, hndp]
    by_cases hn0 : nd = 0
    · rw [if_pos hn0] at hs ⊢
      obtain ⟨e1, e2, e3⟩ := hs
      rw [e1, e2, e3] at mm0
      exact ndtick87 mm0 h1 hcs hro
    · rw [if_neg hn0] at hs ⊢
      obtain ⟨e1, e2, e3⟩ := hs
      rw [e1, e2, e3] at mm1
      exact ndtick87 mm1 h1 hcs hro
  have hpo : ∀ X A c, Lat W X → Bb X (fun k => W.heap.size ≤ k) (.slice A bs.length c) bs → Calls Tryz.prog 46 #[P zw, .int .i64 (nd : Int), .slice A bs.length c] X _ := fun X A c l hb => wpost46 nd hnd (hTW.below l.size) (l.blk blk) hz (lk.later l.b) l0 l1 (hb.to fun k hk => hTW k hk) (by have := hlen.2; omega) (fun b hb => by have := hlen.1 b hb; omega)
  obtain ⟨c0, c1, c2, c3, c4, c5, c6⟩ := wdcells blk
  have HPO := hid hpo
  have HW := hid hWM
  have HL := hid lW
  have HK := hid kW
  have HT := hid hT
  have HN := hid hlen.2
  clear hpo hWM blk mm0 mm1 lk an lW kW hT hTW hs h1 hlen h hbs
  rcases (show nd = 0 ∨ nd = 1 by omega) with rfl | rfl
  all_goals
    first | rw [if_pos rfl] at hndp | rw [if_neg (by decide)] at hndp
    subst hndp
    go_enter Tryz.func51, Tryz.ntmps51
    go_upto_region 1 with fail
    rw [← hW]
    clear hW
    go_wp2_with (first
      | (go_at_call 87; (with_reducible refine htk.mono ?_); rintro e' w1 ⟨v1, rfl, hb1, hbl1⟩; obtain ⟨A1, m1, hv1, _⟩ := hb1.len; have l1 : Lat W w1 := ⟨hbl1⟩; subst hv1; have hpp := HPO.out w1 A1 m1 l1 hb1; have HL1 := hid l1; clear hb1 hbl1 l1)
      | (go_at_call 46; refine stop_ (fun Ps hPs => ?_)))
    refine hPs ?_
    clear hPs Ps
    refine hpp.mono ?_
    rintro e' w2 ⟨v2, n2, xs, rfl, tag2, ht2, lk2, sl2, hn2, hone⟩
    obtain ⟨A2, c2', rfl, _, _⟩ := sl2.slice_
    have htX : Turn Wp W tag w2 tag2 := (HL1.out.turn (HT.out.below HL.out.size) Wp).trans (ht2.more fun i hi => by subst hi; unfold Wp; omega)
    have hls := Nat.le_trans HL.out.size HL1.out.size
    obtain ⟨hfin, hkf, hkx⟩ := adid_fin (er := 0) (nr := 0) (sv := noStr) (tb := false) (N := 2) HT.out HL.out (Nat.le_refl _) HK.out htX ((HW.out.later HL1.out).link ht2 lk2) (sl2.to fun k hk => ⟨Nat.le_trans hls hk.1, hk.2⟩) (by have := HN.out; omega) hone
    obtain ⟨⟨x0, x1, x2, x3, x4⟩, f0, f1, f2, f3, f4⟩ := didcells hkx
    obtain ⟨⟨d0, d1, d2, d3, d4⟩, _⟩ := didcells hkf
    have HF := hid hfin
    clear hfin hkf hkx ht2 lk2 sl2 htX hls hpp htk hn2 hone c0 c1 c2 c3 c4 c5 c6
    go_wp2_with fail
    refine bodyPost_ret (by simp [results, Tryz.results51, go_sem, d0, d1, d2, d3, d4]; try rfl) rfl ?_
    exact HF.out _ rfl
end Go.Proofs.YtbpnbcjgkbpmgaaGreat
