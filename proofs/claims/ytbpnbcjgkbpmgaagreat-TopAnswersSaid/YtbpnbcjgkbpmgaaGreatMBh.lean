/- A primary answers without waiting for the other site, as many times as its leash allows: of any acts. No condition. (part 34) -/
import Derived.Test.YtbpnbcjgkbpmgaaGreatMAx
import Derived.Test.YtbpnbcjgkbpmgaaGreatMBg
namespace Go.Proofs.YtbpnbcjgkbpmgaaGreat
open Go.RowKit Go.Lg Ds St
set_option linter.unusedVariables false
set_option linter.unusedSimpArgs false
attribute [local go_sem] field190 field43_0 field43_1 field43_2
set_option maxHeartbeats 2000000 in
set_option maxRecDepth 100000 in
theorem ndpage92 {w : World} {tag : Nat → Nat} {t dz nz z B : Nat} {num most ac kn : Int} {p : Pg} {cs : List Cmt} (h : NM w tag t dz nz z num most ac kn p cs B) :
    Calls Tryz.prog 92 #[P nz] w fun e w' => e = .returned p.v ∧ Below w.heap.size w w' := by
  obtain ⟨a1, a2, a3, a4, a5, a6⟩ := p
  obtain ⟨W, hW⟩ : ∃ W, W = w.alloc (.cells #[.int .i64 0, .int .u8 0, .int .i64 0, .int .u8 0, .int .i64 0, .int .i64 0] 43) := ⟨_, rfl⟩
  have lW : Lat w W := by rw [hW]; exact (Lat.refl w).alloc _
  have kW : Blk W w.heap.size 43 #[.int .i64 0, .int .u8 0, .int .i64 0, .int .u8 0, .int .i64 0, .int .i64 0] := by rw [hW]; exact Blk.new _ _ _
  have hW1 := h.later lW
  have hup := ndup44 hW1.blk.1
  obtain ⟨wz, rz, sz, n, es, fs, sm, blk, _⟩ := hW1
  have hPG := stpage78 sm.sb
  obtain ⟨c0, c1, c2, c3, c4, c5⟩ := ndcells blk
  have HL := hid lW
  have HK := hid kW
  clear h sm blk lW kW
  go_enter Tryz.func92, Tryz.ntmps92
  go_upto_region 1 with fail
  rw [← hW]
  clear hW
  go_wp2_with (first
    | (go_at_call 44; (with_reducible refine hup.mono ?_); rintro e' w1 ⟨rfl, rfl⟩)
    | (go_at_call 78; refine stop_ (fun Ps hPs => ?_)))
  refine hPs ?_
  clear hPs Ps
  refine hPG.mono ?_
  rintro e' w2 ⟨rfl, hb2⟩
  have k2 := HK.out.later hb2
  obtain ⟨⟨e0, e1, e2, e3, e4, e5⟩, f0, f1, f2, f3, f4, f5⟩ := Pp.page_cells k2
  have q0 := k2.set_ 0 (.int .i64 a1)
  have q1 := q0.set_ 1 (.int .u8 a2)
  have q2 := q1.set_ 2 (.int .i64 a3)
  have q3 := q2.set_ 3 (.int .u8 a4)
  have q4 := q3.set_ 4 (.int .i64 a5)
  have q5 := q4.set_ 5 (.int .i64 a6)
  obtain ⟨⟨d0, d1, d2, d3, d4, d5⟩, g0, g1, g2, g3, g4, g5⟩ := Pp.page_cells q5
  have HB := hid (HL.out.below hb2).b
  clear hPG hup k2 q0 q1 q2 q3 q4 q5 hb2
  go_wp2_with fail
  refine bodyPost_ret (by simp [results, Tryz.results92, go_sem, d0, d1, d2, d3, d4, d5]; try rfl) rfl ?_
  refine ⟨rfl, ?_⟩
  repeat (first | (with_reducible exact HB.out) | (with_reducible refine Below.setCell ?_ (by simp) _))
theorem nd_set4 {X : World} {nz dz z : Nat} {num most ac ac' kn : Int} (h : Blk X nz 149 (ndc num most dz z ac' kn)) : Blk (X.setCell ⟨nz, 4, none⟩ (.int .i64 ac)) nz 149 (ndc num most dz z ac kn) := h.set_ 4 _
theorem nd_set5 {X : World} {nz dz z : Nat} {num most ac kn kn' : Int} (h : Blk X nz 149 (ndc num most dz z ac kn')) : Blk (X.setCell ⟨nz, 5, none⟩ (.int .i64 kn)) nz 149 (ndc num most dz z ac kn) := h.set_ 5 _
theorem blk_drew {X : World} {g : Nat} {ty : TypeId} {cs : Array Value} (h : Blk X g ty cs) : Blk X.drew g ty cs := h.later (below_drew X)
theorem blk_far {X : World} {g b i : Nat} {ty : TypeId} {cs : Array Value} {v : Value} (hne : g ≠ b) (h : Blk X g ty cs) : Blk (X.setCell ⟨b, i, none⟩ v) g ty cs := h.far (p := ⟨b, i, none⟩) hne v
theorem blk_one {X : World} {g : Nat} {v v' : Value} {ty : TypeId} (h : Blk X g ty #[v']) : Blk (X.setCell ⟨g, 0, none⟩ v) g ty #[v] := h.set_ 0 v
theorem NM.nd {w w' : World} {tag : Nat → Nat} {t dz nz z B : Nat} {num most ac kn : Int} {p : Pg} {cs : List Cmt} {ac' kn' : Int} {F : Fp} (h : NM w tag t dz nz z num most ac kn p cs B) (m : Mod F w w') (hF : ∀ k, F k → k = nz ∨ tag k = 0) (k : Blk w' nz 149 (ndc num most dz z ac' kn')) : NM w' tag t dz nz z num most ac' kn' p cs B := by
  obtain ⟨wz, rz, sz, n, es, fs, sm, blk, hz, hn, he, hw, hf, h0⟩ := h
  have mv : ∀ i, Prt t i → Mv w w' (Ow tag i) (Ow tag i) := fun i hi => m.mv fun j a b => by
    have h1 : tag j = i := a
    unfold Prt at hi
    rcases hF j b with h2 | h2
    · rw [h2, hz] at h1; omega
    · omega
  exact ⟨wz, rz, sz, n, es, fs, ⟨sm.dk.mv (mv _ (by unfold Prt; omega)), sm.wl.mv (mv _ (by unfold Prt; omega)), sm.r0.mv (mv _ (by unfold Prt; omega)), sm.sr.mv (mv _ (by unfold Prt; omega)), sm.sb.mv (mv _ (by unfold Prt; omega))⟩, k, hz, hn, he, hw, hf, h0⟩
theorem Turn.nd {w0 w w' : World} {tag0 tag : Nat → Nat} {I : Nat → Prop} {F : Fp} (h : Turn I w0 tag0 w tag) (m : Mod F w w') (hF : ∀ k, F k → I (tag k) ∨ w0.heap.size ≤ k) : Turn I w0 tag0 w' tag := by
  refine ⟨⟨m.os.trans h.md.os, m.tape.trans h.md.tape, m.output.trans h.md.output, Nat.le_trans h.size m.size, fun k hk hn => (m.block k (Nat.lt_of_lt_of_le hk h.size) (fun hf => ?_)).trans (h.md.block k hk hn)⟩, h.old, h.new, h.td.below m.size⟩
  rcases hF k hf with h1 | h1
  · rw [h.old k hk] at h1; exact hn h1
  · omega
theorem mod_drew {F : Fp} {w X : World} (h : Mod F w X) : Mod F w X.drew := h.behind (below_drew X)
theorem mod_setL {w X : World} {a b i : Nat} {v : Value} (h : Mod (fun k => k = a ∨ k = b) w X) : Mod (fun k => k = a ∨ k = b) w (X.setCell ⟨a, i, none⟩ v) := h.trans_ (Mod.setCell (p := ⟨a, i, none⟩) (.inl rfl) v)
theorem mod_setR {w X : World} {a b i : Nat} {v : Value} (h : Mod (fun k => k = a ∨ k = b) w X) : Mod (fun k => k = a ∨ k = b) w (X.setCell ⟨b, i, none⟩ v) := h.trans_ (Mod.setCell (p := ⟨b, i, none⟩) (.inr rfl) v)
abbrev pN (n : Nat) : Pg := ⟨2, 1, n, 0, 0, 0⟩
theorem promote_ok (n : Nat) (h : n ≤ 1048576) : Pp.promote p2 n = (pN n, 0) := by
  unfold Pp.promote
  rw [if_pos (by decide), if_pos (by omega), if_neg (by decide), if_neg (by decide), if_neg (by decide)]
  rfl
theorem pN_ok (n : Nat) (h : n ≤ 1048576) : Pp.Ok (pN n) := ⟨show (1 : Int) ≤ 2 by decide, show (2 : Int) ≤ 1048576 by decide, .inl ⟨rfl, show (0 : Int) ≤ (n : Int) by omega, show (n : Int) ≤ 1048576 by omega, rfl, rfl, rfl⟩⟩
structure TurnB (I : Nat → Prop) (b2 : Nat) (w : World) (tag : Nat → Nat) (w' : World) (tag' : Nat → Nat) : Prop where
  md : Mod (fun k => I (tag k) ∨ k = b2) w w'
  old : ∀ k, k < w.heap.size → tag' k = tag k
  new : ∀ k, w.heap.size ≤ k → tag' k = 0 ∨ I (tag' k)
  td : Tidy w' tag'
theorem TurnB.turn {I : Nat → Prop} {b2 : Nat} {w0 w w' : World} {tag tag' : Nat → Nat} (h : TurnB I b2 w tag w' tag') (hT : Tidy w0 tag) (l : Lat w0 w) (hb : w0.heap.size ≤ b2) : Turn I w0 tag w' tag' := by
  refine ⟨(l.mod _).trans h.md fun k hk => ?_, fun k hk => h.old k (Nat.lt_of_lt_of_le hk l.size), fun k hk => ?_, h.td⟩
  · rcases hk with h1 | h1
    · exact .inl h1
    · exact .inr (by omega)
  · rcases Nat.lt_or_ge k w.heap.size with h1 | h1
    · rw [h.old k h1]; exact .inl (hT k hk)
    · exact h.new k h1
def PrR (tag : Nat → Nat) (t dz nz z : Nat) (num most : Int) (cs : List Cmt) (B b2 : Nat) (w w' : World) : Prop :=
  ∃ tag', TurnB (Pr6 t) b2 w tag w' tag' ∧ NM w' tag' t dz nz z num most cs.length (-1) (pN cs.length) cs B ∧ w'.cell? ⟨b2, 0, none⟩ = some (.int .i64 2)
theorem prom_fin {w W : World} {tag tag' : Nat → Nat} {t dz nz z lo b2 B n wz rz sz : Nat} {num most ac kn : Int} {cs : List Cmt} {es : List Nat} {fs : Nat → Bs} {W' : World} {fr : Bys} (blk : Blk w nz 149 (ndc num most dz z ac kn)) (hz : tag nz = t + 6) (hn : n ≤ B) (he : es.length = cs.length) (hw : wlen es ≤ B) (hf : tot fs ≤ B) (h0 : fs 0 = logB cs)
    (hlo : ∀ j, lo ≤ j → tag j = 0) (h2 : b2 < lo) (t2 : tag b2 = 0) (k2 : b2 < w.heap.size) (ht : Turn (Prt t) w tag W tag') (sm : SM W tag' t dz wz rz sz z n (pN cs.length) (At (upd fs 1 (fs 1 ++ fr))) cs cs es) (hfr : fr.length ≤ 190000)
    (hk : Blk W' nz 149 (ndc num most dz z cs.length (-1))) (hb : Blk W' b2 3 #[.int .i64 2]) (m : Mod (fun k => k = nz ∨ k = b2) W W') :
    Does lo 0 (PrR tag t dz nz z num most cs (B + 200000) b2) w (.returned (.int .i64 0)) W' := by
  have b1 := ht.blk blk (by rw [hz]; unfold Prt; omega)
  have hz' : tag' nz = t + 6 := (ht.old nz blk.lt).trans hz
  have ht2 : tag' b2 = 0 := (ht.old b2 k2).trans t2
  have hnm : NM W tag' t dz nz z num most ac kn (pN cs.length) cs (B + 200000) := ⟨wz, rz, sz, n, _, _, sm, b1, hz', by omega, he, by omega, by rw [tot_upd fs 1 _ (by decide)]; omega, by simp [upd, h0]⟩
  have hj : ∀ j, lo ≤ j → ¬(j = nz ∨ j = b2) := fun j hj1 h => by
    rcases h with h | h
    · have h3 := hlo j hj1
      rw [h, hz] at h3
      omega
    · omega
  refine ⟨rfl, Nat.le_trans ht.size m.size, fun j hj1 hj2 => ?_, tag', ⟨(ht.md.more fun k hk => .inl (prt_pr6 hk)).trans m fun k hk => ?_, ht.old, fun k hk => (ht.new k hk).imp id prt_pr6, ht.td.below m.size⟩, hnm.nd m (fun k hk => ?_) hk, hb.cell 0⟩
  · rw [m.block j (Nat.lt_of_lt_of_le hj2 ht.size) (hj j hj1), ht.keep hj2 (by rw [hlo j hj1]; unfold Prt; omega)]
  · rcases hk with rfl | rfl
    · exact .inl (.inl (by rw [hz]; unfold Pr6; omega))
    · exact .inl (.inr rfl)
  · rcases hk with rfl | rfl
    · exact .inl rfl
    · exact .inr ht2
set_option maxHeartbeats 1500000 in
set_option maxRecDepth 100000 in
theorem ndprom96 {w : World} {tag : Nat → Nat} {t dz nz z lo b1 b2 B : Nat} {num most ac kn : Int} {cs : List Cmt} (hT : Tidy w tag) (h : NM w tag t dz nz z num most ac kn p2 cs B)
    (k1 : Blk w b1 65 #[P nz]) (k2 : Blk w b2 3 #[.int .i64 0]) (hlo : ∀ j, lo ≤ j → tag j = 0) (h2 : b2 < lo) (t1 : tag b1 = 0) (t2 : tag b2 = 0) (h1 : One 0 cs) (hcs : cs.length ≤ 1000) (hB : B ≤ 500000) :
    Calls Tryz.prog 96 #[P z, P b1, P b2] w (Does lo 0 (PrR tag t dz nz z num most cs (B + 200000) b2) w) := by
  obtain ⟨wz, rz, sz, n, es, fs, sm, blk, hz, hn, he, hw, hf, h0⟩ := h
  have hPG : ∀ X, Lat w X → Calls Tryz.prog 78 #[P z] X fun e w' => e = .returned (.agg #[.int .i64 1, .int .u8 2, .int .i64 0, .int .u8 0, .int .i64 0, .int .i64 0]) ∧ Below X.heap.size X w' := fun X l => stpage78 (sm.sb.mv (bmv l.b _))
  have h98 : ∀ X, Lat w X → Calls Tryz.prog 98 #[P z] X (Num0 (cs.length : Nat) X) := fun X l => stend98 (sm.sb.mv (bmv l.b _))
  have h97 : ∀ X, Calls Tryz.prog 97 #[.agg #[.int .i64 1, .int .u8 2, .int .i64 0, .int .u8 0, .int .i64 0, .int .i64 0], .int .i64 (cs.length : Nat)] X fun e w' => e = .returned (.tuple #[.agg #[.int .i64 2, .int .u8 1, .int .i64 (cs.length : Nat), .int .u8 0, .int .i64 0, .int .i64 0], .int .i64 0]) ∧ Below X.heap.size X w' := fun X => by
    have := Pp.promote7 p2 (cs.length : Nat) X
    rwa [promote_ok cs.length (by omega)] at this
  have h80 : ∀ X, Lat w X → Calls Tryz.prog 80 #[P z, .agg #[.int .i64 2, .int .u8 1, .int .i64 (cs.length : Nat), .int .u8 0, .int .i64 0, .int .i64 0]] X _ := fun X l => stset80 (q := pN cs.length) (hT.below l.size) (sm.later l) (pN_ok _ (by omega)) rfl (show (1 : Int) ≠ 3 by decide) (by have := lastEp_one h1; show _ ≤ (2 : Int); omega) (by show (cs.length : Int) ≤ _; omega) (by omega) (by omega)
  have HPG := hid hPG
  have H98 := hid h98
  have H97 := hid h97
  have H80 := hid h80
  have HK1 := hid k1
  have HK2 := hid k2
  have HBK := hid blk
  have HSM := hid sm
  have HZ := hid (And.intro hz (And.intro t1 t2))
  have HN := hid (And.intro hn (And.intro hw (And.intro hf (And.intro he h0))))
  have HLO := hid hlo
  have HT := hid hT
  clear hPG h98 h97 h80 k1 k2 blk sm hz t1 t2 hn hw hf he h0 hlo hT h1
  go_enter Tryz.func96, Tryz.ntmps96
  go_upto_region 2 with (first
    | (go_at_call 78; (with_reducible refine (HPG.out _ (Lat.refl _)).mono ?_); rintro e' w1 ⟨rfl, hb1⟩; have l1 : Lat w w1 := ⟨hb1⟩; have HL1 := hid l1; clear l1 hb1)
    | (go_at_call 98; (with_reducible refine (H98.out _ HL1.out).mono ?_); rintro e' w2 ⟨rfl, rfl⟩)
    | (go_at_call 97; (with_reducible refine (H97.out _).mono ?_); rintro e' w3 ⟨rfl, hb3⟩; have l3 := HL1.out.below hb3; have HL3 := hid l3; clear l3 hb3))
  obtain ⟨V, hV⟩ : ∃ V, V = w3.alloc (.cells #[.int .i64 2, .int .u8 1, .int .i64 (cs.length : Nat), .int .u8 0, .int .i64 0, .int .i64 0] 43) := ⟨_, rfl⟩
  have lV : Lat w V := by rw [hV]; exact HL3.out.alloc _
  have kV : Blk V w3.heap.size 43 #[.int .i64 2, .int .u8 1, .int .i64 (cs.length : Nat), .int .u8 0, .int .i64 0, .int .i64 0] := by rw [hV]; exact Blk.new _ _ _
  obtain ⟨g, hg⟩ : ∃ g, g = w3.heap.size := ⟨_, rfl⟩
  have hgw : w.heap.size ≤ g := by rw [hg]; exact HL3.out.size
  rw [← hg] at kV ⊢
  rw [← hV]
  obtain ⟨⟨e0, e1, e2, e3, e4, e5⟩, f0, f1, f2, f3, f4, f5⟩ := Pp.page_cells kV
  have HLV := hid lV
  have HKV := hid kV
  clear hV lV hg kV f0 f1 f2 f3 f4 f5 HL1 HL3 HPG H97
  go_wp2_with ((go_at_call 80; refine stop_ (fun Ps hPs => ?_)))
  refine hPs ?_
  clear hPs Ps e0 e1 e2 e3 e4 e5
  refine (H80.out _ HLV.out).mono ?_
  rintro e' w8 ⟨rfl, tag8, ht8, sm8⟩
  have htw : Turn (Prt t) w tag w8 tag8 := (Turn.below (I := Prt t) HT.out HLV.out.b).trans ht8
  have kz := htw.blk HBK.out (by rw [HZ.out.1]; unfold Prt; omega)
  have kb1 := htw.blk HK1.out (by rw [HZ.out.2.1]; unfold Prt; omega)
  have kb2 := htw.blk HK2.out (by rw [HZ.out.2.2]; unfold Prt; omega)
  have kg := ht8.blk HKV.out (by rw [HT.out g hgw]; unfold Prt; omega)
  have h98 : ∀ X, Lat w8 X → Calls Tryz.prog 98 #[P z] X (Num0 (cs.length : Nat) X) := fun X l => stend98 (sm8.sb.mv (bmv l.b _))
  have q1 : w8.cell? ⟨b1, 0, none⟩ = some (P nz) := kb1.cell 0
  have q0 : w8.cell? ⟨g, 0, none⟩ = some (.int .i64 2) := kg.cell 0
  have z4 : w8.cell? ⟨nz, 4, none⟩ = some (.int .i64 ac) := kz.cell 4
  have z5 : w8.cell? ⟨nz, 5, none⟩ = some (.int .i64 kn) := kz.cell 5
  have z6 : w8.cell? ⟨b2, 0, none⟩ = some (.int .i64 0) := kb2.cell 0
  have y4 : w8.frozen? ⟨nz, 4, none⟩ = false := kz.frozen 4
  have y5 : w8.frozen? ⟨nz, 5, none⟩ = false := kz.frozen 5
  have y6 : w8.frozen? ⟨b2, 0, none⟩ = false := kb2.frozen 0
  have hne : nz ≠ b2 := fun e => by have h3 := HZ.out.1; rw [e, HZ.out.2.2] at h3; omega
  have HTW := hid htw
  have HS8 := hid sm8
  have H98' := hid h98
  have HKZ := hid kz
  have HKB := hid kb2
  have HFS := hid (encP_le (pN cs.length))
  clear htw kz kb1 kb2 kg h98 sm8 ht8 H80 H98
  go_upto_region 7 with fail
  refine' merge0 (fun X => Blk X nz 149 (ndc num most dz z cs.length (-1)) ∧ Blk X b2 3 #[.int .i64 2] ∧ Mod (fun k => k = nz ∨ k = b2) w8 X) ?i1 (fun w9 h9 => ?i2)
  case i1 =>
    go_region_law ((go_simp; go_at_call 98; (with_reducible refine (H98'.out _ (by repeat (first | exact Lat.refl _ | refine Lat.drew ?_ | refine Lat.drewN ?_ _ | refine Lat.alloc ?_ _))).mono ?_); rintro e2 w2 ⟨rfl, rfl⟩))
    all_goals
      refine ⟨rfl, ?_, ?_, ?_⟩
      · repeat (first | with_reducible exact HKZ.out | with_reducible apply blk_drew | with_reducible apply nd_set4 | with_reducible apply nd_set5 | with_reducible apply blk_far hne)
      · repeat (first | with_reducible exact HKB.out | with_reducible apply blk_drew | with_reducible apply blk_one | with_reducible apply blk_far (Ne.symm hne))
      · repeat (first | with_reducible exact Mod.refl _ _ | with_reducible apply mod_drew | with_reducible apply mod_setL | with_reducible apply mod_setR)
  obtain ⟨k9, b9, m9⟩ := h9
  have H9 := hid (And.intro k9 (And.intro b9 m9))
  clear k9 b9 m9 q0 q1 z4 z5 z6 y4 y5 y6
  go_wp2_with fail
  go_ret
  have hfr := fr_len (Pp.encP (pN cs.length))
  exact prom_fin HBK.out HZ.out.1 HN.out.1 HN.out.2.2.2.1 HN.out.2.1 HN.out.2.2.1 HN.out.2.2.2.2 HLO.out h2 HZ.out.2.2 HK2.out.lt HTW.out HS8.out (by have := HFS.out; omega) H9.out.1 H9.out.2.1 H9.out.2.2
set_option maxHeartbeats 2000000 in
set_option maxRecDepth 100000 in
theorem ndprom55 {w : World} {tag : Nat → Nat} {t dz nz z B : Nat} {num most ac kn : Int} {cs : List Cmt} (hT : Tidy w tag) (h : NM w tag t dz nz z num most ac kn p2 cs B) (h1 : One 0 cs) (hcs : cs.length ≤ 1000) (hB : B ≤ 500000) :
    Calls Tryz.prog 55 #[P nz] w fun e w' => e = .returned (.tuple #[.int .i64 2, .int .i64 0]) ∧ ∃ tag', Turn (Pr6 t) w tag w' tag' ∧ NM w' tag' t dz nz z num most cs.length (-1) (pN cs.length) cs (B + 200000) := by
  have hmf : ∀ (fn : Fn) (first cap : Array Value) (w : World), (Instr.makeFunc fn first cap).run Tryz.prog w = .ok (.func fn first cap) w := fun _ _ _ _ => rfl
  obtain ⟨W, hW⟩ : ∃ W, W = (w.alloc (.cells #[P nz] 65)).alloc (.cells #[.int .i64 0] 3) := ⟨_, rfl⟩
  have lW : Lat w W := by rw [hW]; exact ((Lat.refl w).alloc _).alloc _
  have k1 : Blk W w.heap.size 65 #[P nz] := by rw [hW]; exact (Blk.new w 65 _).alloc _
  have k2 : Blk W (w.heap.size + 1) 3 #[.int .i64 0] := by
    rw [hW]
    have := Blk.new (w.alloc (.cells #[P nz] 65)) 3 #[.int .i64 0]
    simpa using this
  have hWs : W.heap.size = w.heap.size + 2 := by rw [hW]; simp
  have hW1 := h.later lW
  have hTW : Tidy W tag := hT.below lW.size
  have hb := nddo75 (fn := 96) (caps := #[P w.heap.size, P (w.heap.size + 1)]) (er := 0) (R := PrR tag t dz nz z num most cs (B + 200000) (w.heap.size + 1)) hW1.blk.1 (by decide) (fun X l => nm_on hW1 l) (fun args w => rfl) (fun X l =>
    ndprom96 (hTW.below l.size) (hW1.later l) (l.blk k1) (l.blk k2) (fun j hj => hT j (by omega)) (by omega) (hT _ (Nat.le_refl _)) (hT _ (by omega)) h1 hcs hB)
  have q1 : W.cell? ⟨w.heap.size, 0, none⟩ = some (P nz) := k1.cell 0
  have HL := hid lW
  have HS := hid hWs
  clear h h1 k1 k2 hW1 lW hTW
  go_enter Tryz.func55, Tryz.ntmps55
  go_upto_region 2 with fail
  rw [← hW]
  clear hW
  go_wp2_with (go_at_call 75; refine stop_ (fun Ps hPs => ?_))
  refine hPs ?_
  clear hPs Ps
  refine hb.mono ?_
  rintro e' w' ⟨rfl, X, w1, l, ⟨tag', ht, hn, hc⟩, hs, hm2⟩
  have hsz := HS.out
  have hXs := l.size
  have hq : w'.cell? ⟨w.heap.size + 1, 0, none⟩ = some (.int .i64 2) := by
    have h3 : w.heap.size + 1 < w1.heap.size := by have := l.size; omega
    exact (World.cell?_of_block (a := ⟨w.heap.size + 1, 0, none⟩) (hm2.block _ h3 (fun h4 => by have h5 : W.heap.size ≤ w.heap.size + 1 := h4.1; omega))).trans hc
  have h0 := ht.turn hT (HL.out.trans l) (by omega)
  have H1 := hid (h0.box hm2 fun k hk => by have h5 := hk.1; omega)
  have H2 := hid (hn.box hm2 fun k hk => by
    rw [ht.old k hk.2]
    exact hT k (by have h5 := hk.1; omega))
  clear hb q1 ht hn hc hs hm2 h0 hsz hXs l
  go_wp2_with fail
  go_ret2
  exact ⟨rfl, tag', H1.out, H2.out⟩
end Go.Proofs.YtbpnbcjgkbpmgaaGreat
namespace Go.Proofs.YtbpnbcjgkbpmgaaGreat
open Go.RowKit Go.Lg Ds St
set_option linter.unusedVariables false
set_option linter.unusedSimpArgs false
attribute [local go_sem] field190 field43_0 field43_1 field43_2
set_option maxHeartbeats 4000000 in
set_option maxRecDepth 100000 in
theorem ndheard81_p {w : World} {tag : Nat → Nat} {t dz nz z B : Nat} {num most ac kn : Int} {cs : List Cmt} {k ro en fr pv kv na : Int} {vS vC : Value} (hna : na = max ac (min kv (cs.length : Nat))) (hkv : knw k ro en kn = (kv, true)) (hT : Tidy w tag) (h : NM w tag t dz nz z num most ac kn p1 cs B) (hm : Mok w w.heap.size (msgc k 1 ro en vS fr pv vC)) (hcs : cs.length ≤ 1000) (a1 : 0 ≤ ac) (a2 : ac ≤ cs.length) :
    Calls Tryz.prog 81 #[P nz, P z, .agg (msgc k 1 ro en vS fr pv vC)] w fun e w' => e = .returned (.tuple #[.slice none 0 0, .int .i64 0]) ∧ ∃ tag', Turn (Pr6 t) w tag w' tag' ∧ NM w' tag' t dz nz z num most na kv p1 cs B := by
  obtain ⟨W, hW⟩ : ∃ W, W = w.alloc (.cells (msgc k 1 ro en vS fr pv vC) 147) := ⟨_, rfl⟩
  have lW : Lat w W := by rw [hW]; exact (Lat.refl w).alloc _
  have kW : Blk W w.heap.size 147 (msgc k 1 ro en vS fr pv vC) := by rw [hW]; exact Blk.new _ _ _
  have hN := h.later lW
  have hkn : ∀ X, Lat w X → Calls Tryz.prog 133 #[.int .i64 1, .int .i64 kn, .agg (msgc k 1 ro en vS fr pv vC)] X fun e w' => e = .returned (.tuple #[.int .i64 kv, .bool true, .int .i64 0]) ∧ Below X.heap.size X w' := fun X l => by
    have := known133 k 1 ro en fr pv kn vS vC ((hm.keep l.b).more l.size)
    rwa [hkv] at this
  have hPG : ∀ X, Lat W X → Calls Tryz.prog 78 #[P z] X fun e w' => e = .returned (.agg #[.int .i64 1, .int .u8 1, .int .i64 0, .int .u8 0, .int .i64 0, .int .i64 0]) ∧ Below X.heap.size X w' := fun X l => by
    obtain ⟨wz, rz, sz, n, es, fs, sm, _⟩ := hN.later l
    exact stpage78 sm.sb
  have HKN := hid hkn
  have HPG := hid hPG
  have HL := hid lW
  have HK := hid kW
  have HN := hid hN
  have HT := hid hT
  have HNA := hid hna
  clear hkn hPG lW kW hN hT h hm hkv hna
  go_enter Tryz.func81, Tryz.ntmps81
  go_upto_region 1 with fail
  rw [← hW]
  clear hW
  go_upto_region 3 with ((go_at_call 78; (with_reducible refine (HPG.out _ (Lat.refl _)).mono ?_); rintro e' w1 ⟨rfl, hb1⟩))
  obtain ⟨V, hV⟩ : ∃ V, V = w1.alloc (.cells #[.int .i64 1, .int .u8 1, .int .i64 0, .int .u8 0, .int .i64 0, .int .i64 0] 43) := ⟨_, rfl⟩
  have lV : Lat W V := by rw [hV]; exact (Lat.mk hb1).alloc _
  have kV : Blk V w1.heap.size 43 #[.int .i64 1, .int .u8 1, .int .i64 0, .int .u8 0, .int .i64 0, .int .i64 0] := by rw [hV]; exact Blk.new _ _ _
  have hw1 : W.heap.size ≤ w1.heap.size := hb1.size
  obtain ⟨g, hg⟩ : ∃ g, g = w1.heap.size := ⟨_, rfl⟩
  rw [← hg] at kV hw1 ⊢
  rw [← hV]
  have hgw : w.heap.size ≤ g := Nat.le_trans HL.out.size hw1
  have hbz := (HN.out.later lV).blk
  have g0 : V.cell? ⟨g, 0, none⟩ = some (.int .i64 1) := kV.cell 0
  obtain ⟨n0, n1, n2, n3, n4, n5⟩ := ndcells hbz.1
  obtain ⟨m0, m1, m2, m3, m4, m5, m6, m7⟩ := mcells (lV.blk HK.out)
  have HLV := hid lV
  have HKV := hid kV
  have HBZ := hid hbz
  clear hV lV hg kV hbz hb1 hw1 HPG
  refine' merge0 (fun X => Lat V X) ?i1 (fun w2 l2 => ?i2)
  case i1 =>
    go_region_law ((go_simp; go_at_call 133; (with_reducible refine (HKN.out _ ((HL.out.trans HLV.out).trans (by repeat (first | exact Lat.refl _ | refine Lat.drew ?_ | refine Lat.drewN ?_ _ | refine Lat.alloc ?_ _)))).mono ?_); rintro e2 w2 ⟨rfl, hb2⟩; have l2 : Lat V w2 := Lat.below (by repeat (first | exact Lat.refl _ | refine Lat.drew ?_ | refine Lat.drewN ?_ _ | refine Lat.alloc ?_ _)) hb2))
    all_goals exact ⟨rfl, l2⟩
  have kz2 := l2.blk HBZ.out.1
  have f5 : w2.frozen? ⟨nz, 5, none⟩ = false := kz2.frozen 5
  have c5 : w2.cell? ⟨nz, 5, none⟩ = some (.int .i64 kn) := kz2.cell 5
  have k6 : Blk (w2.setCell ⟨nz, 5, none⟩ (.int .i64 kv)) nz 149 (ndc num most dz z ac kv) := nd_set5 kz2
  have hN2 := HN.out.later (HLV.out.trans l2)
  have hT2 := HT.out.below ((HL.out.trans HLV.out).trans l2).size
  have hnz : tag nz = t + 6 := HBZ.out.2
  have hm6 : Mod (fun k => k = nz) w2 (w2.setCell ⟨nz, 5, none⟩ (.int .i64 kv)) := mod_set w2 nz 5 _
  have hN6 : NM (w2.setCell ⟨nz, 5, none⟩ (.int .i64 kv)) tag t dz nz z num most ac kv p1 cs B := hN2.nd hm6 (fun k hk => .inl hk) k6
  have HT6 : Hid (Turn (Pr6 t) w tag (w2.setCell ⟨nz, 5, none⟩ (.int .i64 kv)) tag) := hid ((((HL.out.trans HLV.out).trans l2).turn HT.out (Pr6 t)).nd hm6 fun k hk => .inl (by subst hk; rw [hnz]; unfold Pr6; omega))
  have HN6 := hid hN6
  have HK6 := hid k6
  have hgne : g ≠ nz := fun e => by have h3 := HT.out g hgw; rw [e, hnz] at h3; omega
  have g16 : (w2.setCell ⟨nz, 5, none⟩ (.int .i64 kv)).cell? ⟨g, 1, none⟩ = some (.int .u8 1) := ((l2.blk HKV.out).far (p := ⟨nz, 5, none⟩) hgne (.int .i64 kv)).cell 1
  clear hm6 hN6 k6 hT2 hN2 kz2 l2 n0 n1 n2 n3 n4 n5 m0 m1 m2 m3 m4 m5 m6 m7 g0
  go_upto_region 6 with fail
  obtain ⟨w6, hw6⟩ : ∃ w6, w6 = w2.setCell ⟨nz, 5, none⟩ (.int .i64 kv) := ⟨_, rfl⟩
  rw [← hw6] at HT6 HN6 HK6 g16 ⊢
  clear hw6 f5 c5
  have h98 : ∀ X, Lat w6 X → Calls Tryz.prog 98 #[P z] X (Num0 (cs.length : Nat) X) := fun X l => by
    obtain ⟨wz, rz, sz, n, es, fs, sm, _⟩ := HN6.out.later l
    exact stend98 sm.sb
  have h134 : ∀ X, Calls Tryz.prog 134 #[.int .i64 (cs.length : Nat), .int .i64 ac, .int .i64 kv] X (Num2 (max ac (min kv (cs.length : Nat))) 0 X) := fun X => lacked134 _ _ _ a1 a2 (by omega) X
  have c4 : w6.cell? ⟨nz, 4, none⟩ = some (.int .i64 ac) := HK6.out.cell 4
  have f4 : w6.frozen? ⟨nz, 4, none⟩ = false := HK6.out.frozen 4
  have H98 := hid h98
  have H134 := hid h134
  clear h98 h134
  rw [← HNA.out] at H134
  refine' merge0 (fun X => Blk X nz 149 (ndc num most dz z na kv) ∧ Mod (fun k => k = nz) w6 X) ?j1 (fun w9 h9 => ?j2)
  case j1 =>
    go_region_law (first
      | (go_simp; go_at_call 98; (with_reducible refine (H98.out _ (by repeat (first | exact Lat.refl _ | refine Lat.drew ?_ | refine Lat.drewN ?_ _ | refine Lat.alloc ?_ _))).mono ?_); rintro e2 w3 ⟨rfl, rfl⟩)
      | (go_simp; go_at_call 134; (with_reducible refine (H134.out _).mono ?_); rintro e2 w4 ⟨rfl, rfl⟩))
    all_goals
      refine ⟨rfl, ?_, ?_⟩
      · repeat (first | with_reducible exact HK6.out | with_reducible apply blk_drew | with_reducible apply nd_set4)
      · repeat (first | with_reducible exact Mod.refl _ _ | with_reducible apply mod_drew | with_reducible apply mod_setc)
  have H9 := hid h9
  clear h9 c4 f4 g16
  go_wp2_with fail
  go_ret2
  exact ⟨rfl, tag, HT6.out.nd H9.out.2 (fun k hk => .inl (by subst hk; rw [hnz]; unfold Pr6; omega)), HN6.out.nd H9.out.2 (fun k hk => .inl hk) H9.out.1⟩
end Go.Proofs.YtbpnbcjgkbpmgaaGreat
