/- A primary answers without waiting for the other site, as many times as its leash allows: of any acts. No condition. (part 30) -/
import Derived.Test.YtbpnbcjgkbpmgaaGreatMAq
import Derived.Test.YtbpnbcjgkbpmgaaGreatMAw
import Derived.Test.YtbpnbcjgkbpmgaaGreatMBc
namespace Go.Proofs.YtbpnbcjgkbpmgaaGreat
open Go.RowKit Go.Lg Ds St
set_option linter.unusedVariables false
set_option linter.unusedSimpArgs false
attribute [local go_sem] field190
def logB (cs : List Cmt) : Bs := cs.flatMap fun c => Vi.fr (encC c)
inductive NM (w : World) (tag : Nat → Nat) (t dz nz z : Nat) (num most ac kn : Int) (p : Pg) (cs : List Cmt) (B : Nat) : Prop
  | mk (wz rz sz n : Nat) (es : List Nat) (fs : Nat → Bs) (sm : SM w tag t dz wz rz sz z n p (At fs) cs cs es) (blk : Blk w nz 149 (ndc num most dz z ac kn)) (hz : tag nz = t + 6) (hn : n ≤ B) (he : es.length = cs.length) (hw : wlen es ≤ B) (hf : tot fs ≤ B) (h0 : fs 0 = logB cs)
def Pr6 (t : Nat) : Nat → Prop := fun i => t + 1 ≤ i ∧ i ≤ t + 6
theorem prt_pr6 {t i : Nat} (h : Prt t i) : Pr6 t i := by unfold Prt at h; unfold Pr6; omega
theorem pr6_0 (t : Nat) : ¬Pr6 t 0 := by unfold Pr6; omega
section
variable {w w' : World} {tag tag' : Nat → Nat} {t dz nz z : Nat} {num most ac kn : Int} {p : Pg} {cs : List Cmt} {B : Nat} {I : Nat → Prop}
theorem NM.mv (h : NM w tag t dz nz z num most ac kn p cs B) (m : ∀ i, Pr6 t i → Mv w w' (Ow tag i) (Ow tag' i)) : NM w' tag' t dz nz z num most ac kn p cs B := by
  obtain ⟨wz, rz, sz, n, es, fs, sm, blk, hz, hn, he, hw, hf, h0⟩ := h
  have h6 := m (t + 6) (by unfold Pr6; omega) nz blk.lt hz
  exact ⟨wz, rz, sz, n, es, fs, ⟨sm.dk.mv (m _ (by unfold Pr6; omega)), sm.wl.mv (m _ (by unfold Pr6; omega)), sm.r0.mv (m _ (by unfold Pr6; omega)), sm.sr.mv (m _ (by unfold Pr6; omega)), sm.sb.mv (m _ (by unfold Pr6; omega))⟩, h6.2.trans blk, h6.1, hn, he, hw, hf, h0⟩
theorem NM.later (h : NM w tag t dz nz z num most ac kn p cs B) (l : Lat w w') : NM w' tag t dz nz z num most ac kn p cs B := h.mv fun i _ => bmv l.b _
theorem NM.turn (h : NM w tag t dz nz z num most ac kn p cs B) (ht : Turn I w tag w' tag') (hi : ∀ i, I i → ¬Pr6 t i) : NM w' tag' t dz nz z num most ac kn p cs B := h.mv fun i hp => ht.mv fun hI => hi i hI hp
theorem NM.box {F : Fp} (h : NM w tag t dz nz z num most ac kn p cs B) (m : Mod F w w') (hF : ∀ k, F k → tag k = 0) : NM w' tag t dz nz z num most ac kn p cs B := h.mv fun i hp => m.mv fun k a b => by
  have h1 : tag k = i := a
  have h2 := hF k b
  rw [← h1, h2] at hp
  exact pr6_0 t hp
theorem NM.more (h : NM w tag t dz nz z num most ac kn p cs B) {B' : Nat} (hB : B ≤ B') : NM w tag t dz nz z num most ac kn p cs B' := by
  obtain ⟨wz, rz, sz, n, es, fs, sm, blk, hz, hn, he, hw, hf, h0⟩ := h
  exact ⟨wz, rz, sz, n, es, fs, sm, blk, hz, by omega, he, by omega, by omega, h0⟩
theorem Turn.box {F : Fp} {w0 : World} {tag0 : Nat → Nat} (h : Turn I w0 tag0 w tag) (m : Mod F w w') (hF : ∀ k, F k → w0.heap.size ≤ k) : Turn I w0 tag0 w' tag :=
  ⟨⟨m.os.trans h.md.os, m.tape.trans h.md.tape, m.output.trans h.md.output, Nat.le_trans h.size m.size, fun k hk hn => (m.block k (Nat.lt_of_lt_of_le hk h.size) (fun hf => by have := hF k hf; omega)).trans (h.md.block k hk hn)⟩, h.old, h.new, h.td.below m.size⟩
theorem Turn.lat {w0 : World} {tag0 : Nat → Nat} (h : Turn I w0 tag0 w tag) (l : Lat w w') : Turn I w0 tag0 w' tag := h.trans (Turn.below h.td l.b)
end
theorem tot_upd (fs : Nat → Bs) (f : Nat) (b : Bs) (hf : f < 4) : tot (upd fs f (fs f ++ b)) = tot fs + b.length := by
  have : f = 0 ∨ f = 1 ∨ f = 2 ∨ f = 3 := by omega
  rcases this with rfl | rfl | rfl | rfl <;> simp [tot, upd] <;> omega
theorem wlen_snoc (es : List Nat) (x : Nat) : wlen (es ++ [x]) = x := by simp [wlen]
theorem logB_snoc (cs : List Cmt) (c : Cmt) : logB (cs ++ [c]) = logB cs ++ Vi.fr (encC c) := by simp [logB]
def cmE (os : List Op3) (cs : List Cmt) (ac most : Int) : Int := if bk os ≠ 0 then bk os else if most ≤ (cs.length : Int) - ac then 8 else 0
def cmC (os : List Op3) (cs : List Cmt) (ac most : Int) : List Cmt := if cmE os cs ac most = 0 then cs ++ [⟨1, (cs.length : Int) + 1, os⟩] else cs
def cmN (os : List Op3) (cs : List Cmt) (ac most : Int) : Int := if cmE os cs ac most = 0 then (cs.length : Int) + 1 else 0
abbrev p1 : Pg := ⟨1, 1, 0, 0, 0, 0⟩
abbrev p2 : Pg := ⟨1, 2, 0, 0, 0, 0⟩
theorem SM.more {w : World} {tag : Nat → Nat} {t dz wz rz sz z n n' : Nat} {p : Pg} {d : Dsk} {cs cs' : List Cmt} {es : List Nat} (h : SM w tag t dz wz rz sz z n p d cs cs' es) (e : n = n') : SM w tag t dz wz rz sz z n' p d cs cs' es := e ▸ h
def CmR (tag : Nat → Nat) (t dz nz z : Nat) (num most ac kn : Int) (cs : List Cmt) (B b6 : Nat) (x : Int) (w w' : World) : Prop :=
  ∃ tag' w1, Turn (Pr6 t) w tag w1 tag' ∧ NM w1 tag' t dz nz z num most ac kn p1 cs B ∧ Mod (fun k => k = b6) w1 w' ∧ w'.cell? ⟨b6, 0, none⟩ = some (.int .i64 x)
theorem cm_no {w W : World} {tag : Nat → Nat} {t dz nz z lo b6 B : Nat} {num most ac kn er : Int} {cs : List Cmt} {os : List Op3} (hT : Tidy w tag) (h : NM w tag t dz nz z num most ac kn p1 cs B) (k6 : Blk w b6 3 #[.int .i64 0]) (hE : cmE os cs ac most = er) (hne : er ≠ 0) (l : Lat w W) :
    Does lo (cmE os cs ac most) (CmR tag t dz nz z num most ac kn (cmC os cs ac most) (B + 2000) b6 (cmN os cs ac most)) w (.returned (.int .i64 er)) W := by
  unfold cmC cmN
  rw [hE, if_neg hne, if_neg hne]
  exact ⟨rfl, l.size, fun j _ hj => l.b.block j hj, tag, W, Turn.below hT l.b, (h.later l).more (by omega), Mod.refl _ _, (l.blk k6).cell 0⟩
theorem cm_ok {w W W' : World} {tag tag' : Nat → Nat} {t dz nz z lo b6 B n wz rz sz : Nat} {num most ac kn : Int} {cs : List Cmt} {os : List Op3} {es : List Nat} {fs : Nat → Bs} (hT : Tidy w tag) (blk : Blk w nz 149 (ndc num most dz z ac kn)) (hz : tag nz = t + 6) (hn : n ≤ B) (he : es.length = cs.length) (hw : wlen es ≤ B) (hf : tot fs ≤ B) (h0 : fs 0 = logB cs)
    (hlo : ∀ j, lo ≤ j → tag j = 0) (h6 : b6 < lo) (t6 : tag b6 = 0) (k6 : Blk w b6 3 #[.int .i64 0]) (hb : bk os = 0) (hle : ¬most ≤ (cs.length : Int) - ac) (h1 : One 0 cs) (hcs : cs.length ≤ 1000) (ht : Turn (Prt t) w tag W tag')
    (sm : SM W tag' t dz wz rz sz z (n + os.length) p1 (At (upd fs 0 (fs 0 ++ Vi.fr (encC ⟨1, (cs.length : Int) + 1, os⟩)))) (cs ++ [⟨1, (cs.length : Int) + 1, os⟩]) (cs ++ [⟨1, (cs.length : Int) + 1, os⟩]) (es ++ [wlen es + (Vi.fr (encC ⟨1, (cs.length : Int) + 1, os⟩)).length]))
    (hW : W' = W.setCell ⟨b6, 0, none⟩ (.int .i64 ((cs.length : Int) + 1))) :
    Does lo (cmE os cs ac most) (CmR tag t dz nz z num most ac kn (cmC os cs ac most) (B + 2000) b6 (cmN os cs ac most)) w (.returned (.int .i64 0)) W' := by
  have hE : cmE os cs ac most = 0 := by unfold cmE; rw [if_neg (by rw [hb]; decide), if_neg hle]
  have hck : (Cmt.mk 1 ((cs.length : Int) + 1) os).k = 0 := by unfold Cmt.k; simp only; rw [if_pos ⟨⟨by omega, by omega⟩, by omega, by omega⟩]; exact hb
  have hel := encC_le hck
  have hfl := fr_len (encC ⟨1, (cs.length : Int) + 1, os⟩)
  have hk8 := (Cmt.oks hck).2.1
  simp only at hk8
  unfold cmC cmN
  rw [hE, if_pos rfl, if_pos rfl]
  subst hW
  have hm : Mod (fun k => k = b6) W (W.setCell ⟨b6, 0, none⟩ (.int .i64 ((cs.length : Int) + 1))) := mod_set W b6 0 _
  have k6' := ht.blk k6 (by rw [t6]; unfold Prt; omega)
  have b1 := ht.blk blk (by rw [hz]; unfold Prt; omega)
  refine ⟨rfl, Nat.le_trans ht.size hm.size, fun j hj1 hj2 => ?_, tag', W, ht.more fun i hi => prt_pr6 hi, ?_, hm, (k6'.set_ 0 _).cell 0⟩
  · rw [hm.block j (Nat.lt_of_lt_of_le hj2 ht.size) (by omega), ht.keep hj2 (by rw [hlo j hj1]; unfold Prt; omega)]
  · refine ⟨wz, rz, sz, n + os.length, _, _, sm, b1, (ht.old nz blk.lt).trans hz, by omega, by simp [he], ?_, ?_, ?_⟩
    · rw [wlen_snoc]; omega
    · rw [tot_upd fs 0 _ (by decide)]; omega
    · rw [logB_snoc]; simp [upd, h0]
set_option maxHeartbeats 1000000 in
set_option maxRecDepth 100000 in
theorem ndcommit146 {w : World} {tag : Nat → Nat} {t dz nz z lo b2 b3 b6 B : Nat} {num most ac kn : Int} {cs : List Cmt} (hT : Tidy w tag) (h : NM w tag t dz nz z num most ac kn p1 cs B)
    {G : Fp} {A : Option Addr} {k c : Nat} {os : List Op3} (ho : Ro w G A k c (opc os)) (hl : os.length = k) (hG : ∀ b, G b → ¬Pr6 t (tag b))
    (k3 : Blk w b3 28 #[.slice A k c]) (k2 : Blk w b2 65 #[P nz]) (k6 : Blk w b6 3 #[.int .i64 0]) (hlo : ∀ j, lo ≤ j → tag j = 0) (h6 : b6 < lo) (t6 : tag b6 = 0)
    (h1 : One 0 cs) (hcs : cs.length ≤ 1000) (m1 : 1 ≤ most) (m2 : most ≤ 16) (a1 : 0 ≤ ac) (a2 : ac ≤ cs.length) (hB : B ≤ 500000) :
    Calls Tryz.prog 146 #[P z, P b3, P b2, P b6] w (Does lo (cmE os cs ac most) (CmR tag t dz nz z num most ac kn (cmC os cs ac most) (B + 2000) b6 (cmN os cs ac most)) w) := by
  subst hl
  obtain ⟨wz, rz, sz, n, es, fs, sm, blk, hz, hn, he, hw, hf, h0⟩ := h
  have h := NM.mk (B := B) wz rz sz n es fs sm blk hz hn he hw hf h0
  have hbc := batch51 A os.length c os w ⟨ho.rdf.rd (by decide), rfl⟩ (by have := ho.cap; unfold maxLen at this; omega)
  have q3 : w.cell? ⟨b3, 0, none⟩ = some (.slice A os.length c) := k3.cell 0
  have H := hid h
  have HT := hid hT
  have HO := hid ho
  have HLO := hid hlo
  have HK2 := hid k2
  have HK3 := hid k3
  have HK6 := hid k6
  have HSM := hid sm
  have HBK := hid blk
  have hsb := sm.sb
  have HSB := hid hsb
  have H0 := hid h0
  have HE := hid he
  have HES := hid h1
  have HG := hid hG
  have HZ := hid (And.intro hz (And.intro t6 h6))
  have HN := hid (And.intro hn (And.intro hw hf))
  clear h hT ho hlo k2 k3 k6 sm blk hsb h0 he h1 hG hz t6 h6 hn hw hf
  by_cases hb0 : bk os = 0
  case neg =>
    have HB0 := hid hb0
    obtain ⟨er, her⟩ : ∃ er, er = bk os := ⟨_, rfl⟩
    rw [← her] at hbc hb0
    have HER := hid her
    clear her
    go_enter Tryz.func146, Tryz.ntmps146
    go_wp2_with ((go_at_call 147; (with_reducible refine hbc.mono ?_); rintro e' w1 ⟨rfl, hb1⟩))
    go_ret
    exact cm_no HT.out H.out HK6.out (by unfold cmE; rw [if_pos HB0.out, HER.out]) hb0 ⟨hb1⟩
  case pos =>
    have hPG : ∀ X, Lat w X → Calls Tryz.prog 78 #[P z] X fun e w' => e = .returned (.agg #[.int .i64 1, .int .u8 1, .int .i64 0, .int .u8 0, .int .i64 0, .int .i64 0]) ∧ Below X.heap.size X w' := fun X l => stpage78 (HSB.out.mv (bmv l.b _))
    have hWR : ∀ X, Calls Tryz.prog 148 #[.agg #[.int .i64 1, .int .u8 1, .int .i64 0, .int .u8 0, .int .i64 0, .int .i64 0]] X fun e w' => e = .returned (.int .i64 0) ∧ Below X.heap.size X w' := fun X => by
      have := Pp.writes15 p1 X
      rwa [show Pp.writes p1 = 0 from by decide] at this
    have h98 : ∀ X, Lat w X → ∀ d, Calls Tryz.prog 98 #[P z] (X.drewN d) fun e w' => e = .returned (.int .i64 (cs.length : Nat)) ∧ w' = X.drewN d := fun X l d => (stend98 (HSB.out.mv (bmv (l.drewN d).b _))).mono fun _ _ h => ⟨h.1, h.2.symm⟩
    rw [hb0] at hbc
    have HB0 := hid hb0
    clear hb0
    have HPG := hid hPG
    have HWR := hid hWR
    have H98 := hid h98
    clear hPG hWR h98
    go_enter Tryz.func146, Tryz.ntmps146
    go_upto_region 5 with (first | (go_at_call 147; (with_reducible refine hbc.mono ?_); rintro e' w1 ⟨rfl, hb1⟩; have l1 : Lat w w1 := ⟨hb1⟩; have HPX := hid (HPG.out w1 l1)) | (go_at_call 78; (with_reducible refine HPX.out.mono ?_); rintro e' w2 ⟨rfl, hb2⟩; have l2 := l1.below hb2))
    obtain ⟨V, hV⟩ : ∃ V, V = w2.alloc (.cells #[.int .i64 1, .int .u8 1, .int .i64 0, .int .u8 0, .int .i64 0, .int .i64 0] 43) := ⟨_, rfl⟩
    have lV : Lat w V := by rw [hV]; exact l2.alloc _
    have kV : Blk V w2.heap.size 43 #[.int .i64 1, .int .u8 1, .int .i64 0, .int .u8 0, .int .i64 0, .int .i64 0] := by rw [hV]; exact Blk.new _ _ _
    obtain ⟨g, hg⟩ : ∃ g, g = w2.heap.size := ⟨_, rfl⟩
    have hgw : w.heap.size ≤ g := by rw [hg]; exact l2.size
    rw [← hg] at kV ⊢
    rw [← hV]
    have HL2 := hid lV
    have g0 : V.cell? ⟨g, 0, none⟩ = some (.int .i64 1) := kV.cell 0
    have g1 : V.cell? ⟨g, 1, none⟩ = some (.int .u8 1) := kV.cell 1
    have g2 : V.cell? ⟨g, 2, none⟩ = some (.int .i64 0) := kV.cell 2
    have g3 : V.cell? ⟨g, 3, none⟩ = some (.int .u8 0) := kV.cell 3
    have g4 : V.cell? ⟨g, 4, none⟩ = some (.int .i64 0) := kV.cell 4
    have g5 : V.cell? ⟨g, 5, none⟩ = some (.int .i64 0) := kV.cell 5
    have HKV := hid kV
    clear hV lV hg kV l1 l2 hb1 hb2 hbc HPX HPG
    go_upto_region 6 with ((go_at_call 148; (with_reducible refine (HWR.out _).mono ?_); rintro e' w4 ⟨rfl, hb4⟩))
    have l4 := HL2.out.below hb4
    have HKV4 := hid (HKV.out.later hb4)
    clear g0 g1 g2 g3 g4 g5 HKV HWR
    obtain ⟨c0, c1, c2, c3, c4, c5⟩ := ndcells (l4.blk HBK.out)
    have e2 : w4.cell? ⟨b2, 0, none⟩ = some (P nz) := (l4.blk HK2.out).cell 0
    have HL4 := hid l4
    have hA : ∀ X, Calls Tryz.prog 149 #[.int .i64 (cs.length : Nat), .int .i64 ac, .int .i64 most] X fun e w' => e = .returned (.int .i64 (if most ≤ (cs.length : Int) - ac then 8 else 0)) ∧ w' = X := fun X => (admit149 (cs.length : Nat) ac most a1 a2 (by omega) m1 m2 X).mono fun _ _ h => ⟨h.1, h.2.symm⟩
    have H98d := hid (H98.out w4 l4)
    have HA := hid hA
    clear hA l4 hb4 H98 HL2
    go_upto_region 8 with fail
    by_cases hle : most ≤ (cs.length : Int) - ac
    · have hA := HA.out
      rw [if_pos hle] at hA
      have HA' := hid hA
      clear HA hA
      go_quiet (first | (go_at_call 98; with_reducible exact Calls.quiet_of_same (H98d.out _)) | (go_at_call 149; with_reducible exact Calls.quiet_of_same (HA'.out _)))
      go_wp2_with fail
      go_ret
      exact cm_no HT.out H.out HK6.out (by unfold cmE; rw [if_neg (by rw [HB0.out]; decide), if_pos hle]) (by decide) (HL4.out.drewN _)
    · have hA := HA.out
      rw [if_neg hle] at hA
      have HA' := hid hA
      clear HA hA
      go_quiet (first | (go_at_call 98; with_reducible exact Calls.quiet_of_same (H98d.out _)) | (go_at_call 149; with_reducible exact Calls.quiet_of_same (HA'.out _)))
      clear c0 c1 c2 c3 c4 c5 e2
      have HLE := hid hle
      clear HA' hle H98d
      go_upto_region 11 with fail
      refine' merge1 (fun (Y : World) X => Lat w X ∧ Blk X Y.heap.size 88 #[.int .i64 1, .int .i64 ((cs.length : Int) + 1), .slice A os.length c] ∧ w.heap.size ≤ Y.heap.size) ?h1 (fun Y w6 h6 => ?h2)
      case h1 =>
        obtain ⟨w5, hw5⟩ : ∃ w5, w5 = w4.drewN nq := ⟨_, rfl⟩
        rw [← hw5]
        have l5 : Lat w w5 := by rw [hw5]; exact HL4.out.drewN _
        have k5 : Blk w5 g 43 #[.int .i64 1, .int .u8 1, .int .i64 0, .int .u8 0, .int .i64 0, .int .i64 0] := by rw [hw5]; exact HKV4.out.later (drewN_below w4 nq)
        clear hw5
        have hw1 : IntKind.i64.wrap ((cs.length : Int) + 1) = (cs.length : Int) + 1 := IntWalk.i64_in _ (by omega)
        have hCE : ∀ X, Lat w5 X → X.cell? ⟨g, 0, none⟩ = some (.int .i64 1) ∧ X.cell? ⟨b3, 0, none⟩ = some (.slice A os.length c) := fun X l => ⟨(l.blk k5).cell 0, ((l5.trans l).blk HK3.out).cell 0⟩
        have h98 : ∀ X, Lat w5 X → Calls Tryz.prog 98 #[P z] X (Num0 (cs.length : Nat) X) := fun X l => stend98 (HSB.out.mv (bmv (l5.trans l).b _))
        have HCE := hid hCE
        have H98 := hid h98
        have HL5 := hid l5
        clear hCE h98 l5 k5
        have e0 := (HCE.out w5 (Lat.refl _)).1
        have e3 := (HCE.out w5 (Lat.refl _)).2
        have e4 := (HCE.out (w5.alloc (.cells #[.int .i64 0, .int .i64 0, .slice none 0 0] 88)) ((Lat.refl _).alloc _)).1
        have e5 := (HCE.out (w5.alloc (.cells #[.int .i64 0, .int .i64 0, .slice none 0 0] 88)) ((Lat.refl _).alloc _)).2
        go_region_law ((go_simp; go_at_call 98; (with_reducible refine (H98.out _ (by repeat (first | exact Lat.refl _ | refine Lat.drew ?_ | refine Lat.drewN ?_ _ | refine Lat.alloc ?_ _))).mono ?_); rintro e2 w2 ⟨rfl, rfl⟩))
        all_goals first
          | exact ⟨w5, rfl, (HL5.out.alloc _).drew, (Blk.new w5 88 _).later (below_drew _), HL5.out.size⟩
          | exact ⟨w5, rfl, (HL5.out.drew).alloc _, Blk.new w5.drew 88 _, HL5.out.size⟩
          | exact ⟨w5, rfl, (HL5.out.alloc _), Blk.new w5 88 _, HL5.out.size⟩
      obtain ⟨l6, k6, hY⟩ := h6
      obtain ⟨y, hy⟩ : ∃ y, y = Y.heap.size := ⟨_, rfl⟩
      rw [← hy] at k6 hY ⊢
      clear hy
      have y0 : w6.cell? ⟨y, 0, none⟩ = some (.int .i64 1) := k6.cell 0
      have y1 : w6.cell? ⟨y, 1, none⟩ = some (.int .i64 ((cs.length : Int) + 1)) := k6.cell 1
      have y2 : w6.cell? ⟨y, 2, none⟩ = some (.slice A os.length c) := k6.cell 2
      obtain ⟨w7, hw7⟩ : ∃ w7, w7 = w6.alloc (.cells #[.int .i64 1, .int .i64 ((cs.length : Int) + 1), .slice A os.length c] 88) := ⟨_, rfl⟩
      have l7 : Lat w w7 := by rw [hw7]; exact l6.alloc _
      have k7 : Blk w7 y 88 #[.int .i64 1, .int .i64 ((cs.length : Int) + 1), .slice A os.length c] := by rw [hw7]; exact k6.alloc _
      have r7 : RdF w7 (fun b => b = w6.heap.size) 3 (some ⟨w6.heap.size, 0, none⟩) 1 [.int .i64 1, .int .i64 ((cs.length : Int) + 1), .slice A os.length c] := by rw [hw7]; exact RdF.lit w6 #[.int .i64 1, .int .i64 ((cs.length : Int) + 1), .slice A os.length c] 88 1 3 rfl
      have hck : (Cmt.mk 1 ((cs.length : Int) + 1) os).k = 0 := by unfold Cmt.k; simp only; rw [if_pos ⟨⟨by omega, by omega⟩, by omega, by omega⟩]; exact HB0.out
      have hel := encC_le hck
      have hle2 := lastEp_one HES.out
      have HK7 := hid k7
      have hadd := stadd137 (G := fun b => ¬Prt t (tag b)) (A := some ⟨w6.heap.size, 0, none⟩) (c := 1) (HT.out.below l7.size) (HSM.out.later l7) (r7.to fun b hb => by subst hb; rw [HT.out _ l6.size]; unfold Prt; omega) ((HO.out.later l7.b).to fun b hb hp => HG.out b hb (prt_pr6 hp)) rfl (by omega) (by unfold maxLen; omega) (fun b hb => hb) hck (by omega) hle2 (by omega) (by have := HE.out; omega) (by have := HN.out; omega) (by have := HN.out; omega) (by omega) (by have := HN.out; omega) rfl (by decide) (by decide) (by show (0 : Int) ≤ _; omega)
      have HL7 := hid l7
      have HAD := hid hadd
      clear k7 r7 l7 hadd hel hle2 hck k6 l6
      go_upto_region 13 with fail
      rw [← hw7]
      clear hw7
      refine HAD.out.mono ?_
      rintro e' w8 ⟨rfl, tag8, ht8, sm8⟩
      have hn7 : ∀ b, w.heap.size ≤ b → ¬Prt t (tag b) := fun b hb => by rw [HT.out b hb]; unfold Prt; omega
      have k8 := ht8.blk HK7.out (hn7 y hY)
      have b6k := ht8.blk (HL7.out.blk HK6.out) (by rw [HZ.out.2.1]; unfold Prt; omega)
      have y1' : w8.cell? ⟨y, 1, none⟩ = some (.int .i64 ((cs.length : Int) + 1)) := k8.cell 1
      have f6 : w8.frozen? ⟨b6, 0, none⟩ = false := b6k.frozen 0
      have v6 : w8.cell? ⟨b6, 0, none⟩ = some (.int .i64 0) := b6k.cell 0
      have HT8 := hid ((Turn.below (I := Prt t) HT.out HL7.out.b).trans ht8)
      have HS8 := hid sm8
      clear k8 b6k ht8 sm8 HAD hn7 y0 y1 y2
      go_wp2_with fail
      go_ret
      exact cm_ok HT.out HBK.out HZ.out.1 HN.out.1 HE.out HN.out.2.1 HN.out.2.2 H0.out HLO.out HZ.out.2.2 HZ.out.2.1 HK6.out HB0.out (by have := HLE.out; omega) HES.out hcs HT8.out HS8.out rfl
end Go.Proofs.YtbpnbcjgkbpmgaaGreat
namespace Go.Proofs.YtbpnbcjgkbpmgaaGreat
open Go.RowKit Go.Lg Ds St
set_option linter.unusedVariables false
set_option linter.unusedSimpArgs false
attribute [local go_sem] field190
theorem nm_on {w X : World} {tag : Nat → Nat} {t dz nz z B : Nat} {num most ac kn : Int} {p : Pg} {cs : List Cmt} (h : NM w tag t dz nz z num most ac kn p cs B) (l : Lat w X) : Calls Tryz.prog 118 #[P dz] X (Asked true X) := by
  obtain ⟨wz, rz, sz, n, es, fs, sm, _⟩ := h.later l
  exact on118 sm.dk
theorem NM.blk {w : World} {tag : Nat → Nat} {t dz nz z B : Nat} {num most ac kn : Int} {p : Pg} {cs : List Cmt} (h : NM w tag t dz nz z num most ac kn p cs B) : Blk w nz 149 (ndc num most dz z ac kn) ∧ tag nz = t + 6 := by
  obtain ⟨wz, rz, sz, n, es, fs, sm, blk, hz, _⟩ := h
  exact ⟨blk, hz⟩
theorem do_fin {w X w1 w' W : World} {tag tag' : Nat → Nat} {t dz nz z B : Nat} {num most ac kn : Int} {p : Pg} {cs : List Cmt} {F : Fp} (hT : Tidy w tag) (lW : Lat w W) (l : Lat W X) (ht : Turn (Pr6 t) X tag w1 tag') (h : NM w1 tag' t dz nz z num most ac kn p cs B) (m : Mod F w1 w') (hF : ∀ k, F k → w.heap.size ≤ k ∧ k < X.heap.size) :
    Turn (Pr6 t) w tag w' tag' ∧ NM w' tag' t dz nz z num most ac kn p cs B := by
  have h0 : Turn (Pr6 t) w tag w1 tag' := (Turn.below (I := Pr6 t) hT (lW.trans l).b).trans ht
  refine ⟨h0.box m fun k hk => (hF k hk).1, h.box m fun k hk => ?_⟩
  rw [ht.old k (hF k hk).2]
  exact hT k (hF k hk).1
theorem bk_cases (os : List Op3) : bk os = 0 ∨ bk os = 2 ∨ bk os = 3 := by
  unfold bk
  repeat' split
  all_goals simp
theorem cmE_ne (os : List Op3) (cs : List Cmt) (ac most : Int) : cmE os cs ac most ≠ 6 := by
  have := bk_cases os
  unfold cmE
  split
  · omega
  · split <;> omega
set_option maxHeartbeats 2000000 in
set_option maxRecDepth 100000 in
theorem ndcommit90 {w : World} {tag : Nat → Nat} {t dz nz z B : Nat} {num most ac kn : Int} {cs : List Cmt} (hT : Tidy w tag) (h : NM w tag t dz nz z num most ac kn p1 cs B)
    {G : Fp} {A : Option Addr} {k c : Nat} {os : List Op3} (ho : Ro w G A k c (opc os)) (hl : os.length = k) (hG : ∀ b, G b → ¬Pr6 t (tag b))
    (h1 : One 0 cs) (hcs : cs.length ≤ 1000) (m1 : 1 ≤ most) (m2 : most ≤ 16) (a1 : 0 ≤ ac) (a2 : ac ≤ cs.length) (hB : B ≤ 500000) :
    Calls Tryz.prog 90 #[P nz, .slice A k c] w fun e w' => e = .returned (.tuple #[.int .i64 (cmN os cs ac most), .int .i64 (cmE os cs ac most)]) ∧ ∃ tag', Turn (Pr6 t) w tag w' tag' ∧ NM w' tag' t dz nz z num most ac kn p1 (cmC os cs ac most) (B + 2000) := by
  have hmf : ∀ (fn : Fn) (first cap : Array Value) (w : World), (Instr.makeFunc fn first cap).run Tryz.prog w = .ok (.func fn first cap) w := fun _ _ _ _ => rfl
  obtain ⟨W, hW⟩ : ∃ W, W = ((w.alloc (.cells #[P nz] 65)).alloc (.cells #[.slice A k c] 28)).alloc (.cells #[.int .i64 0] 3) := ⟨_, rfl⟩
  have lW : Lat w W := by rw [hW]; exact (((Lat.refl w).alloc _).alloc _).alloc _
  have k2 : Blk W w.heap.size 65 #[P nz] := by rw [hW]; exact ((Blk.new w 65 _).alloc _).alloc _
  have k3 : Blk W (w.heap.size + 1) 28 #[.slice A k c] := by
    rw [hW]
    have := (Blk.new (w.alloc (.cells #[P nz] 65)) 28 #[.slice A k c]).alloc (.cells #[.int .i64 0] 3)
    simpa using this
  have k6 : Blk W (w.heap.size + 2) 3 #[.int .i64 0] := by
    rw [hW]
    have := Blk.new ((w.alloc (.cells #[P nz] 65)).alloc (.cells #[.slice A k c] 28)) 3 #[.int .i64 0]
    simpa using this
  have hWs : W.heap.size = w.heap.size + 3 := by rw [hW]; simp
  have hTW : Tidy W tag := hT.below lW.size
  have hW1 := h.later lW
  have hb := nddo75 (fn := 146) (caps := #[P (w.heap.size + 1), P w.heap.size, P (w.heap.size + 2)]) (er := cmE os cs ac most) (R := CmR tag t dz nz z num most ac kn (cmC os cs ac most) (B + 2000) (w.heap.size + 2) (cmN os cs ac most)) hW1.blk.1 (cmE_ne os cs ac most) (fun X l => nm_on hW1 l) (fun args w => rfl) (fun X l =>
    ndcommit146 (hTW.below l.size) (hW1.later l) ((ho.later (lW.trans l).b)) hl hG (l.blk k3) (l.blk k2) (l.blk k6) (fun j hj => hT j (by omega)) (by omega) (hT _ (by omega)) h1 hcs m1 m2 a1 a2 hB)
  have q2 : W.cell? ⟨w.heap.size, 0, none⟩ = some (P nz) := k2.cell 0
  have HL := hid lW
  have HS := hid hWs
  clear h ho hl hG k2 k3 k6 hW1 lW hTW
  go_enter Tryz.func90, Tryz.ntmps90
  go_upto_region 2 with fail
  rw [← hW]
  clear hW
  go_wp2_with (go_at_call 75; refine stop_ (fun Ps hPs => ?_))
  refine hPs ?_
  clear hPs Ps
  refine hb.mono ?_
  rintro e' w' ⟨rfl, X, w1, l, ⟨tag', w0, ht, hn, hm, hc⟩, hs, hm2⟩
  have hsz := HS.out
  have hq : w'.cell? ⟨w.heap.size + 2, 0, none⟩ = some (.int .i64 (cmN os cs ac most)) := by
    have h3 : w.heap.size + 2 < w1.heap.size := by have := l.size; omega
    exact (World.cell?_of_block (a := ⟨w.heap.size + 2, 0, none⟩) (hm2.block _ h3 (fun h4 => by have h5 : W.heap.size ≤ w.heap.size + 2 := h4.1; omega))).trans hc
  have hm3 : Mod (fun k => w.heap.size ≤ k ∧ k < X.heap.size) w0 w' := (hm.more fun k hk => by have := l.size; subst hk; omega).trans_ (hm2.more fun k hk => by have h5 := hk.1; have h6 := hk.2; omega)
  obtain ⟨hF1, hF2⟩ := do_fin hT HL.out l ht hn hm3 fun k hk => hk
  have H1 := hid hF1
  have H2 := hid hF2
  clear hb q2 ht hn hm hc hs hm2 hm3 hF1 hF2 hsz l
  go_wp2_with fail
  go_ret2
  exact ⟨rfl, tag', H1.out, H2.out⟩
end Go.Proofs.YtbpnbcjgkbpmgaaGreat
namespace Go.Proofs.YtbpnbcjgkbpmgaaGreat
open Go.RowKit Go.Lg Ds St
set_option linter.unusedVariables false
set_option linter.unusedSimpArgs false
attribute [local go_sem] field190
set_option maxHeartbeats 4000000 in
set_option maxRecDepth 100000 in
theorem swrong215 {w : World} {A : Option Addr} {n c : Nat} {ms : List Cm} (ep : Int) (hcs : CS w w.heap.size A n ms) (hfo : fol 0 0 0 ms = (0, 0)) (hn : n ≤ 100000) (e1 : 1 ≤ ep) (e2 : ep ≤ 1048576) (hall : ∀ m ∈ ms, m.ep ≤ ep) :
    Calls Tryz.prog 215 #[.int .i64 ep, .slice A n c] w fun e w' => e = .returned (.int .i64 0) ∧ Below w.heap.size w w' := by
  have hf := follows37 A n c ms 0 0 w hcs (by omega)
  rw [hfo] at hf
  have q1 : ¬ep < 1 := by omega
  have q2 : ¬(1048576 : Int) < ep := by omega
  have HCS := hid hcs
  have HA := hid hall
  clear hcs hfo hall
  go_enter Tryz.func215, Tryz.ntmps215
  go_upto_region 4 with ((go_at_call 112; (with_reducible refine hf.mono ?_); rintro e' w1 ⟨rfl, hb1⟩))
  have l2 : Lat w (w1.alloc (.cells #[.int .i64 0, .int .i64 0] 190)) := (Lat.mk hb1).alloc _
  have k2 := Blk.new w1 190 #[.int .i64 0, .int .i64 0]
  obtain ⟨w2, hw2⟩ : ∃ w2, w2 = w1.alloc (.cells #[.int .i64 0, .int .i64 0] 190) := ⟨_, rfl⟩
  rw [← hw2] at l2 k2
  have c0 : w2.cell? ⟨w1.heap.size, 0, none⟩ = some (.int .i64 0) := k2.cell 0
  rw [← hw2]
  have HL2 := hid l2
  have HC2 := hid (HCS.out.keep l2.b)
  clear hw2 k2 l2 hb1 hf
  rcases Nat.eq_zero_or_pos n with h0 | h0
  · subst h0
    go_wp2_with fail
    go_ret
    exact ⟨rfl, HL2.out.b⟩
  · obtain ⟨b, off, ep', num, A1, n1, k1, os, rfl, hbB, hm, hos, hn1, x0, x1, x2⟩ := HC2.out.at_ (j := n - 1) (by omega)
    have hle := HA.out _ (List.mem_of_getElem? hm)
    simp only at hle
    have hwn : IntKind.i64.wrap ((n : Int) - 1) = ((n - 1 : Nat) : Int) := by rw [IntWalk.i64_in _ (by omega)]; omega
    have hn1' : (0 : Int) < (n : Int) := by omega
    have hn2 : ((n - 1 : Nat) : Int) < (n : Int) := by omega
    have hn3 : (0 : Int) ≤ ((n - 1 : Nat) : Int) := by omega
    have hnx : ¬ep < ep' := by omega
    clear hm hos
    go_wp2_with fail
    go_ret
    exact ⟨rfl, HL2.out.b⟩
theorem res_new (w : World) : Blk (w.alloc (.cells (msgc 0 0 0 0 nils 0 0 nils) 147)) w.heap.size 147 (msgc 0 0 0 0 nils 0 0 nils) ∧ Lat w (w.alloc (.cells (msgc 0 0 0 0 nils 0 0 nils) 147)) := ⟨Blk.new _ _ _, (Lat.refl w).alloc _⟩
set_option maxHeartbeats 4000000 in
set_option maxRecDepth 100000 in
theorem sack138 {w : World} (ep en : Int) (e1 : 1 ≤ ep) (e2 : ep ≤ 1048576) (h1 : 0 ≤ en) (h2 : en ≤ 1048576) :
    Calls Tryz.prog 138 #[.int .i64 ep, .int .i64 en] w fun e w' => e = .returned (.tuple #[.agg (msgc 3 ep 0 en nils 0 0 nils), .int .i64 0]) ∧ Below w.heap.size w w' := by
  obtain ⟨kr, lr⟩ := res_new w
  obtain ⟨X, hX⟩ : ∃ X, X = w.alloc (.cells (msgc 0 0 0 0 nils 0 0 nils) 147) := ⟨_, rfl⟩
  rw [← hX] at kr lr
  obtain ⟨q0, q1, q2, q3, q4, q5, q6, q7⟩ := mcells kr
  obtain ⟨f0, f1, f2, f3, f4, f5, f6, f7⟩ := mfroz kr
  obtain ⟨hk, hb, hm⟩ := res_set 3 ep 0 en 0 0 nils nils kr lr.b
  obtain ⟨p0, p1, p2, p3, p4, p5, p6, p7⟩ := mcells hk
  have HB := hid hb
  have t1 : ¬ep < 1 := by omega
  have t2 : ¬(1048576 : Int) < ep := by omega
  have t3 : ¬en < 0 := by omega
  have t4 : ¬(1048576 : Int) < en := by omega
  clear kr lr hk hb hm e1 e2 h1 h2
  go_enter Tryz.func138, Tryz.ntmps138
  go_upto_region 1 with fail
  rw [← hX]
  clear hX
  go_wp2_with fail
  refine bodyPost_ret (by simp [results, Tryz.results138, go_sem, p0, p1, p2, p3, p4, p5, p6, p7]; try rfl) rfl ?_
  exact ⟨rfl, HB.out⟩
set_option maxHeartbeats 4000000 in
set_option maxRecDepth 100000 in
theorem shello178 {w : World} {A : Option Addr} {n c : Nat} {ms : List Cm} (ep ro : Int) (hcs : CS w w.heap.size A n ms) (hfo : fol 0 0 0 ms = (0, 0)) (hn : n ≤ 10000) (e1 : 1 ≤ ep) (e2 : ep ≤ 1048576) (hall : ∀ m ∈ ms, m.ep ≤ ep) (r1 : 1 ≤ ro) (r2 : ro ≤ 3) :
    Calls Tryz.prog 178 #[.int .i64 ep, .int .u8 ro, .slice A n c] w fun e w' => ∃ A' c', e = .returned (.tuple #[.agg (msgc 1 ep ro n (.slice A' (tl ms).length c') 0 0 nils), .int .i64 0]) ∧ w'.ownsRow (w.heap.size + 1) 198 2 (.slice A' (tl ms).length c') (tl ms).length (sts (tl ms)) ∧ Below w.heap.size w w' := by
  obtain ⟨kr, lr⟩ := res_new w
  obtain ⟨X, hX⟩ : ∃ X, X = w.alloc (.cells (msgc 0 0 0 0 nils 0 0 nils) 147) := ⟨_, rfl⟩
  have hsz : X.heap.size = w.heap.size + 1 := by rw [hX]; simp
  rw [← hX] at kr lr
  have hcX := (hcs.keep lr.b).more lr.size
  have hwr := swrong215 (c := c) ep hcX hfo (by omega) e1 e2 hall
  have HKR := hid kr
  have HLR := hid lr
  have HCX := hid hcX
  have HFO := hid hfo
  have q1 : ¬ro < 1 := by omega
  have q2 : ¬(3 : Int) < ro := by omega
  clear kr lr hcX hcs hfo hall
  go_enter Tryz.func178, Tryz.ntmps178
  go_upto_region 1 with fail
  rw [← hX]
  clear hX
  go_upto_region 7 with (first
    | (go_at_call 216; (with_reducible refine HOF.out.mono ?_); rintro e' w2 ⟨v2, rfl, ho2, hb2⟩; obtain ⟨A2, c2, rfl, _⟩ := owned_slice ho2)
    | (go_at_call 215; (with_reducible refine hwr.mono ?_); rintro e' w1 ⟨rfl, hb1⟩; have HOF := hid (of24_ok A n c ms w1 ((HCX.out.keep hb1).more hb1.size) hn HFO.out); have HB1 := hid hb1; clear hb1))
  obtain ⟨w3, hw3⟩ : ∃ w3, w3 = w2.alloc (.cells #[.int .i64 0, .int .i64 0] 190) := ⟨_, rfl⟩
  have l3 : Lat X w3 := by rw [hw3]; exact ((Lat.mk HB1.out).below hb2).alloc _
  have o3 : w3.ownsRow (w.heap.size + 1) 198 2 (.slice A2 (tl ms).length c2) (tl ms).length (sts (tl ms)) := by rw [hw3]; exact owned_less ((ho2.alloc _)) (by have := HB1.out.size; omega)
  rw [← hw3]
  have kr := l3.blk HKR.out
  obtain ⟨q0, q1', q2', q3, q4, q5, q6, q7⟩ := mcells kr
  obtain ⟨f0, f1, f2, f3, f4, f5, f6, f7⟩ := mfroz kr
  obtain ⟨hk, hb, hm⟩ := res_set 1 ep ro n 0 0 (.slice A2 (tl ms).length c2) nils kr (HLR.out.trans l3).b
  obtain ⟨p0, p1, p2, p3, p4, p5, p6, p7⟩ := mcells hk
  have HB := hid hb
  have HO := hid (show (setm w3 w.heap.size 1 ep ro n (.slice A2 (tl ms).length c2) 0 0 nils).ownsRow (w.heap.size + 1) 198 2 (.slice A2 (tl ms).length c2) (tl ms).length (sts (tl ms)) from by
    unfold setm
    repeat (refine ofar ?_ (by show w.heap.size < w.heap.size + 1; omega) _)
    exact o3)
  clear hk hb hm kr o3 l3 hw3 ho2 hb2 hwr HOF
  go_wp2_with fail
  refine bodyPost_ret (by simp [results, Tryz.results178, go_sem, p0, p1, p2, p3, p4, p5, p6, p7]; try rfl) rfl ?_
  exact ⟨A2, c2, rfl, HO.out, HB.out⟩
end Go.Proofs.YtbpnbcjgkbpmgaaGreat
