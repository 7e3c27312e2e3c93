/- A primary answers without waiting for the other site, as many times as its leash allows: of any acts. No condition. (part 46) -/
import Derived.Test.YtbpnbcjgkbpmgaaGreatMBi
import Derived.Test.YtbpnbcjgkbpmgaaGreatMBs
namespace Go.Proofs.YtbpnbcjgkbpmgaaGreat
open Go.RowKit Go.Lg Go.Shelf Ds St
set_option linter.unusedVariables false
set_option linter.unusedSimpArgs false
theorem tgN_lat {w W : World} {tag : Nat → Nat} {I : Nat → Prop} {b i : Nat} (hT : Tidy w tag) (l : Lat w W) (hb : w.heap.size ≤ b) (hb2 : b < W.heap.size) (hi : I i) : Turn I w tag W (tgN tag b i) := by
  refine ⟨Mod.of_below l.b, fun k hk => ?_, fun k hk => ?_, fun k hk => ?_⟩
  · unfold tgN; rw [if_neg (by omega)]
  · unfold tgN
    split
    · exact .inr hi
    · exact .inl (hT k hk)
  · have := l.size
    unfold tgN
    rw [if_neg (by omega)]
    exact hT k (by omega)
theorem new_disk {w w' : World} {tag : Nat → Nat} {i dz : Nat} {F : Fp} (hT : Tidy w tag) (hd : Dk w' F dz Ds.New) (hb : Below w.heap.size w w') (hF : ∀ k, F k → w.heap.size ≤ k) : ∃ tag', Turn (fun k => k = i) w tag w' tag' ∧ Dk w' (Ow tag' i) dz (At fun _ => []) := by
  have hsub : Sub w (Ow tag i) (fun k => F k ∨ tag k = i) := fun k hk => hk.elim (fun h => .inr (hF k h)) .inl
  exact ⟨_, turn_of hT (Mod.of_below hb) hsub rfl, hd.mv fun k hk hf => tgF_mv hsub k hk (.inl hf)⟩
theorem new_link {w w' : World} {tag : Nat → Nat} {z : Nat} (hT : Tidy w tag) (hx : Lk.LX (fun g => g < w.heap.size) false w' w.heap.size z 0 (.slice none 0 0) []) (hb : Below w.heap.size w w') (hz : z < w'.heap.size) : Turn Wp w tag w' (tgN tag z 21) ∧ LK w' (tgN tag z 21) 21 z 0 [] := by
  refine ⟨tgN_lat hT ⟨hb⟩ hx.hB hz (by unfold Wp; omega), .slice none 0 0, [], ⟨Nat.zero_le _, hx.blk, World.ownsRow_nil _ _ _ _, by simp, fun x hx => absurd hx List.not_mem_nil, fun g hg => hg.1, fun x hx => absurd hx List.not_mem_nil⟩, by unfold tgN; rw [if_pos rfl], fun g hg => by simp [Value.ownBlock] at hg, rfl⟩
abbrev nilq : Value := .pointer none
abbrev wdn (most : Int) (a b c d : Value) (lz : Nat) : Array Value := #[.int .i64 most, a, b, c, d, P lz, .slice none 0 0]
def NewA (w : World) (tag : Nat → Nat) (zw lz : Nat) (most : Int) (W : World) : Prop := ∃ tg, Turn Wp w tag W tg ∧ tg zw = 23 ∧ Blk W zw 71 (wdn most nilq nilq nilq nilq lz) ∧ LK W tg 21 lz 0 []
def NewB (w : World) (tag : Nat → Nat) (zw lz : Nat) (most : Int) (W : World) : Prop := ∃ tg d0 n0 z0, Turn Wp w tag W tg ∧ tg zw = 23 ∧ Blk W zw 71 (wdn most (P d0) (P n0) nilq nilq lz) ∧ LK W tg 21 lz 0 [] ∧ NM W tg 0 d0 n0 z0 0 most 0 (-1) p1 [] 0
def NewC (w : World) (tag : Nat → Nat) (zw lz : Nat) (most : Int) (W : World) : Prop := ∃ tg q, Turn Wp w tag W tg ∧ WM W tg zw most q ⟨p1, [], 0, -1, 0⟩ ⟨p2, [], 0, -1, 0⟩ 0 []
def NewI (w : World) (tag : Nat → Nat) (zw lz : Nat) (most : Int) (j : Nat) (W : World) : Prop := if j = 0 then NewA w tag zw lz most W else if j = 1 then NewB w tag zw lz most W else NewC w tag zw lz most W
theorem pr_w {i t : Nat} (ht : t = 0 ∨ t = 10) (h : Pr6 t i) : Wp i := by unfold Pr6 at h; unfold Wp; omega
theorem mv23 {W W' : World} {tg : Nat → Nat} {zw i : Nat} (m : Mod (fun k => k = zw) W W') (hz : tg zw = 23) (hi : i ≠ 23) : Mv W W' (Ow tg i) (Ow tg i) := m.mv fun k a b => by
  have h1 : tg k = i := a
  have h2 : k = zw := b
  rw [h2, hz] at h1
  exact hi h1.symm
set_option maxHeartbeats 4000000 in
set_option maxRecDepth 100000 in
theorem wnew19 {w : World} {tag : Nat → Nat} {most : Int} (hT : Tidy w tag) (m1 : 1 ≤ most) (m2 : most ≤ 16) :
    Calls Tryz.prog 19 #[.int .i64 most] w fun e w' => ∃ zw, e = .returned (.tuple #[P zw, .int .i64 0]) ∧ ∃ tg q, Turn Wp w tag w' tg ∧ WM w' tg zw most q ⟨p1, [], 0, -1, 0⟩ ⟨p2, [], 0, -1, 0⟩ 0 [] := by
  have hlc : ∀ X, Calls Tryz.prog 39 #[.int .i64 most] X (Num0 0 X) := fun X => lcheck39 most m1 m2 X
  have HLC := hid hlc
  have HT := hid hT
  have HM := hid (And.intro m1 m2)
  clear hlc hT m1 m2
  go_enter Tryz.func19, Tryz.ntmps19
  go_upto_region 6 with (first
    | (go_at_call 39; (with_reducible refine (HLC.out _).mono ?_); rintro e' w1 ⟨rfl, rfl⟩)
    | (go_at_call 40; (with_reducible refine (Lk.new9 (F := fun g => g < w.heap.size) w (fun g hg => hg)).mono ?_); rintro e' w4 ⟨lz, rfl, hx, hb4, hlz⟩))
  obtain ⟨hs4, lk4⟩ := new_link HT.out hx hb4 hlz
  obtain ⟨w5, hw5⟩ : ∃ w5, w5 = w4.alloc (.cells (wdn most nilq nilq nilq nilq lz) 71) := ⟨_, rfl⟩
  obtain ⟨zw, hzw⟩ : ∃ zw, zw = w4.heap.size := ⟨_, rfl⟩
  have hA : NewI w tag zw lz most 0 w5 := by
    rw [hw5, hzw]
    have l5 : Lat w4 (w4.alloc (.cells (wdn most nilq nilq nilq nilq lz) 71)) := (Lat.refl w4).alloc _
    have h5 := tgN_lat (I := Wp) (b := w4.heap.size) (i := 23) hs4.td l5 (Nat.le_refl _) (by simp) (by unfold Wp; omega)
    have h5b := tgN_lat (I := fun k => k = 23) (b := w4.heap.size) (i := 23) hs4.td l5 (Nat.le_refl _) (by simp) rfl
    exact ⟨_, hs4.trans h5, by unfold tgN; rw [if_pos rfl], Blk.new _ _ _, lk4.turn h5b (by omega)⟩
  have HA := hid hA
  rw [← hw5, ← hzw]
  clear hA hw5 hzw hs4 lk4 hx hb4 hlz
  go_loopg [19] 2 (fun g i wr => ∃ (j : Nat), j ≤ 2 ∧ g = 2 - j ∧ i = .int .i64 j ∧ Hid (NewI w tag zw lz most j wr))
  case atStart => exact ⟨0, by omega, rfl, rfl, HA⟩
  case round =>
    obtain ⟨j, hj, rfl, rfl, hri⟩ := hrel
    clear HA
    rcases (show j = 0 ∨ j = 1 ∨ j = 2 by omega) with rfl | rfl | rfl
    case inr.inr =>
      have hC : NewC w tag zw lz most wr := hri.out
      obtain ⟨tg, q, ht, hw⟩ := hC
      have HF := hid (And.intro ht hw)
      clear ht hw hri
      go_wp2_with fail
      go_ret2
      exact ⟨_, rfl, _, _, HF.out⟩
    case inl =>
      have hA : NewA w tag zw lz most wr := hri.out
      obtain ⟨tg, ht, hz, kb, lk⟩ := hA
      have HF := hid (And.intro ht (And.intro hz (And.intro kb lk)))
      clear ht hz kb lk hri
      go_wp2_with (first
        | (go_at_call 41; (with_reducible refine (new41 wr).mono ?_); rintro e' w6 ⟨dz, F, rfl, hd, hb6, hF6⟩)
        | (go_at_call 42; refine stop_ (fun Ps hPs => ?_)))
      refine hPs ?_
      clear hPs Ps
      obtain ⟨ht, hz, kb, lk⟩ := HF.out
      obtain ⟨tg6, ht6, hd6⟩ := new_disk (i := 1) ht.td hd hb6 hF6
      refine (ndnew42 (t := 0) (num := 0) ht6.td hd6 rfl rfl rfl rfl (show Pp.firstP 0 = (⟨1, 1, 0, 0, 0, 0⟩, 0) from rfl) (.inl rfl) (.inl rfl) HM.out.1 HM.out.2).mono ?_
      rintro e' w7 ⟨nz, rfl, tg7, z, ht7, hn7⟩
      have htW := (ht.trans (ht6.more fun i hi => by subst hi; unfold Wp; omega)).trans (ht7.more fun i hi => pr_w (.inl rfl) hi)
      have hz6 := (ht6.old zw kb.lt).trans hz
      have kb6 := ht6.blk kb (by rw [hz]; decide)
      have hz7 := (ht7.old zw kb6.lt).trans hz6
      have kb7 := ht7.blk kb6 (by rw [hz6]; unfold Pr6; omega)
      have lk7 := (lk.turn ht6 (by decide)).turn ht7 (by unfold Pr6; omega)
      have hlt : w.heap.size ≤ w7.heap.size := htW.size
      have km := (kb7.set_ 1 (P dz)).set_ 2 (P nz)
      have mm := (mod_set w7 zw 1 (P dz)).trans_ (mod_set (w7.setCell ⟨zw, 1, none⟩ (P dz)) zw 2 (P nz))
      have hB : NewI w tag zw lz most 1 ((w7.setCell ⟨zw, 1, none⟩ (P dz)).setCell ⟨zw, 2, none⟩ (P nz)) :=
        ⟨tg7, dz, nz, z, htW.nd mm fun k hk => .inl (by subst hk; rw [hz7]; unfold Wp; omega), hz7, km, lk7.mv mm.size (mv23 mm hz7 (by decide)), hn7.mv fun i hi => mv23 mm hz7 (by unfold Pr6 at hi; omega)⟩
      have f1 : w7.frozen? ⟨zw, 1, none⟩ = false := kb7.frozen 1
      have f2 : w7.frozen? ⟨zw, 2, none⟩ = false := kb7.frozen 2
      have c1 : w7.cell? ⟨zw, 1, none⟩ = some nilq := kb7.cell 1
      have c2 : w7.cell? ⟨zw, 2, none⟩ = some nilq := kb7.cell 2
      have HB := hid hB
      clear ht hz kb lk ht6 hd6 ht7 hn7 htW hz6 kb6 hz7 kb7 lk7 hlt km mm hB hd hb6 hF6
      go_wp2_with fail
      go_roundg (2 - 1)
      case measure => omega
      case rel => exact ⟨1, by omega, rfl, by go_num, HB⟩
    case inr.inl =>
      have hB : NewB w tag zw lz most wr := hri.out
      obtain ⟨tg, d0, n0, z0, ht, hz, kb, lk, nm⟩ := hB
      have HF := hid (And.intro ht (And.intro hz (And.intro kb (And.intro lk nm))))
      clear ht hz kb lk nm hri
      go_wp2_with (first
        | (go_at_call 41; (with_reducible refine (new41 wr).mono ?_); rintro e' w6 ⟨dz, F, rfl, hd, hb6, hF6⟩)
        | (go_at_call 42; refine stop_ (fun Ps hPs => ?_)))
      refine hPs ?_
      clear hPs Ps
      obtain ⟨ht, hz, kb, lk, nm⟩ := HF.out
      obtain ⟨tg6, ht6, hd6⟩ := new_disk (i := 11) ht.td hd hb6 hF6
      refine (ndnew42 (t := 10) (num := 1) ht6.td hd6 rfl rfl rfl rfl (show Pp.firstP 1 = (⟨1, 2, 0, 0, 0, 0⟩, 0) from rfl) (.inr rfl) (.inr rfl) HM.out.1 HM.out.2).mono ?_
      rintro e' w7 ⟨nz, rfl, tg7, z, ht7, hn7⟩
      have htW := (ht.trans (ht6.more fun i hi => by subst hi; unfold Wp; omega)).trans (ht7.more fun i hi => pr_w (.inr rfl) hi)
      have hz6 := (ht6.old zw kb.lt).trans hz
      have kb6 := ht6.blk kb (by rw [hz]; decide)
      have hz7 := (ht7.old zw kb6.lt).trans hz6
      have kb7 := ht7.blk kb6 (by rw [hz6]; unfold Pr6; omega)
      have lk7 := (lk.turn ht6 (by decide)).turn ht7 (by unfold Pr6; omega)
      have nm7 := (nm.turn ht6 (fun i hi => by unfold Pr6; omega)).turn ht7 (fun i hi => by unfold Pr6 at hi ⊢; omega)
      have hlt : w.heap.size ≤ w7.heap.size := htW.size
      have km := (kb7.set_ 3 (P dz)).set_ 4 (P nz)
      have mm := (mod_set w7 zw 3 (P dz)).trans_ (mod_set (w7.setCell ⟨zw, 3, none⟩ (P dz)) zw 4 (P nz))
      have hC : NewI w tag zw lz most 2 ((w7.setCell ⟨zw, 3, none⟩ (P dz)).setCell ⟨zw, 4, none⟩ (P nz)) :=
        ⟨tg7, ⟨d0, n0, z0, dz, nz, z, lz⟩, htW.nd mm fun k hk => .inl (by subst hk; rw [hz7]; unfold Wp; omega), .slice none 0 0, [], km, hz7, nm7.mv fun i hi => mv23 mm hz7 (by unfold Pr6 at hi; omega), hn7.mv fun i hi => mv23 mm hz7 (by unfold Pr6 at hi; omega), lk7.mv mm.size (mv23 mm hz7 (by decide)), Cl.nil_ _ _, Nat.le_refl _⟩
      have f1 : w7.frozen? ⟨zw, 3, none⟩ = false := kb7.frozen 3
      have f2 : w7.frozen? ⟨zw, 4, none⟩ = false := kb7.frozen 4
      have c1 : w7.cell? ⟨zw, 3, none⟩ = some nilq := kb7.cell 3
      have c2 : w7.cell? ⟨zw, 4, none⟩ = some nilq := kb7.cell 4
      have HC := hid hC
      clear ht hz kb lk nm ht6 hd6 ht7 hn7 htW hz6 kb6 hz7 kb7 lk7 nm7 hlt km mm hC hd hb6 hF6
      go_wp2_with fail
      go_roundg (2 - 2)
      case measure => omega
      case rel => exact ⟨2, by omega, rfl, by go_num, HC⟩
end Go.Proofs.YtbpnbcjgkbpmgaaGreat
namespace Go.Proofs.YtbpnbcjgkbpmgaaGreat
open Go.RowKit Go.Lg Go.Shelf Ds St
set_option linter.unusedVariables false
set_option linter.unusedSimpArgs false
set_option maxHeartbeats 1000000 in
set_option maxRecDepth 100000 in
theorem put10 (nd : Int) (key val : ByteArray) (w : World) : Calls Tryz.prog 10 #[.int .i64 nd, .string key, .string val] w fun e w' => ∃ A c, e = .returned (.agg (actc 1 nd 0 0 noStr A 1 c)) ∧ Ro w' (fun k => w.heap.size ≤ k) A 1 c (opc [⟨true, key, val⟩]) ∧ Below w.heap.size w w' := by
  obtain ⟨W, hW⟩ : ∃ W, W = w.alloc (.cells #[.int .i64 0, .int .i64 0, .int .i64 0, .int .i64 0, .string noStr, .slice none 0 0] 30) := ⟨_, rfl⟩
  have lW : Lat w W := by rw [hW]; exact (Lat.refl w).alloc _
  have kW : Blk W w.heap.size 30 (actc 0 0 0 0 noStr none 0 0) := by rw [hW]; exact Blk.new _ _ _
  have f0 : W.frozen? ⟨w.heap.size, 0, none⟩ = false := kW.frozen 0
  have f1 : W.frozen? ⟨w.heap.size, 1, none⟩ = false := kW.frozen 1
  have f2 : W.frozen? ⟨w.heap.size, 2, none⟩ = false := kW.frozen 2
  have f3 : W.frozen? ⟨w.heap.size, 3, none⟩ = false := kW.frozen 3
  have f4 : W.frozen? ⟨w.heap.size, 4, none⟩ = false := kW.frozen 4
  have f5 : W.frozen? ⟨w.heap.size, 5, none⟩ = false := kW.frozen 5
  obtain ⟨x0, x1, x2, x3, x4, x5⟩ := actcells kW
  have hWs : W.heap.size = w.heap.size + 1 := by rw [hW]; simp
  have HB := hid (And.intro lW kW)
  clear lW kW
  go_enter Tryz.func10, Tryz.ntmps10
  go_upto_region 1 with fail
  rw [← hW]
  clear hW
  go_wp2_with fail
  obtain ⟨lW, kW⟩ := HB.out
  obtain ⟨Y, hY⟩ : ∃ Y, Y = (((((W.setCell ⟨w.heap.size, 0, none⟩ (.int .i64 1)).setCell ⟨w.heap.size, 1, none⟩ (.int .i64 nd)).setCell ⟨w.heap.size, 2, none⟩ (.int .i64 0)).setCell ⟨w.heap.size, 3, none⟩ (.int .i64 0)).setCell ⟨w.heap.size, 4, none⟩ (.string noStr)).setCell ⟨w.heap.size, 5, none⟩ (.slice (some ⟨w.heap.size + 1, 0, none⟩) 1 1) := ⟨_, rfl⟩
  have hkf : Blk Y w.heap.size 30 (actc 1 nd 0 0 noStr (some ⟨w.heap.size + 1, 0, none⟩) 1 1) := by rw [hY]; exact (((((kW.set_ 0 _).set_ 1 _).set_ 2 _).set_ 3 _).set_ 4 _).set_ 5 _
  have hm : Mod (fun k => k = w.heap.size) W Y := by rw [hY]; exact mod_setc (mod_setc (mod_setc (mod_setc (mod_setc (mod_setc (Mod.refl _ _) 0 _) 1 _) 2 _) 3 _) 4 _) 5 _
  have hYs : Y.heap.size = w.heap.size + 1 := by rw [hY]; simp [hWs]
  rw [← hY]
  clear hY f0 f1 f2 f3 f4 f5 x0 x1 x2 x3 x4 x5
  have lY : Lat w Y := ⟨Below.trans_mod lW.b hm (Nat.le_refl _) lW.size⟩
  have kR : Blk (Y.alloc (.cells #[.bool true, .string key, .string val] 77)) (w.heap.size + 1) 77 #[.bool true, .string key, .string val] := by
    have := Blk.new Y 77 #[.bool true, .string key, .string val]
    rwa [hYs] at this
  have kf2 := hkf.alloc (.cells #[.bool true, .string key, .string val] 77)
  obtain ⟨d0, d1, d2, d3, d4, d5⟩ := actcells kf2
  refine bodyPost_ret (by simp [results, Tryz.results10, go_sem, d0, d1, d2, d3, d4, d5]; try rfl) rfl ?_
  exact ⟨_, _, rfl, ⟨(RdF.of_blk kR 1 3 rfl).mv (Mv.same fun k _ hk => by have h1 : k = w.heap.size + 1 := hk; show w.heap.size ≤ k; omega), by decide, by decide⟩, (lY.alloc _).b⟩
set_option maxHeartbeats 1000000 in
set_option maxRecDepth 100000 in
theorem pick20 (x : Int) (w : World) : Calls Tryz.prog 20 #[.int .i64 x, .int .i64 16] w fun e w' => ∃ r, e = .returned (.int .i64 r) ∧ 0 ≤ r ∧ r ≤ 15 ∧ w = w' := by
  have h1 := Int.tmod_lt_of_pos x (show (0 : Int) < 16 by decide)
  have h2 := Int.lt_tmod_of_pos x (show (0 : Int) < 16 by decide)
  go_enter Tryz.func20, Tryz.ntmps20
  go_wp2_with fail
  all_goals (go_ret; exact ⟨_, rfl, by omega, by omega, rfl⟩)
set_option maxHeartbeats 1000000 in
set_option maxRecDepth 100000 in
theorem made7 {w : World} {tag : Nat → Nat} (hT : Tidy w tag) (x : Int) :
    Calls Tryz.prog 7 #[.int .i64 x] w fun e w' => ∃ zw most, e = .returned (.tuple #[P zw, .int .i64 most]) ∧ 1 ≤ most ∧ most ≤ 16 ∧ ∃ tg q, Turn Wp w tag w' tg ∧ WM w' tg zw most q ⟨p1, [], 0, -1, 0⟩ ⟨p2, [], 0, -1, 0⟩ 0 [] := by
  have HT := hid hT
  clear hT
  go_enter Tryz.func7, Tryz.ntmps7
  go_wp2_with (first
    | (go_at_call 20; (with_reducible refine (pick20 x w).mono ?_); rintro e1 w1 ⟨r, rfl, h0, h15, rfl⟩; have hw : wrap64 (1 + r) = 1 + r := by simp only [wrap64]; omega)
    | (go_at_call 19; refine stop_ (fun Ps hPs => ?_)))
  refine hPs ?_
  clear hPs Ps
  refine (wnew19 HT.out (most := 1 + r) (by omega) (by omega)).mono ?_
  rintro e2 w2 ⟨zw, rfl, tg, q, ht, hw⟩
  have HF := hid (And.intro ht hw)
  clear ht hw
  go_wp2_with fail
  go_ret2
  exact ⟨_, _, rfl, by omega, by omega, _, _, HF.out⟩
end Go.Proofs.YtbpnbcjgkbpmgaaGreat
namespace Go.Proofs.YtbpnbcjgkbpmgaaGreat
open Go.RowKit Go.Lg Go.Shelf Ds St
set_option linter.unusedVariables false
set_option linter.unusedSimpArgs false
structure Am where
  kind : Int
  nd : Int
  nn : Int
  tt : Int
  key : ByteArray
  A : Option Addr
  k : Nat
  c : Nat
  os : List Op3
def Am.cs (x : Am) : List Value := [.int .i64 x.kind, .int .i64 x.nd, .int .i64 x.nn, .int .i64 x.tt, .string x.key, .slice x.A x.k x.c]
def amc (l : List Am) : List Value := l.flatMap Am.cs
structure Am.ok (w : World) (B : Nat) (x : Am) : Prop where
  rd : OS w B x.A x.k x.os
  le : x.k ≤ x.c
  max : x.c ≤ maxLen
  key : x.key.size ≤ maxLen
def AS (w : World) (B : Nat) (A : Option Addr) (n : Nat) (l : List Am) : Prop := Rd w B 6 A n (amc l) ∧ l.length = n ∧ ∀ x ∈ l, x.ok w B
theorem Am.ok.below {w w' : World} {B : Nat} {x : Am} (h : x.ok w B) (hb : Below B w w') : x.ok w' B := ⟨h.rd.keep hb, h.le, h.max, h.key⟩
theorem AS.below {w w' : World} {B n : Nat} {A : Option Addr} {l : List Am} (h : AS w B A n l) (hb : Below B w w') : AS w' B A n l := ⟨h.1.below hb, h.2.1, fun x hx => (h.2.2 x hx).below hb⟩
theorem amc_len (l : List Am) : (amc l).length = l.length * 6 := by
  induction l with
  | nil => rfl
  | cons a l ih => simp only [amc, Am.cs, List.flatMap_cons, List.length_append, List.length_cons, List.length_nil] at ih ⊢; omega
theorem amc_get : ∀ (l : List Am) (j : Nat) (x : Am), l[j]? = some x → (amc l)[j * 6]? = some (.int .i64 x.kind) ∧ (amc l)[j * 6 + 1]? = some (.int .i64 x.nd) ∧ (amc l)[j * 6 + 2]? = some (.int .i64 x.nn) ∧ (amc l)[j * 6 + 3]? = some (.int .i64 x.tt) ∧ (amc l)[j * 6 + 4]? = some (.string x.key) ∧ (amc l)[j * 6 + 5]? = some (.slice x.A x.k x.c)
  | [], j, x, h => by cases h
  | a :: l, 0, x, h => by
    simp at h
    subst h
    exact ⟨rfl, rfl, rfl, rfl, rfl, rfl⟩
  | a :: l, j + 1, x, h => by
    have h1 := amc_get l j x (by simpa using h)
    have e : amc (a :: l) = [.int .i64 a.kind, .int .i64 a.nd, .int .i64 a.nn, .int .i64 a.tt, .string a.key, .slice a.A a.k a.c] ++ amc l := rfl
    have s : ∀ i, (amc (a :: l))[(j + 1) * 6 + i]? = (amc l)[j * 6 + i]? := fun i => by
      rw [e, List.getElem?_append_right (by simp; omega)]
      congr 1
      simp
      omega
    exact ⟨(s 0).trans h1.1, (s 1).trans h1.2.1, (s 2).trans h1.2.2.1, (s 3).trans h1.2.2.2.1, (s 4).trans h1.2.2.2.2.1, (s 5).trans h1.2.2.2.2.2⟩
theorem AS.at_ {w : World} {B n : Nat} {A : Option Addr} {l : List Am} (h : AS w B A n l) {j : Nat} (hj : j < n) :
    ∃ b off x, A = some ⟨b, off, none⟩ ∧ b < B ∧ l[j]? = some x ∧ x.ok w B ∧ w.cell? ⟨b, off + j * 6, none⟩ = some (.int .i64 x.kind) ∧ w.cell? ⟨b, off + j * 6 + 1, none⟩ = some (.int .i64 x.nd) ∧ w.cell? ⟨b, off + j * 6 + 2, none⟩ = some (.int .i64 x.nn) ∧ w.cell? ⟨b, off + j * 6 + 3, none⟩ = some (.int .i64 x.tt) ∧ w.cell? ⟨b, off + j * 6 + 4, none⟩ = some (.string x.key) ∧ w.cell? ⟨b, off + j * 6 + 5, none⟩ = some (.slice x.A x.k x.c) := by
  obtain ⟨b, off, e, hb, hc⟩ := h.1.2 (by omega)
  have hl := h.2.1
  obtain ⟨x, hx⟩ : ∃ x, l[j]? = some x := ⟨l[j]'(by omega), List.getElem?_eq_getElem _⟩
  obtain ⟨g0, g1, g2, g3, g4, g5⟩ := amc_get l j x hx
  exact ⟨b, off, x, e, hb, hx, h.2.2 x (List.mem_of_getElem? hx), hc _ _ g0, by rw [Nat.add_assoc]; exact hc _ _ g1, by rw [Nat.add_assoc]; exact hc _ _ g2, by rw [Nat.add_assoc]; exact hc _ _ g3, by rw [Nat.add_assoc]; exact hc _ _ g4, by rw [Nat.add_assoc]; exact hc _ _ g5⟩
def SmallA (l : List Am) : Prop := (∀ x ∈ l, x.k ≤ 40) ∧ l.length ≤ 120
instance (l : List Am) : Decidable (SmallA l) := inferInstanceAs (Decidable (_ ∧ _))
set_option maxHeartbeats 2000000 in
set_option maxRecDepth 100000 in
theorem small8 (A : Option Addr) (n c : Nat) (l : List Am) (w : World) (h : AS w w.heap.size A n l) (hn : n ≤ 9223372036854775807) :
    Calls Tryz.prog 8 #[.slice A n c] w fun e w' => e = .returned (.bool (decide (SmallA l))) ∧ w = w' := by
  have HL := hid h.2.1
  have HR := hid h
  clear h
  go_enter Tryz.func8, Tryz.ntmps8
  go_wp2_with fail
  go_loopg [3] n (fun g i wr => ∃ k : Nat, k ≤ n ∧ g = n - k ∧ i = .int .i64 k ∧ wr = w ∧ Hid (∀ (j : Nat) (x : Am), j < k → l[j]? = some x → x.k ≤ 40))
  case atStart => exact ⟨0, by omega, rfl, rfl, rfl, hid fun j x hj => absurd hj (by omega)⟩
  case round =>
    obtain ⟨k, hk, rfl, rfl, rfl, A0⟩ := hrel
    by_cases hlt : k < n
    · obtain ⟨b, off, x, rfl, hb, hx, hok, c0, c1, c2, c3, c4, c5⟩ := HR.out.at_ hlt
      have hki : (k : Int) < (n : Int) := by omega
      have HX := hid hx
      clear hx hok c0 c1 c2 c3 c4
      by_cases h40 : 40 < x.k
      · have h4i : (40 : Int) < (x.k : Int) := by omega
        have HH := hid h40
        clear h40
        go_wp2_with fail
        go_ret
        refine ⟨?_, rfl⟩
        rw [decide_eq_false (fun hs => by have h1 := hs.1 x (List.mem_of_getElem? HX.out); have h2 := HH.out; omega)]
        rfl
      · have h4i : ¬ (40 : Int) < (x.k : Int) := by omega
        have HH := hid h40
        clear h40
        go_wp2_with fail
        go_roundg (n - (k + 1))
        case measure => omega
        case rel =>
          refine ⟨k + 1, by omega, rfl, by go_num, rfl, hid fun j y hj hy => ?_⟩
          rcases Nat.lt_or_ge j k with h1 | h1
          · exact A0.out j y h1 hy
          · obtain rfl : j = k := by omega
            rw [HX.out] at hy
            have := HH.out
            obtain rfl := Option.some.inj hy
            omega
    · obtain rfl : k = n := by omega
      have hki : ¬ (k : Int) < (k : Int) := by omega
      have HA : Hid (∀ x ∈ l, x.k ≤ 40) := hid fun x hx => by
        obtain ⟨j, hj⟩ := List.mem_iff_getElem?.1 hx
        exact A0.out j x (by have := (List.getElem?_eq_some_iff.1 hj).1; have := HL.out; omega) hj
      by_cases h12 : k ≤ 120
      · have h12i : (k : Int) ≤ 120 := by omega
        have HS := hid (show SmallA l from ⟨HA.out, by have := HL.out; omega⟩)
        go_wp2_with fail
        go_ret
        refine ⟨?_, rfl⟩
        rw [decide_eq_true HS.out]
        rfl
      · have h12i : ¬ (k : Int) ≤ 120 := by omega
        have HS := hid (show ¬ SmallA l from fun hs => by have := hs.2; have := HL.out; omega)
        go_wp2_with fail
        go_ret
        refine ⟨?_, rfl⟩
        rw [decide_eq_false HS.out]
        rfl
end Go.Proofs.YtbpnbcjgkbpmgaaGreat
namespace Go.Proofs.YtbpnbcjgkbpmgaaGreat
open Go.RowKit Go.Lg Go.Shelf Ds St
set_option linter.unusedVariables false
set_option linter.unusedSimpArgs false
set_option maxHeartbeats 1000000 in
set_option maxRecDepth 100000 in
theorem wlog12 {w : World} {tag : Nat → Nat} {zw : Nat} {most : Int} {q : Wz} {s0 s1 : Ps} {last : Int} {ks : List Lk.Key} (h : WM w tag zw most q s0 s1 last ks) (m1 : 1 ≤ most) (hB : s1.B ≤ 1000000) :
    Calls Tryz.prog 12 #[P zw, .int .i64 1] w fun e w' => ∃ A c, e = .returned (.slice A (wscan (logB s1.cs)).1.length c) ∧ Below w.heap.size w w' := by
  obtain ⟨vA, ms, blk, hz, mm0, mm1, lk, an, hA⟩ := h
  obtain ⟨c0, c1, c2, c3, c4, c5, c6⟩ := wdcells blk
  have his := wis27 blk m1 1
  rw [show decide ((1 : Int) = 0 ∨ (1 : Int) = 1) = true from rfl] at his
  obtain ⟨wz, rz, sz, n, es, fs, sm, blkn, hzn, hn, he, hw, hf, h0⟩ := mm1
  have hl0 := len_le_tot fs (f := 0) (by decide)
  have hl1 := len_le_tot fs (f := 1) (by decide)
  have hdu := durable30 sm.dk (by show (fs 0).length + (fs 1).length + (fs 2).length + (fs 3).length + 64 * 0 ≤ _; unfold tot at hf; omega) 0 (by decide)
  rw [show (At fs).dur 0 = logB s1.cs from h0] at hdu
  have hlen : (logB s1.cs).length ≤ 2000000 := by rw [← h0]; omega
  have HDU := hid hdu
  have HLE := hid hlen
  clear blk mm0 lk an sm blkn hz hA hzn hn he hw hf h0 hl0 hl1 hdu hlen
  go_enter Tryz.func12, Tryz.ntmps12
  go_wp2_with (first
    | (go_at_call 27; (with_reducible refine his.mono ?_); rintro e1 w1 ⟨rfl, rfl⟩)
    | (go_at_call 30; refine stop_ (fun Ps hPs => ?_)))
  refine hPs ?_
  clear hPs Ps
  refine HDU.out.mono ?_
  rintro e2 w2 ⟨v, rfl, hs2, hb2⟩
  obtain ⟨A2, c2, rfl, hlc2, hcm2⟩ := hs2.slice_
  have HSC := hid (wscan31 (hs2.rdf.rd (by decide)) HLE.out hlc2 hcm2)
  have HB2 := hid hb2
  clear hs2 hb2
  go_wp2_with (go_at_call 31; refine stop_ (fun Ps hPs => ?_))
  refine hPs ?_
  clear hPs Ps
  refine HSC.out.mono ?_
  rintro e3 w3 ⟨vC, ms3, rfl, hm3, hc3, hb3⟩
  obtain ⟨A3, c3, hv3, _⟩ := hc3.row.slice_
  subst hv3
  have HF := hid (And.intro hm3 (bl_trans HB2.out hb3 HB2.out.size))
  clear hm3 hc3 hb3
  go_wp2_with fail
  go_ret
  exact ⟨A3, c3, by rw [← HF.out.1]; simp, HF.out.2⟩
end Go.Proofs.YtbpnbcjgkbpmgaaGreat
namespace Go.Proofs.YtbpnbcjgkbpmgaaGreat
open Go.RowKit Go.Lg Go.Shelf Ds St
set_option linter.unusedVariables false
set_option linter.unusedSimpArgs false
theorem WM.m0' {w : World} {tag : Nat → Nat} {zw : Nat} {most : Int} {q : Wz} {s0 s1 : Ps} {last : Int} {ks : List Lk.Key} (h : WM w tag zw most q s0 s1 last ks) : NM w tag 0 q.d0 q.n0 q.z0 0 most s0.ac s0.kn s0.p s0.cs s0.B := by obtain ⟨vA, ms, blk, hz, mm0, mm1, lk, an, hA⟩ := h; exact mm0
theorem WM.m1' {w : World} {tag : Nat → Nat} {zw : Nat} {most : Int} {q : Wz} {s0 s1 : Ps} {last : Int} {ks : List Lk.Key} (h : WM w tag zw most q s0 s1 last ks) : NM w tag 10 q.d1 q.n1 q.z1 1 most s1.ac s1.kn s1.p s1.cs s1.B := by obtain ⟨vA, ms, blk, hz, mm0, mm1, lk, an, hA⟩ := h; exact mm1
structure Iv (most : Int) (k : Nat) (S : PW) : Prop where
  p0 : S.s0.p = p1
  o0 : One 0 S.s0.cs
  a0 : S.s0.ac = 0
  n0 : S.s0.kn = -1
  l0 : (S.s0.cs.length : Int) ≤ most
  b0 : S.s0.B ≤ 2000 * k
  q1 : S.s1.p = p2
  c1 : S.s1.cs = []
  n1 : S.s1.kn = -1
  t0 : 0 ≤ S.last
  t1 : S.last ≤ 2 * k
def DoIs (tag : Nat → Nat) (zw : Nat) (most : Int) (q : Wz) (R : Int → Int → PW → Prop) (w : World) (e : Ending) (w' : World) : Prop :=
  ∃ er nr sv tb N S', R er nr S' ∧ ADid tag zw most q er nr sv tb N S'.s0 S'.s1 S'.last S'.ks w e w'
theorem cmk_ok {os : List Op3} {num : Int} (hb : bk os = 0) (h : 1 ≤ num ∧ num ≤ 1048576) : (Cmt.mk 1 num os).k = 0 := by
  unfold Cmt.k
  rw [if_pos ⟨⟨Int.le_refl 1, (by decide : (1 : Int) ≤ 1048576)⟩, h⟩]
  exact hb
section
variable {w : World} {tag : Nat → Nat} {zw : Nat} {most : Int} {q : Wz} {S : PW} {k : Nat} {A : Option Addr} {kk c : Nat} {os : List Op3}
theorem do_commit (hT : Tidy w tag) (h : WMp w tag zw most q S) (hI : Iv most k S) (hk : k ≤ 140) (m1 : 1 ≤ most) (m2 : most ≤ 16) (nn tt : Int) (key : ByteArray) (ho : Ro w (Ow tag 0) A kk c (opc os)) (hl : os.length = kk) :
    Calls Tryz.prog 9 #[P zw, .agg (actc 1 0 nn tt key A kk c)] w (DoIs tag zw most q (fun er nr S' => er = cmE os S.s0.cs S.s0.ac most ∧ nr = cmN os S.s0.cs S.s0.ac most ∧ S' = ⟨cmS os S.s0 most, S.s1, S.last, S.ks⟩) w) := by
  have h0 := hI.l0
  have hb := hI.b0
  have ha := hI.a0
  refine (wdo9_at1 0 (.inl rfl) nn tt key hT h m1 (fun X l => wat28_commit nn tt key (hT.below l.size) (h.later l) (fun Y l2 => wcommit53 ((hT.below l.size).below l2.size) ((h.later l).later l2) 1 nn tt key (ho.later (l.trans l2).b) hl hI.p0 hI.o0 (by omega) m1 m2 (by omega) (by omega) (by omega)))).mono fun e w' hd => ?_
  exact ⟨_, _, _, _, _, ⟨cmS os S.s0 most, S.s1, S.last, S.ks⟩, ⟨rfl, rfl, rfl⟩, hd⟩
theorem Iv.next (hI : Iv most k S) {last' : Int} {ks' : List Lk.Key} (h0 : 0 ≤ last') (h1 : last' ≤ S.last + 2) : Iv most (k + 1) ⟨S.s0, S.s1, last', ks'⟩ :=
  ⟨hI.p0, hI.o0, hI.a0, hI.n0, hI.l0, by have := hI.b0; show S.s0.B ≤ _; omega, hI.q1, hI.c1, hI.n1, h0, by have := hI.t1; show last' ≤ _; omega⟩
theorem do_read (hT : Tidy w tag) (h : WMp w tag zw most q S) (hI : Iv most k S) (hk : k ≤ 140) (m1 : 1 ≤ most) (nd nn tt : Int) (key : ByteArray) (hkey : key.size ≤ maxLen) :
    Calls Tryz.prog 9 #[P zw, .agg (actc 2 nd nn tt key A kk c)] w (DoIs tag zw most q (fun _ _ S' => Iv most (k + 1) S' ∧ S'.s0 = S.s0) w) := by
  have hN : Iv most (k + 1) S := hI.next hI.t0 (by omega)
  by_cases hnd : nd = 0 ∨ nd = 1
  · rcases hnd with rfl | rfl
    · refine (wdo9_at2 0 (.inl rfl) nn tt key hT h m1 (fun X l => wat28_read0 (rs := told (tabOf S.s0.cs (kb key))) nn tt key (hT.below l.size) (h.later l) (fun Y l2 => ?_))).mono fun e w' hd => ⟨_, _, _, _, _, S, ⟨hN, rfl⟩, hd⟩
      have hm := ((h.later l).later l2).m0'
      rw [hI.p0] at hm
      exact ndread54 hm (.inl rfl) key hkey
    · refine (wdo9_at2 1 (.inr rfl) nn tt key hT h m1 (fun X l => wat28_read1 (rs := told (tabOf S.s1.cs (kb key))) nn tt key (hT.below l.size) (h.later l) (fun Y l2 => ?_))).mono fun e w' hd => ⟨_, _, _, _, _, S, ⟨hN, rfl⟩, hd⟩
      have hm := ((h.later l).later l2).m1'
      rw [hI.q1] at hm
      exact ndread54 hm (.inr rfl) key hkey
  · exact (wdo9_arg2 nd nn tt key hT h m1 hnd).mono fun e w' hd => ⟨_, _, _, _, _, S, ⟨hN, rfl⟩, hd⟩
theorem do_tick (hT : Tidy w tag) (h : WMp w tag zw most q S) (hI : Iv most k S) (hk : k ≤ 140) (m1 : 1 ≤ most) (m2 : most ≤ 16) (nd nn tt : Int) (key : ByteArray) :
    Calls Tryz.prog 9 #[P zw, .agg (actc 3 nd nn tt key A kk c)] w (DoIs tag zw most q (fun _ _ S' => Iv most (k + 1) S' ∧ S'.s0 = S.s0) w) := by
  have ht0 := hI.t0
  have ht1 := hI.t1
  have hl0 := hI.l0
  by_cases hnd : nd = 0 ∨ nd = 1
  · rcases hnd with rfl | rfl
    · refine (wdo9_at3 0 (.inl rfl) nn tt key hT h m1 (fun X l => wat28_tick0 nn tt key (hT.below l.size) (h.later l) (fun Y l2 => wtick51 0 (by decide) 1 (.inl rfl) S.s0.cs (-1) ((hT.below l.size).below l2.size) ((h.later l).later l2) ⟨hI.p0, rfl, hI.n0⟩ hI.o0 (by omega) ht0 (by omega)))).mono fun e w' hd => ⟨_, _, _, _, _, ⟨S.s0, S.s1, (postL (1 - ((0 : Nat) : Int)) ((dueM 1 S.s0.cs (-1)).map Msg.enc) (S.last, S.ks)).1, (postL (1 - ((0 : Nat) : Int)) ((dueM 1 S.s0.cs (-1)).map Msg.enc) (S.last, S.ks)).2⟩, ⟨?_, rfl⟩, hd⟩
      have h1 := postL_le (1 - ((0 : Nat) : Int)) ((dueM 1 S.s0.cs (-1)).map Msg.enc) (S.last, S.ks)
      have h2 := (due_len (ro := 1) (kn := -1) hI.o0).2
      simp only at h1
      exact hI.next (by omega) (by omega)
    · refine (wdo9_at3 1 (.inr rfl) nn tt key hT h m1 (fun X l => wat28_tick1 nn tt key (hT.below l.size) (h.later l) (fun Y l2 => wtick51 1 (by decide) 2 (.inr rfl) [] (-1) ((hT.below l.size).below l2.size) ((h.later l).later l2) ⟨hI.q1, hI.c1, hI.n1⟩ trivial (by simp) ht0 (by omega)))).mono fun e w' hd => ⟨_, _, _, _, _, ⟨S.s0, S.s1, (postL (1 - ((1 : Nat) : Int)) ((dueM 2 [] (-1)).map Msg.enc) (S.last, S.ks)).1, (postL (1 - ((1 : Nat) : Int)) ((dueM 2 [] (-1)).map Msg.enc) (S.last, S.ks)).2⟩, ⟨?_, rfl⟩, hd⟩
      have h1 := postL_le (1 - ((1 : Nat) : Int)) ((dueM 2 [] (-1)).map Msg.enc) (S.last, S.ks)
      have h2 := (due_len (ro := 2) (kn := -1) (cs := []) trivial).2
      simp only at h1
      exact hI.next (by omega) (by omega)
  · exact (wdo9_arg3 nd nn tt key hT h m1 hnd).mono fun e w' hd => ⟨_, _, _, _, _, S, ⟨hI.next ht0 (by omega), rfl⟩, hd⟩
theorem do_twice (hT : Tidy w tag) (h : WMp w tag zw most q S) (hI : Iv most k S) (hk : k ≤ 140) (m1 : 1 ≤ most) (nd nn tt : Int) (key : ByteArray) :
    Calls Tryz.prog 9 #[P zw, .agg (actc 7 nd nn tt key A kk c)] w (DoIs tag zw most q (fun _ _ S' => Iv most (k + 1) S' ∧ S'.s0 = S.s0) w) := by
  have ht0 := hI.t0
  have ht1 := hI.t1
  refine (wdo9_twice nd ht0 (by omega) nn tt key hT h m1 trivial).mono fun e w' hd => ⟨_, _, _, _, _, ⟨S.s0, S.s1, Lk.tL S.last nn S.ks, Lk.tK S.last nn S.ks⟩, ⟨?_, rfl⟩, hd⟩
  have h1 : Lk.tL S.last nn S.ks = S.last + 1 ∨ Lk.tL S.last nn S.ks = S.last := by unfold Lk.tL; split <;> simp
  exact hI.next (by omega) (by omega)
theorem do_drop (hT : Tidy w tag) (h : WMp w tag zw most q S) (hI : Iv most k S) (hk : k ≤ 140) (m1 : 1 ≤ most) (nd nn tt : Int) (key : ByteArray) :
    Calls Tryz.prog 9 #[P zw, .agg (actc 8 nd nn tt key A kk c)] w (DoIs tag zw most q (fun _ _ S' => Iv most (k + 1) S' ∧ S'.s0 = S.s0) w) := by
  have ht0 := hI.t0
  have ht1 := hI.t1
  exact (wdo9_drop nd ht0 (by omega) nn tt key hT h m1 trivial).mono fun e w' hd => ⟨_, _, _, _, _, ⟨S.s0, S.s1, S.last, Lk.dK nn S.ks⟩, ⟨hI.next ht0 (by omega), rfl⟩, hd⟩
theorem Iv.commit (hI : Iv most k S) (m1 : 1 ≤ most) : 
    (bk os ≠ 0 ∧ (cmE os S.s0.cs S.s0.ac most = 2 ∨ cmE os S.s0.cs S.s0.ac most = 3) ∧ (cmS os S.s0 most).cs = S.s0.cs) ∨
    (bk os = 0 ∧ (S.s0.cs.length : Int) < most ∧ cmE os S.s0.cs S.s0.ac most = 0 ∧ cmN os S.s0.cs S.s0.ac most = (S.s0.cs.length : Int) + 1 ∧ (cmS os S.s0 most).cs = S.s0.cs ++ [⟨1, (S.s0.cs.length : Int) + 1, os⟩]) ∨
    (bk os = 0 ∧ (S.s0.cs.length : Int) = most ∧ cmE os S.s0.cs S.s0.ac most = 8 ∧ (cmS os S.s0 most).cs = S.s0.cs) := by
  have h0 := hI.l0
  have hb := bk_cases os
  simp only [cmS, cmC, cmN, cmE, hI.a0, Int.sub_zero]
  by_cases hbk : bk os = 0
  · rw [if_neg (fun h => h hbk)]
    by_cases hm : most ≤ (S.s0.cs.length : Int)
    · rw [if_pos hm]
      exact .inr (.inr ⟨hbk, by omega, rfl, by simp⟩)
    · rw [if_neg hm]
      exact .inr (.inl ⟨hbk, by omega, rfl, by simp, by simp⟩)
  · rw [if_pos hbk, if_neg hbk, if_neg hbk]
    exact .inl ⟨hbk, by omega, rfl⟩
theorem Iv.after (hI : Iv most k S) (m1 : 1 ≤ most) (m2 : most ≤ 16) : Iv most (k + 1) ⟨cmS os S.s0 most, S.s1, S.last, S.ks⟩ := by
  have hb := hI.b0
  have ht := hI.t1
  have hc := hI.commit (os := os) m1
  refine ⟨hI.p0, ?_, hI.a0, hI.n0, ?_, ?_, hI.q1, hI.c1, hI.n1, hI.t0, by show S.last ≤ _; omega⟩
  · show One 0 (cmS os S.s0 most).cs
    rcases hc with ⟨_, _, h⟩ | ⟨hbk, _, _, _, h⟩ | ⟨_, _, _, h⟩
    · rw [h]; exact hI.o0
    · rw [h]; exact hI.o0.snoc rfl (cmk_ok hbk (by have := hI.l0; omega))
    · rw [h]; exact hI.o0
  · show ((cmS os S.s0 most).cs.length : Int) ≤ most
    have := hI.l0
    rcases hc with ⟨_, _, h⟩ | ⟨hbk, _, _, _, h⟩ | ⟨_, _, _, h⟩ <;> rw [h]
    · exact this
    · simp; omega
    · exact this
  · show S.s0.B + 2000 ≤ _
    omega
end
end Go.Proofs.YtbpnbcjgkbpmgaaGreat
