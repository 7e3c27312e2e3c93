/- A primary answers without waiting for the other site, as many times as its leash allows: of any acts. No condition. (part 35) -/
import Derived.Test.YtbpnbcjgkbpmgaaGreatMAg
import Derived.Test.YtbpnbcjgkbpmgaaGreatMAx
import Derived.Test.YtbpnbcjgkbpmgaaGreatMBh
namespace Go.Proofs.YtbpnbcjgkbpmgaaGreat
open Go.RowKit Go.Lg Ds St
set_option linter.unusedVariables false
set_option linter.unusedSimpArgs false
attribute [local go_sem] field190 field43_0 field43_1 field43_2
abbrev ndn (num most : Int) (dz : Nat) : Array Value := #[.int .i64 num, .int .i64 most, P dz, .pointer none, .int .i64 0, .int .i64 0, .int .i64 0, .int .i64 0, .int .u8 0, .int .i64 0, .slice none 0 0, .int .i64 0, .int .i64 0, .slice none 0 0]
set_option maxHeartbeats 1000000 in
set_option maxRecDepth 100000 in
theorem ndnone74_n {w : World} {nz dz : Nat} {num most : Int} (h : Blk w nz 149 (ndn num most dz)) : Calls Tryz.prog 74 #[P nz] w (Asked false w) := by
  have c2 : w.cell? ⟨nz, 2, none⟩ = some (P dz) := h.cell 2
  clear h
  go_enter Tryz.func74, Tryz.ntmps74
  go_wp2_with fail
  all_goals (go_ret; exact asked_eq rfl)
theorem tot_nil {fs : Nat → Bs} (h0 : fs 0 = []) (h1 : fs 1 = []) (h2 : fs 2 = []) (h3 : fs 3 = []) : tot fs = 0 := by simp [tot, h0, h1, h2, h3]
set_option maxHeartbeats 4000000 in
set_option maxRecDepth 100000 in
theorem ndopen61 {w : World} {tag : Nat → Nat} {t dz nz : Nat} {num most : Int} {fs : Nat → Bs} {ro : Nat} (hT : Tidy w tag) (hd : Dk w (Ow tag (t + 1)) dz (At fs)) (h0 : fs 0 = []) (h1 : fs 1 = []) (h2 : fs 2 = []) (h3 : fs 3 = []) (hf : Pp.firstP num = (⟨1, ro, 0, 0, 0, 0⟩, 0)) (hro : ro = 1 ∨ ro = 2)
    (hb : Blk w nz 149 (ndn num most dz)) (hz : tag nz = t + 6) :
    Calls Tryz.prog 61 #[P nz] w fun e w' => e = .returned (.int .i64 0) ∧ ∃ tag' z, Turn (Pr6 t) w tag w' tag' ∧ NM w' tag' t dz nz z num most 0 (-1) ⟨1, ro, 0, 0, 0, 0⟩ [] 0 := by
  have ht0 := tot_nil h0 h1 h2 h3
  have hnone := ndnone74_n hb
  have hop : ∀ X, Lat w X → Calls Tryz.prog 106 #[P dz, .int .i64 num] X (OpenOk tag t dz ⟨1, ro, 0, 0, 0, 0⟩ fs X) := fun X l => stopen106 (hT.below l.size) (hd.mv (bmv l.b _)) (by omega) h0 h1 h2 h3 hf rfl (show (ro : Int) ≠ 3 by omega) (show (0 : Int) ≤ 1 by decide) (show (0 : Int) ≤ 0 by decide)
  have c0 : w.cell? ⟨nz, 0, none⟩ = some (.int .i64 num) := hb.cell 0
  have c2 : w.cell? ⟨nz, 2, none⟩ = some (P dz) := hb.cell 2
  have c3 : w.cell? ⟨nz, 3, none⟩ = some (.pointer none) := hb.cell 3
  have HOP := hid hop
  have HB := hid hb
  have HZ := hid hz
  have HF := hid (And.intro ht0 h0)
  have HT := hid hT
  clear hop hb hz hd hT ht0 h0 h1 h2 h3 hf
  go_enter Tryz.func61, Tryz.ntmps61
  go_upto_region 5 with ((go_at_call 74; (with_reducible refine hnone.mono ?_); rintro e' w1 ⟨rfl, rfl⟩))
  refine' merge1 (fun (z : Nat) X => ∃ wz rz sz tag', Turn (Prt t) w tag X tag' ∧ SM X tag' t dz wz rz sz z 0 ⟨1, ro, 0, 0, 0, 0⟩ (At fs) [] [] []) ?i1 (fun z w5 h5 => ?i2)
  case i1 =>
    go_region_law ((go_simp; go_at_call 106; (with_reducible refine (HOP.out _ (by repeat (first | exact Lat.refl _ | refine Lat.drew ?_ | refine Lat.drewN ?_ _ | refine Lat.alloc ?_ _))).mono ?_); rintro e2 w2 ⟨z, wz, rz, sz, tag', rfl, ht, sm⟩; have hl : Lat w w2 ∨ True := Or.inr trivial))
    all_goals
      refine ⟨z, rfl, wz, rz, sz, tag', ?_, sm⟩
      first
        | exact ht
        | exact (Turn.below (I := Prt t) HT.out (Lat.drew (Lat.refl w)).b).trans ht
        | exact (Turn.below (I := Prt t) HT.out (Lat.drew (Lat.drew (Lat.refl w))).b).trans ht
  obtain ⟨wz, rz, sz, tag5, ht5, sm5⟩ := h5
  have kz := ht5.blk HB.out (by rw [HZ.out]; unfold Prt; omega)
  have hz5 : tag5 nz = t + 6 := (ht5.old nz HB.out.lt).trans HZ.out
  have hPG := stpage78 sm5.sb
  have HT5 := hid ht5
  have HS5 := hid sm5
  have HKZ := hid kz
  have HZ5 := hid hz5
  clear ht5 sm5 kz hz5 c0 c2 c3 hnone
  go_wp2_with ((go_at_call 78; refine stop_ (fun Ps hPs => ?_)))
  refine hPs ?_
  clear hPs Ps
  refine hPG.mono ?_
  rintro e' w6 ⟨rfl, hb6⟩
  have k6 := HKZ.out.later hb6
  have hm : Mod (fun k => k = nz) w6 w6 := Mod.refl _ _
  have hfz : ∀ i (X : World), Blk X nz 149 (ndn num most dz) → X.frozen? ⟨nz, i, none⟩ = false := fun i X h => h.frozen i
  have HB6 := hid hb6
  have HK6 := hid k6
  have f3 : w6.frozen? ⟨nz, 3, none⟩ = false := k6.frozen 3
  have c3 : w6.cell? ⟨nz, 3, none⟩ = some (.pointer none) := k6.cell 3
  have k7 := k6.set_ 3 (P z)
  have f4 : (w6.setCell ⟨nz, 3, none⟩ (P z)).frozen? ⟨nz, 4, none⟩ = false := k7.frozen 4
  have c4 : (w6.setCell ⟨nz, 3, none⟩ (P z)).cell? ⟨nz, 4, none⟩ = some (.int .i64 0) := k7.cell 4
  have k8 := k7.set_ 4 (.int .i64 0)
  have f5 : ((w6.setCell ⟨nz, 3, none⟩ (P z)).setCell ⟨nz, 4, none⟩ (.int .i64 0)).frozen? ⟨nz, 5, none⟩ = false := k8.frozen 5
  have c5 : ((w6.setCell ⟨nz, 3, none⟩ (P z)).setCell ⟨nz, 4, none⟩ (.int .i64 0)).cell? ⟨nz, 5, none⟩ = some (.int .i64 0) := k8.cell 5
  have k9 : Blk (((w6.setCell ⟨nz, 3, none⟩ (P z)).setCell ⟨nz, 4, none⟩ (.int .i64 0)).setCell ⟨nz, 5, none⟩ (.int .i64 (-1))) nz 149 (ndc num most dz z 0 (-1)) := k8.set_ 5 (.int .i64 (-1))
  have m9 : Mod (fun k => k = nz) w6 (((w6.setCell ⟨nz, 3, none⟩ (P z)).setCell ⟨nz, 4, none⟩ (.int .i64 0)).setCell ⟨nz, 5, none⟩ (.int .i64 (-1))) := mod_setc (mod_setc (mod_setc (Mod.refl _ _) 3 _) 4 _) 5 _
  have d0 : (((w6.setCell ⟨nz, 3, none⟩ (P z)).setCell ⟨nz, 4, none⟩ (.int .i64 0)).setCell ⟨nz, 5, none⟩ (.int .i64 (-1))).cell? ⟨nz, 6, none⟩ = some (.int .i64 0) := k9.cell 6
  have g0 : (((w6.setCell ⟨nz, 3, none⟩ (P z)).setCell ⟨nz, 4, none⟩ (.int .i64 0)).setCell ⟨nz, 5, none⟩ (.int .i64 (-1))).frozen? ⟨nz, 6, none⟩ = false := k9.frozen 6
  have d1 : (((w6.setCell ⟨nz, 3, none⟩ (P z)).setCell ⟨nz, 4, none⟩ (.int .i64 0)).setCell ⟨nz, 5, none⟩ (.int .i64 (-1))).cell? ⟨nz, 7, none⟩ = some (.int .i64 0) := k9.cell 7
  have g1 : (((w6.setCell ⟨nz, 3, none⟩ (P z)).setCell ⟨nz, 4, none⟩ (.int .i64 0)).setCell ⟨nz, 5, none⟩ (.int .i64 (-1))).frozen? ⟨nz, 7, none⟩ = false := k9.frozen 7
  have d2 : (((w6.setCell ⟨nz, 3, none⟩ (P z)).setCell ⟨nz, 4, none⟩ (.int .i64 0)).setCell ⟨nz, 5, none⟩ (.int .i64 (-1))).cell? ⟨nz, 8, none⟩ = some (.int .u8 0) := k9.cell 8
  have g2 : (((w6.setCell ⟨nz, 3, none⟩ (P z)).setCell ⟨nz, 4, none⟩ (.int .i64 0)).setCell ⟨nz, 5, none⟩ (.int .i64 (-1))).frozen? ⟨nz, 8, none⟩ = false := k9.frozen 8
  have d3 : (((w6.setCell ⟨nz, 3, none⟩ (P z)).setCell ⟨nz, 4, none⟩ (.int .i64 0)).setCell ⟨nz, 5, none⟩ (.int .i64 (-1))).cell? ⟨nz, 9, none⟩ = some (.int .i64 0) := k9.cell 9
  have g3 : (((w6.setCell ⟨nz, 3, none⟩ (P z)).setCell ⟨nz, 4, none⟩ (.int .i64 0)).setCell ⟨nz, 5, none⟩ (.int .i64 (-1))).frozen? ⟨nz, 9, none⟩ = false := k9.frozen 9
  have d4 : (((w6.setCell ⟨nz, 3, none⟩ (P z)).setCell ⟨nz, 4, none⟩ (.int .i64 0)).setCell ⟨nz, 5, none⟩ (.int .i64 (-1))).cell? ⟨nz, 10, none⟩ = some (.slice none 0 0) := k9.cell 10
  have g4 : (((w6.setCell ⟨nz, 3, none⟩ (P z)).setCell ⟨nz, 4, none⟩ (.int .i64 0)).setCell ⟨nz, 5, none⟩ (.int .i64 (-1))).frozen? ⟨nz, 10, none⟩ = false := k9.frozen 10
  have d5 : (((w6.setCell ⟨nz, 3, none⟩ (P z)).setCell ⟨nz, 4, none⟩ (.int .i64 0)).setCell ⟨nz, 5, none⟩ (.int .i64 (-1))).cell? ⟨nz, 11, none⟩ = some (.int .i64 0) := k9.cell 11
  have g5 : (((w6.setCell ⟨nz, 3, none⟩ (P z)).setCell ⟨nz, 4, none⟩ (.int .i64 0)).setCell ⟨nz, 5, none⟩ (.int .i64 (-1))).frozen? ⟨nz, 11, none⟩ = false := k9.frozen 11
  have d6 : (((w6.setCell ⟨nz, 3, none⟩ (P z)).setCell ⟨nz, 4, none⟩ (.int .i64 0)).setCell ⟨nz, 5, none⟩ (.int .i64 (-1))).cell? ⟨nz, 12, none⟩ = some (.int .i64 0) := k9.cell 12
  have g6 : (((w6.setCell ⟨nz, 3, none⟩ (P z)).setCell ⟨nz, 4, none⟩ (.int .i64 0)).setCell ⟨nz, 5, none⟩ (.int .i64 (-1))).frozen? ⟨nz, 12, none⟩ = false := k9.frozen 12
  have d7 : (((w6.setCell ⟨nz, 3, none⟩ (P z)).setCell ⟨nz, 4, none⟩ (.int .i64 0)).setCell ⟨nz, 5, none⟩ (.int .i64 (-1))).cell? ⟨nz, 13, none⟩ = some (.slice none 0 0) := k9.cell 13
  have g7 : (((w6.setCell ⟨nz, 3, none⟩ (P z)).setCell ⟨nz, 4, none⟩ (.int .i64 0)).setCell ⟨nz, 5, none⟩ (.int .i64 (-1))).frozen? ⟨nz, 13, none⟩ = false := k9.frozen 13
  have kf : Blk (((((((((((w6.setCell ⟨nz, 3, none⟩ (P z)).setCell ⟨nz, 4, none⟩ (.int .i64 0)).setCell ⟨nz, 5, none⟩ (.int .i64 (-1))).setCell ⟨nz, 6, none⟩ (.int .i64 0)).setCell ⟨nz, 7, none⟩ (.int .i64 0)).setCell ⟨nz, 8, none⟩ (.int .u8 0)).setCell ⟨nz, 9, none⟩ (.int .i64 0)).setCell ⟨nz, 10, none⟩ (.slice none 0 0)).setCell ⟨nz, 11, none⟩ (.int .i64 0)).setCell ⟨nz, 12, none⟩ (.int .i64 0)).setCell ⟨nz, 13, none⟩ (.slice none 0 0)) nz 149 (ndc num most dz z 0 (-1)) := ((((((((k9.set_ 6 (.int .i64 0)).set_ 7 (.int .i64 0)).set_ 8 (.int .u8 0)).set_ 9 (.int .i64 0)).set_ 10 (.slice none 0 0)).set_ 11 (.int .i64 0)).set_ 12 (.int .i64 0)).set_ 13 (.slice none 0 0))
  have mf : Mod (fun k => k = nz) w6 (((((((((((w6.setCell ⟨nz, 3, none⟩ (P z)).setCell ⟨nz, 4, none⟩ (.int .i64 0)).setCell ⟨nz, 5, none⟩ (.int .i64 (-1))).setCell ⟨nz, 6, none⟩ (.int .i64 0)).setCell ⟨nz, 7, none⟩ (.int .i64 0)).setCell ⟨nz, 8, none⟩ (.int .u8 0)).setCell ⟨nz, 9, none⟩ (.int .i64 0)).setCell ⟨nz, 10, none⟩ (.slice none 0 0)).setCell ⟨nz, 11, none⟩ (.int .i64 0)).setCell ⟨nz, 12, none⟩ (.int .i64 0)).setCell ⟨nz, 13, none⟩ (.slice none 0 0)) := (mod_setc (mod_setc (mod_setc (mod_setc (mod_setc (mod_setc (mod_setc (mod_setc m9 6 _) 7 _) 8 _) 9 _) 10 _) 11 _) 12 _) 13 _)
  have hs6 := HS5.out.later ⟨HB6.out⟩
  have hnm : NM w6 tag5 t dz nz z num most 0 (-1) ⟨1, ro, 0, 0, 0, 0⟩ [] 0 → True := fun _ => trivial
  have HKF := hid kf
  have HMF := hid mf
  have HS6 := hid hs6
  clear k6 k7 k8 k9 m9 kf mf hs6 hnm hm hfz hb6 hPG
  go_wp2_with fail
  go_ret
  have hmv : ∀ i, Prt t i → Mv w6 _ (Ow tag5 i) (Ow tag5 i) := fun i hi => HMF.out.mv fun k a b => by
    have h1 : tag5 k = i := a
    have h2 : k = nz := b
    unfold Prt at hi
    rw [h2, HZ5.out] at h1
    omega
  have hs := HS6.out
  refine ⟨rfl, tag5, z, ((HT5.out.more fun i hi => prt_pr6 hi).lat ⟨HB6.out⟩).nd HMF.out fun k hk => .inl (by subst hk; rw [HZ5.out]; unfold Pr6; omega), wz, rz, sz, 0, [], fs, ⟨hs.dk.mv (hmv _ (by unfold Prt; omega)), hs.wl.mv (hmv _ (by unfold Prt; omega)), hs.r0.mv (hmv _ (by unfold Prt; omega)), hs.sr.mv (hmv _ (by unfold Prt; omega)), hs.sb.mv (hmv _ (by unfold Prt; omega))⟩, HKF.out, HZ5.out, by omega, rfl, by simp [wlen], by have := HF.out.1; omega, by rw [HF.out.2]; rfl⟩
end Go.Proofs.YtbpnbcjgkbpmgaaGreat
namespace Go.Proofs.YtbpnbcjgkbpmgaaGreat
open Go.RowKit Go.Lg Ds St
set_option linter.unusedVariables false
set_option linter.unusedSimpArgs false
attribute [local go_sem] field190 field43_0 field43_1 field43_2
def tgN (tag : Nat → Nat) (b i : Nat) : Nat → Nat := fun k => if k = b then i else tag k
theorem tgN_turn {w : World} {tag : Nat → Nat} {I : Nat → Prop} (hT : Tidy w tag) (o : Obj) {i : Nat} (hi : I i) : Turn I w tag (w.alloc o) (tgN tag w.heap.size i) ∧ ∀ j, j ≠ i → Mv w (w.alloc o) (Ow tag j) (Ow (tgN tag w.heap.size i) j) := by
  have hb := ((Below.refl w.heap.size w).alloc (Nat.le_refl _) o)
  refine ⟨⟨Mod.of_below hb, fun k hk => ?_, fun k hk => ?_, fun k hk => ?_⟩, fun j hj k hk hf => ⟨?_, hb.block k hk⟩⟩
  · unfold tgN; rw [if_neg (by omega)]
  · unfold tgN
    split
    · exact .inr hi
    · exact .inl (hT k hk)
  · have h1 := World.size_alloc w o
    unfold tgN
    rw [if_neg (by omega)]
    exact hT k (by omega)
  · show tgN tag w.heap.size i k = j
    unfold tgN; rw [if_neg (by omega)]; exact hf
set_option maxHeartbeats 2000000 in
set_option maxRecDepth 100000 in
theorem ndnew42 {w : World} {tag : Nat → Nat} {t dz : Nat} {num most : Int} {fs : Nat → Bs} {ro : Nat} (hT : Tidy w tag) (hd : Dk w (Ow tag (t + 1)) dz (At fs)) (h0 : fs 0 = []) (h1 : fs 1 = []) (h2 : fs 2 = []) (h3 : fs 3 = []) (hf : Pp.firstP num = (⟨1, ro, 0, 0, 0, 0⟩, 0)) (hro : ro = 1 ∨ ro = 2)
    (hnum : num = 0 ∨ num = 1) (m1 : 1 ≤ most) (m2 : most ≤ 16) :
    Calls Tryz.prog 42 #[.int .i64 num, .int .i64 most, P dz] w fun e w' => ∃ nz, e = .returned (.tuple #[P nz, .int .i64 0]) ∧ ∃ tag' z, Turn (Pr6 t) w tag w' tag' ∧ NM w' tag' t dz nz z num most 0 (-1) ⟨1, ro, 0, 0, 0, 0⟩ [] 0 := by
  have ht0 := tot_nil h0 h1 h2 h3
  have hrd : Calls Tryz.prog 73 #[P dz, .int .i64 0] w (Read0 w) := read_empty hd (by omega) (f := 0) (by decide) h0
  have hlc : ∀ X, Calls Tryz.prog 39 #[.int .i64 most] X (Num0 0 X) := fun X => lcheck39 most m1 m2 X
  have hop : ∀ X, Lat w X → Calls Tryz.prog 61 #[P X.heap.size] (X.alloc (.cells (ndn num most dz) 149)) fun e w' => e = .returned (.int .i64 0) ∧ ∃ tag' z, Turn (Pr6 t) w tag w' tag' ∧ NM w' tag' t dz X.heap.size z num most 0 (-1) ⟨1, ro, 0, 0, 0, 0⟩ [] 0 := fun X l => by
    have hTX := hT.below l.size
    obtain ⟨ht, hm⟩ := tgN_turn (I := Pr6 t) hTX (.cells (ndn num most dz) 149) (i := t + 6) (by unfold Pr6; omega)
    exact (ndopen61 (ro := ro) ht.td (((hd.mv (bmv l.b _)).mv (hm (t + 1) (by omega)))) h0 h1 h2 h3 hf hro (Blk.new X 149 _) (by unfold tgN; rw [if_pos rfl])).mono fun e w' ⟨he, tag', z, ht', hn⟩ => ⟨he, tag', z, ((l.turn hT (Pr6 t)).trans ht).trans ht', hn⟩
  have HLC := hid hlc
  have HOP := hid hop
  clear hop hlc hd h0 h1 h2 h3 hf ht0
  rcases hnum with rfl | rfl
  all_goals
    go_enter Tryz.func42, Tryz.ntmps42
    go_wp2_with (first
      | (go_at_call 73; (with_reducible refine hrd.mono ?_); rintro e' w1 ⟨A, c, rfl, hc, hb1⟩; have l1 : Lat w w1 := ⟨hb1⟩; have HO1 := hid (HOP.out w1 l1); clear l1 hb1)
      | (go_at_call 39; (with_reducible refine (HLC.out _).mono ?_); rintro e' w2 ⟨rfl, rfl⟩)
      | (go_at_call 61; refine stop_ (fun Ps hPs => ?_)))
    refine hPs ?_
    clear hPs Ps
    refine HO1.out.mono ?_
    rintro e' w3 ⟨rfl, tag', z, ht, hn⟩
    have HT3 := hid ht
    have HN3 := hid hn
    clear ht hn HO1 hrd
    go_wp2_with fail
    go_ret2
    exact ⟨_, rfl, tag', z, HT3.out, HN3.out⟩
end Go.Proofs.YtbpnbcjgkbpmgaaGreat
namespace Go.Proofs.YtbpnbcjgkbpmgaaGreat.Lk
open Go.RowKit Go.Lg
theorem ne_by_type {w : World} {b b' : Nat} {e e' : TypeId} {sz sz' n n' : Nat} {v v' : Value} {xs xs' : List Value} (h : w.ownsRow b e sz v n xs) (h' : w.ownsRow b' e' sz' v' n' xs') (hne : e ≠ e') :
    ∀ g, v.ownBlock = some g → v'.ownBlock ≠ some g := by
  intro g hg hg'
  rcases h.2 with ⟨rfl, _⟩ | ⟨g1, c1, cur1, rfl, _, h1, _⟩
  · simp [Value.ownBlock] at hg
  rcases h'.2 with ⟨rfl, _⟩ | ⟨g2, c2, cur2, rfl, _, h2, _⟩
  · simp [Value.ownBlock] at hg'
  simp [Value.ownBlock] at hg hg'
  subst hg hg'
  rw [h1] at h2
  injection h2 with h2
  injection h2 with _ h2
  exact hne h2
structure Ap (base H W m k f : Nat) (A : Option Addr) (vs ws : List Value) (ls : List (List UInt8)) (w wr : World) : Prop where
  was : wr.ownsRow H 80 1 (.slice (some ⟨W, 0, none⟩) m m) m ws
  cop : ∀ (i : Nat) u l, i < k → ws[i]? = some u → ls[i]? = some l → wr.ownsRow H 5 1 u l.length (bts l)
  row : ∀ (i : Nat) v l, vs[i]? = some v → ls[i]? = some l → wr.ownsRow base 5 1 v l.length (bts (if i < f then l.map flip else l)) ∧ (∀ g, v.ownBlock = some g → g < H)
  apart : ∀ (i j : Nat) vi vj, vs[i]? = some vi → vs[j]? = some vj → i ≠ j → ∀ g, vi.ownBlock = some g → vj.ownBlock ≠ some g
  out : Rd wr H 1 A m vs
  outne : ∀ b off, A = some ⟨b, off, none⟩ → ∀ v, v ∈ vs → v.ownBlock ≠ some b
  low : Below base w wr
  hz : H ≤ wr.heap.size
  hbase : base ≤ H
  len : ls.length = m
section
variable {base H W m k f : Nat} {A : Option Addr} {vs ws : List Value} {ls : List (List UInt8)} {w wr w1 : World}
theorem Ap.drewN (h : Ap base H W m k f A vs ws ls w wr) (d : Nat) : Ap base H W m k f A vs ws ls w (wr.drewN d) :=
  ⟨h.was, h.cop, h.row, h.apart, h.out, h.outne, below_drewN h.low d, h.hz, h.hbase, h.len⟩
theorem Ap.over (h : Ap base H W m m f A vs ws ls w wr) {v : Value} {l : List UInt8} (hv : vs[f]? = some v) (hl : ls[f]? = some l) (ho : w1.ownsRow base 5 1 v l.length (bts (l.map flip))) (hg : wr.grownBy w1 v.ownBlock) :
    Ap base H W m m (f + 1) A vs ws ls w w1 := by
  have hr := h.row f v l hv hl
  refine ⟨owned_gb h.was hg fun g hg' he => ?_, ?_, ?_, h.apart, ?_, h.outne, ?_, Nat.le_trans h.hz hg.size, h.hbase, h.len⟩
  · have := hr.2 g he.symm
    have h2 := (h.was.lt g hg').1
    omega
  · intro i u l' hi hu hl'
    have hc := h.cop i u l' hi hu hl'
    refine owned_gb hc hg fun g hg' he => ?_
    have := hr.2 g he.symm
    have h2 := (hc.lt g hg').1
    omega
  · intro i v' l' hv' hl'
    by_cases hi : i = f
    · subst hi
      obtain rfl := Option.some.inj (hv.symm.trans hv')
      obtain rfl := Option.some.inj (hl.symm.trans hl')
      rw [if_pos (by omega)]
      exact ⟨ho, hr.2⟩
    · obtain ⟨h1, h2⟩ := h.row i v' l' hv' hl'
      have e : (if i < f + 1 then l'.map flip else l') = (if i < f then l'.map flip else l') := by
        by_cases q : i < f
        · rw [if_pos q, if_pos (by omega)]
        · rw [if_neg q, if_neg (by omega)]
      rw [e]
      exact ⟨owned_gb h1 hg fun g hg' he => h.apart i f v' v hv' hv hi g hg' he.symm, h2⟩
  · refine ⟨h.out.1, fun hn => ?_⟩
    obtain ⟨b, off, hA, hb, hc⟩ := h.out.2 hn
    refine ⟨b, off, hA, hb, fun j u hu => ?_⟩
    rw [← hc j u hu]
    refine World.cell?_of_block (hg.block b (Nat.lt_of_lt_of_le hb h.hz) fun he => ?_)
    exact h.outne b off hA v (List.mem_of_getElem? hv) he.symm
  · refine h.low.grown hg (Nat.le_trans h.hbase h.hz) fun g he => ?_
    exact (hr.1.lt g he).1
end
end Go.Proofs.YtbpnbcjgkbpmgaaGreat.Lk
namespace Go.Proofs.YtbpnbcjgkbpmgaaGreat.Lk
open Go.RowKit Go.Lg
variable {F : Nat → Prop}
set_option linter.unusedVariables false
set_option linter.unusedSimpArgs false
structure Lt where
  n : Int
  to : Int
  v : Value
  b : List UInt8
abbrev Key := Int × Int × List UInt8
def Lt.k (x : Lt) : Key := (x.n, x.to, x.b)
def Lt.cs (x : Lt) : List Value := [.int .i64 x.n, .int .i64 x.to, x.v]
def ltc (l : List Lt) : List Value := l.flatMap Lt.cs
theorem ltc_cons (x : Lt) (l : List Lt) : ltc (x :: l) = x.cs ++ ltc l := rfl
theorem ltc_app (a b : List Lt) : ltc (a ++ b) = ltc a ++ ltc b := by simp [ltc]
theorem ltc_length : ∀ l : List Lt, (ltc l).length = l.length * 3
  | [] => rfl
  | x :: l => by rw [ltc_cons, List.length_append, ltc_length l]; simp [Lt.cs]; omega
theorem ltc_get : ∀ (l : List Lt) (j : Nat) (x : Lt), l[j]? = some x → (ltc l)[j * 3]? = some (.int .i64 x.n) ∧ (ltc l)[j * 3 + 1]? = some (.int .i64 x.to) ∧ (ltc l)[j * 3 + 2]? = some x.v
  | [], j, x, h => by cases h
  | a :: l, 0, x, h => by
    simp at h
    subst h
    exact ⟨rfl, rfl, rfl⟩
  | a :: l, j + 1, x, h => by
    have h1 := ltc_get l j x (by simpa using h)
    have e : ltc (a :: l) = [.int .i64 a.n, .int .i64 a.to, a.v] ++ ltc l := rfl
    have s : ∀ i, (ltc (a :: l))[(j + 1) * 3 + i]? = (ltc l)[j * 3 + i]? := fun i => by
      rw [e, List.getElem?_append_right (by simp; omega)]
      congr 1
      simp
      omega
    exact ⟨(s 0).trans h1.1, (s 1).trans h1.2.1, (s 2).trans h1.2.2⟩
theorem ltc_take (l : List Lt) (k : Nat) : (ltc l).take (k * 3) = ltc (l.take k) := by
  rcases Nat.le_total k l.length with h | h
  · conv => lhs; rw [← List.take_append_drop k l, ltc_app]
    rw [List.take_append_of_le_length (by rw [ltc_length, List.length_take]; omega), List.take_of_length_le (by rw [ltc_length, List.length_take]; omega)]
  · rw [List.take_of_length_le h, List.take_of_length_le (by rw [ltc_length]; omega)]
theorem ltc_drop (l : List Lt) (k : Nat) : (ltc l).drop (k * 3) = ltc (l.drop k) := by
  rcases Nat.le_total k l.length with h | h
  · conv => lhs; rw [← List.take_append_drop k l, ltc_app]
    rw [List.drop_append_of_le_length (by rw [ltc_length, List.length_take]; omega), List.drop_of_length_le (by rw [ltc_length, List.length_take]; omega)]
    rfl
  · rw [List.drop_of_length_le h, List.drop_of_length_le (by rw [ltc_length]; omega)]
    rfl
theorem Tryz.info31 : (Tryz.prog.info? 102).map (fun i => (i.zero, i.size, i.bytes)) = some (some (.agg #[.int .i64 0, .int .i64 0, .slice none 0 0]), 3, 40) := by kernel_rfl
theorem T37 : SlT Tryz.prog 111 102 3 40 := SlT.mk' _ Tryz.underlying111 Tryz.info31 rfl (by decide) (by decide)
structure Own1 (B : Nat) (w : World) (x : Lt) : Prop where
  own : w.ownsRow B 5 1 x.v x.b.length (bts x.b)
  le : x.b.length ≤ 1000000000
  to : x.to = 0 ∨ x.to = 1
theorem Own1.one {B : Nat} {w : World} {x : Lt} (h : Own1 B w x) : x.v.oneCell' = true := by
  obtain ⟨A, c, e, _⟩ := owned_slice h.own
  rw [e]; rfl
theorem ltc_one {B : Nat} {w : World} {l : List Lt} (h : ∀ x ∈ l, Own1 B w x) : ∀ u ∈ ltc l, u.oneCell' = true := by
  intro u hu
  obtain ⟨x, hx, hu⟩ := List.mem_flatMap.1 hu
  simp only [Lt.cs, List.mem_cons, List.not_mem_nil, or_false] at hu
  rcases hu with rfl | rfl | rfl
  · rfl
  · rfl
  · exact (h x hx).one
structure Two (z : Nat) (r : Option Nat) (w w' : World) : Prop where
  os : w'.os = w.os
  tape : w'.tape = w.tape
  output : w'.output = w.output
  size : w.heap.size ≤ w'.heap.size
  block : ∀ k, k < w.heap.size → k ≠ z → some k ≠ r → w'.heap[k]? = w.heap[k]?
theorem Two.of_below {z : Nat} {r : Option Nat} {w w' : World} (h : Below w.heap.size w w') : Two z r w w' := ⟨h.os, h.tape, h.output, h.size, fun k hk _ _ => h.block k hk⟩
theorem Two.of_z {z : Nat} {r : Option Nat} {w w' : World} (h : w.grownBy w' (some z)) : Two z r w w' := ⟨h.os, h.tape, h.output, h.size, fun k hk hz _ => h.block k hk (fun e => hz (Option.some.inj e))⟩
theorem Two.of_r {z : Nat} {r : Option Nat} {w w' : World} (h : w.grownBy w' r) : Two z r w w' := ⟨h.os, h.tape, h.output, h.size, fun k hk _ hr => h.block k hk hr⟩
theorem Two.trans {z : Nat} {r r' : Option Nat} {a b c : World} (h : Two z r a b) (k : Two z r' b c) (hr : ∀ g, r' = some g → r = some g ∨ a.heap.size ≤ g) : Two z r a c :=
  ⟨k.os.trans h.os, k.tape.trans h.tape, k.output.trans h.output, Nat.le_trans h.size k.size, fun i hi hz hn => (k.block i (Nat.lt_of_lt_of_le hi h.size) hz (fun e => by
    rcases hr i e.symm with h1 | h1
    · exact hn h1.symm
    · omega)).trans (h.block i hi hz hn)⟩
theorem Two.below {z B : Nat} {r : Option Nat} {w w' : World} (h : Two z r w w') (hB : B ≤ w.heap.size) (hz : B ≤ z) (hr : ∀ g, r = some g → B ≤ g) : Below B w w' :=
  ⟨h.os, h.tape, h.output, h.size, fun k hk => h.block k (by omega) (by omega) (fun e => by have := hr k e.symm; omega)⟩
theorem blk_two {z g : Nat} {t : TypeId} {cs : Array Value} {r : Option Nat} {w w' : World} (h : Blk w g t cs) (k : Two z r w w') (hz : g ≠ z) (hr : ∀ b, r = some b → b ≠ g) : Blk w' g t cs :=
  (k.block g h.lt hz (fun e => hr g e.symm rfl)).trans h
theorem owned_two {z : Nat} {r : Option Nat} {w w' : World} {base : Nat} {e : TypeId} {sz n : Nat} {v : Value} {xs : List Value} (h : w.ownsRow base e sz v n xs) (k : Two z r w w') (hne : ∀ g, v.ownBlock = some g → g ≠ z ∧ r ≠ some g) : w'.ownsRow base e sz v n xs := by
  refine ⟨h.1, ?_⟩
  rcases h.2 with h2 | ⟨g, cap, cur, rfl, h3, h4, h5⟩
  · exact .inl h2
  · obtain ⟨q1, q2⟩ := hne g rfl
    exact .inr ⟨g, cap, cur, rfl, h3, (k.block g (Array.getElem?_eq_some_iff.1 h4).1 q1 (fun e => q2 e.symm)).trans h4, h5⟩
def oty : Bool → TypeId | true => 9063 | false => 113
def ocs : Bool → Int → Value → Array Value | true, l, sv => #[.bool true, sv, .int .i64 l] | false, l, sv => #[.bool true, .int .i64 l, sv]
def ixL : Bool → Nat | true => 1 | false => 2
def ixN : Bool → Nat | true => 2 | false => 1
theorem ocs_setL (rf : Bool) (l : Int) (sv sv' : Value) : (ocs rf l sv).setIfInBounds (ixL rf) sv' = ocs rf l sv' := by cases rf <;> rfl
theorem ocs_setN (rf : Bool) (l l' : Int) (sv : Value) : (ocs rf l sv).setIfInBounds (ixN rf) (.int .i64 l') = ocs rf l' sv := by cases rf <;> rfl
theorem oty_ne (rf : Bool) : (102 : TypeId) ≠ oty rf := by cases rf <;> decide
theorem oty_ne5 (rf : Bool) : (5 : TypeId) ≠ oty rf := by cases rf <;> decide
structure LX (F : Nat → Prop) (rf : Bool) (w : World) (B z : Nat) (last : Int) (sv : Value) (ls : List Lt) : Prop where
  hB : B ≤ z
  blk : Blk w z (oty rf) (ocs rf last sv)
  own : w.ownsRow B 102 3 sv ls.length (ltc ls)
  le : ls.length ≤ 512
  by_ : ∀ x ∈ ls, Own1 B w x
  hF : ∀ g, F g → g < w.heap.size
  neF : ∀ x ∈ ls, ∀ g, x.v.ownBlock = some g → ¬F g
section
variable {rf : Bool} {w w' : World} {B z : Nat} {last : Int} {sv : Value} {ls : List Lt}
theorem LX.ne (h : LX F rf w B z last sv ls) : ∀ g, sv.ownBlock = some g → g ≠ z := owned_blk_ne h.own h.blk (oty_ne rf)
theorem Own1.keep {B' : Nat} {x : Lt} (h : Own1 B' w x) (k : w'.ownsRow B' 5 1 x.v x.b.length (bts x.b)) : Own1 B' w' x := ⟨k, h.le, h.to⟩
theorem Own1.later {B' : Nat} {x : Lt} (h : Own1 B' w x) (hb : Below w.heap.size w w') : Own1 B' w' x := h.keep (owned_later h.own hb)
theorem LX.later (h : LX F rf w B z last sv ls) (hb : Below w.heap.size w w') : LX F rf w' B z last sv ls := ⟨h.hB, h.blk.later hb, owned_later h.own hb, h.le, fun x hx => (h.by_ x hx).later hb, fun g hg => Nat.lt_of_lt_of_le (h.hF g hg) hb.size, h.neF⟩
theorem LX.bytes (h : LX F rf w B z last sv ls) {b n : Nat} {v : Value} {xs : List Value} (ho : w.ownsRow b 5 1 v n xs) (k : Two z sv.ownBlock w w') : w'.ownsRow b 5 1 v n xs :=
  owned_two ho k fun g hg => ⟨owned_blk_ne ho h.blk (oty_ne5 rf) g hg, fun e => ne_by_type ho h.own (by decide) g hg e⟩
theorem LX.leB (h : LX F rf w B z last sv ls) : B ≤ w.heap.size := by have := h.hB; have := h.blk.lt; omega
def Left (F : Nat → Prop) (rf : Bool) (B z : Nat) (sv : Value) (last' : Int) (ks' : List Key) (w w' : World) : Prop :=
  ∃ sv' ls', ls'.map Lt.k = ks' ∧ LX F rf w' B z last' sv' ls' ∧ Two z sv.ownBlock w w' ∧ (∀ g, sv'.ownBlock = some g → sv.ownBlock = some g ∨ w.heap.size ≤ g)
theorem Left.from_ {last' : Int} {ks' : List Key} {W : World} (hb : Below w.heap.size w W) (h : Left F rf B z sv last' ks' W w') : Left F rf B z sv last' ks' w w' := by
  obtain ⟨sv', ls', h0, h1, h2, h3⟩ := h
  refine ⟨sv', ls', h0, h1, (Two.of_below hb).trans h2 (fun g hg => .inl hg), fun g hg => ?_⟩
  rcases h3 g hg with h4 | h4
  · exact .inl h4
  · exact .inr (Nat.le_trans hb.size h4)
theorem Left.same (h : LX F rf w B z last sv ls) (hb : Below w.heap.size w w') : Left F rf B z sv last (ls.map Lt.k) w w' := ⟨sv, ls, rfl, h.later hb, Two.of_below hb, fun g hg => .inl hg⟩
theorem Left.behind {last' : Int} {ks' : List Key} {W : World} (h : Left F rf B z sv last' ks' w W) (hb : Below W.heap.size W w') : Left F rf B z sv last' ks' w w' := by
  obtain ⟨sv', ls', h0, h1, h2, h3⟩ := h
  exact ⟨sv', ls', h0, h1.later hb, h2.trans (r' := none) (Two.of_below hb) (fun g hg => by cases hg), h3⟩
theorem LX.setN (h : LX F rf w B z last sv ls) (last' : Int) : LX F rf (w.setCell ⟨z, ixN rf, none⟩ (.int .i64 last')) B z last' sv ls ∧ w.grownBy (w.setCell ⟨z, ixN rf, none⟩ (.int .i64 last')) (some z) := by
  have hgb := gb_setCell (p := ⟨z, ixN rf, none⟩) (.int .i64 last') (World.grownBy.refl w (some z))
  refine ⟨⟨h.hB, ?_, owned_gb h.own hgb (fun g hg he => h.ne g hg (Option.some.inj he)), h.le, fun x hx => ?_, fun g hg => Nat.lt_of_lt_of_le (h.hF g hg) hgb.size, h.neF⟩, hgb⟩
  · have := h.blk.set_ (ixN rf) (.int .i64 last')
    rwa [ocs_setN] at this
  · exact (h.by_ x hx).keep (h.bytes (h.by_ x hx).own (Two.of_z hgb))
theorem left_append {X w2 : World} {x : Lt} {A2 : Option Addr} {c2 : Nat} (h : LX F rf w B z last sv ls) (h8 : ls.length < 512) (hb : Below w.heap.size w X) (hx : Own1 B X x) (hxF : ∀ g, x.v.ownBlock = some g → ¬F g)
    (hv2 : w2.ownsRow B 102 3 (.slice A2 (ls.length + 1) c2) (ls.length + 1) (ltc ls ++ x.cs)) (hg : X.grownBy w2 sv.ownBlock)
    (hat : ∀ g, (Value.slice A2 (ls.length + 1) c2).ownBlock = some g → sv.ownBlock = some g ∨ w.heap.size ≤ g) :
    Left F rf B z sv last (ls.map Lt.k ++ [x.k]) w (w2.setCell ⟨z, ixL rf, none⟩ (.slice A2 (ls.length + 1) c2)) := by
  have hX := h.later hb
  have hz2 : Blk w2 z (oty rf) (ocs rf last sv) := hX.blk.gb hg (fun e => h.ne z e.symm rfl)
  have hne : ∀ g, (Value.slice A2 (ls.length + 1) c2).ownBlock = some g → g ≠ z := owned_blk_ne hv2 hz2 (oty_ne rf)
  have hgb := gb_setCell (p := ⟨z, ixL rf, none⟩) (.slice A2 (ls.length + 1) c2) (World.grownBy.refl w2 (some z))
  have hT : Two z sv.ownBlock X (w2.setCell ⟨z, ixL rf, none⟩ (.slice A2 (ls.length + 1) c2)) := (Two.of_r hg).trans (r' := none) (Two.of_z hgb) (fun g hg => by cases hg)
  refine ⟨.slice A2 (ls.length + 1) c2, ls ++ [x], by simp, ⟨h.hB, ?_, ?_, by simp; omega, ?_, fun g hg => Nat.lt_of_lt_of_le (h.hF g hg) (Nat.le_trans hb.size hT.size), fun y hy => ?_⟩, (Two.of_below hb).trans hT (fun g hg => .inl hg), hat⟩
  · have := hz2.set_ (ixL rf) (.slice A2 (ls.length + 1) c2)
    rwa [ocs_setL] at this
  · rw [List.length_append, List.length_singleton, ltc_app]
    have e : ltc [x] = x.cs := by simp [ltc]
    rw [e]
    exact owned_gb hv2 hgb (fun g hg he => hne g hg (Option.some.inj he))
  · intro y hy
    rw [List.mem_append, List.mem_singleton] at hy
    rcases hy with hy | rfl
    · exact (hX.by_ y hy).keep (hX.bytes (hX.by_ y hy).own hT)
    · exact hx.keep (hX.bytes hx.own hT)
  · rw [List.mem_append, List.mem_singleton] at hy
    rcases hy with hy | rfl
    · exact h.neF y hy
    · exact hxF
theorem put_lx {X : World} {sv' : Value} {ls' : List Lt} (h : LX F rf w B z last sv ls) (hT : Two z sv.ownBlock w X) (hz : Blk X z (oty rf) (ocs rf last sv)) (h' : X.ownsRow B 102 3 sv' ls'.length (ltc ls')) (hle : ls'.length ≤ 512) (hm : ∀ x ∈ ls', x ∈ ls) :
    LX F rf (X.setCell ⟨z, ixL rf, none⟩ sv') B z last sv' ls' ∧ Two z sv.ownBlock w (X.setCell ⟨z, ixL rf, none⟩ sv') := by
  have hne : ∀ g, sv'.ownBlock = some g → g ≠ z := owned_blk_ne h' hz (oty_ne rf)
  have hgb := gb_setCell (p := ⟨z, ixL rf, none⟩) sv' (World.grownBy.refl X (some z))
  have hT2 : Two z sv.ownBlock w (X.setCell ⟨z, ixL rf, none⟩ sv') := hT.trans (r' := none) (Two.of_z hgb) (fun g hg => by cases hg)
  refine ⟨⟨h.hB, ?_, owned_gb h' hgb (fun g hg he => hne g hg (Option.some.inj he)), hle, fun x hx => ?_, fun g hg => Nat.lt_of_lt_of_le (h.hF g hg) hT2.size, fun x hx => h.neF x (hm x hx)⟩, hT2⟩
  · have := hz.set_ (ixL rf) sv'
    rwa [ocs_setL] at this
  · exact (h.by_ x (hm x hx)).keep (h.bytes (h.by_ x (hm x hx)).own hT2)
theorem LX.other {R : Nat} {cs : Array Value} (h : LX F rf w B z last sv ls) (hg : w.grownBy w' (some R)) (hR : Blk w R 102 cs) (hsv : ∀ g, sv.ownBlock = some g → g ≠ R) : LX F rf w' B z last sv ls := by
  have hF0 := h.hF
  have neF0 := h.neF
  have hz : R ≠ z := fun e => by
    have h1 := h.blk
    unfold Blk at hR h1
    rw [← e, hR] at h1
    injection h1 with h1
    injection h1 with _ h1
    exact oty_ne rf h1
  refine ⟨h.hB, h.blk.gb hg (fun e => hz (Option.some.inj e).symm), owned_gb h.own hg (fun g h1 h2 => hsv g h1 (Option.some.inj h2)), h.le, fun x hx => (h.by_ x hx).keep (owned_gb (h.by_ x hx).own hg fun g h1 h2 => owned_blk_ne (h.by_ x hx).own hR (by decide) g h1 (Option.some.inj h2)), fun g h => Nat.lt_of_lt_of_le (hF0 g h) hg.size, neF0⟩
theorem Left.two {last' : Int} {ks' : List Key} (h : Left F rf B z sv last' ks' w w') : Two z sv.ownBlock w w' := by
  obtain ⟨_, _, _, _, h2, _⟩ := h
  exact h2
theorem Left.trans {last' : Int} {ks' : List Key} {sv1 : Value} {X : World} (h : Two z sv.ownBlock w X) (hat : ∀ g, sv1.ownBlock = some g → sv.ownBlock = some g ∨ w.heap.size ≤ g) (k : Left F rf B z sv1 last' ks' X w') : Left F rf B z sv last' ks' w w' := by
  obtain ⟨sv', ls', h0, h1, h2, h3⟩ := k
  refine ⟨sv', ls', h0, h1, h.trans h2 hat, fun g hg => ?_⟩
  rcases h3 g hg with h4 | h4
  · exact hat g h4
  · exact .inr (Nat.le_trans h.size h4)
end
abbrev P (z : Nat) : Value := .pointer (some ⟨z, 0, none⟩)
def two (a b : Int) : Value := .tuple #[.int .i64 a, .int .i64 b]
def Send (F : Nat → Prop) (rf : Bool) (B z : Nat) (sv : Value) (r e : Int) (last' : Int) (ks' : List Key) (w : World) (en : Ending) (w' : World) : Prop := en = .returned (two r e) ∧ Left F rf B z sv last' ks' w w'
def lv (x : Lt) (e : Int) : Value := .tuple #[.agg #[.int .i64 x.n, .int .i64 x.to, x.v], .int .i64 e]
def fx (n : Int) (ks : List Key) : Option Nat := ks.findIdx? (fun k => k.1 == n)
end Go.Proofs.YtbpnbcjgkbpmgaaGreat.Lk
