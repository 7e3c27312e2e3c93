/- A primary answers without waiting for the other site, as many times as its leash allows: of any acts. No condition. (part 9) -/
import Derived.Deep.Cut
import Derived.Test.YtbpnbcjgkbpmgaaGreatMAh
namespace Go.Proofs.YtbpnbcjgkbpmgaaGreat
open Go.RowKit Go.Lg St
set_option linter.unusedVariables false
set_option linter.unusedSimpArgs false
theorem ba_app (a b : Bys) : ba (a ++ b) = ba a ++ ba b := by
  apply kb_inj
  simp [kb, ba]
theorem ba_take (k : ByteArray) (n : Nat) (h : n ≤ k.size) : k.extract 0 n = ba ((kb k).take n) := by
  apply kb_inj
  simp [kb, ba]
theorem _root_.Go.Lg.Mod.setNew {F : Fp} {w W : World} {p : Addr} (h : Mod F w W) (hp : w.heap.size ≤ p.block) (v : Value) : Mod F w (W.setCell p v) :=
  ⟨h.os, h.tape, h.output, Nat.le_trans h.size (by simp [World.setCell]), fun k hk hn => (Below.heap_setCell W p v k (by omega)).trans (h.block k hk hn)⟩
theorem _root_.Go.Lg.Blk.mod {F : Fp} {w W : World} {g : Nat} {t : TypeId} {cs : Array Value} (h : Blk w g t cs) (m : Mod F w W) (hg : ¬F g) : Blk W g t cs := (m.block g h.lt hg).trans h
theorem opcells {W : World} {g : Nat} {x y u : Value} (h : Blk W g 77 #[x, y, u]) : W.cell? ⟨g, 0, none⟩ = some x ∧ W.cell? ⟨g, 1, none⟩ = some y ∧ W.cell? ⟨g, 2, none⟩ = some u ∧ W.frozen? ⟨g, 0, none⟩ = false ∧ W.frozen? ⟨g, 1, none⟩ = false ∧ W.frozen? ⟨g, 2, none⟩ = false := ⟨h.cell 0, h.cell 1, h.cell 2, h.frozen 0, h.frozen 1, h.frozen 2⟩
theorem opstored {W : World} {g : Nat} {x y u x' y' u' : Value} (h : Blk W g 77 #[x, y, u]) : Blk (((W.setCell ⟨g, 0, none⟩ x').setCell ⟨g, 1, none⟩ y').setCell ⟨g, 2, none⟩ u') g 77 #[x', y', u'] := ((h.set_ 0 x').set_ 1 y').set_ 2 u'
def BrOp (z : Nat) (A : Option Addr) (n c : Nat) (b : Bys) (r : Op3 × Rs) (w : World) (e : Ending) (w' : World) : Prop := e = .returned r.1.v ∧ BrLeft z A n c b r.2 w w'
set_option maxHeartbeats 4000000 in
set_option maxRecDepth 100000 in
theorem op198 {w : World} {z n c : Nat} {A : Option Addr} {b : Bys} {s : Rs} (h : Br w z A n c b s) (last : ByteArray) (hl : last.size ≤ 100000) : Calls Tryz.prog 198 #[P z, .string last] w (BrOp z A n c b (rop b (kb last) s) w) := by
  have hal := al_below w (.cells #[.bool false, .string ⟨#[]⟩, .string ⟨#[]⟩] 77)
  have hn := number197 (h.mv hal) 1 (by omega)
  have hle := rnum_le (b := b) (most := 1) (s := s) (by rw [h.len]; exact h.le)
  obtain ⟨p, s1, hr1⟩ : ∃ p s1, rnum b 1 s = (p, s1) := ⟨_, _, rfl⟩
  rw [hr1] at hn hle
  simp only at hle
  have hp : p = 0 ∨ p = 1 := by omega
  have HR1 := hid hr1
  have HH := hid h
  have HAL := hid hal
  clear hr1 hle hal h
  go_enter Tryz.func198, Tryz.ntmps198
  go_wp2_with (go_at_call 197; refine stop_ (fun Ps hPs => ?_))
  refine hPs ?_
  clear hPs Ps
  refine hn.mono ?_
  clear hn
  rintro e' w2 ⟨rfl, hL2⟩
  have hz2 : z < w2.heap.size := hL2.1.blk.lt
  have hzw : z < w.heap.size := HH.out.blk.lt
  have hww : w.heap.size < w2.heap.size := Nat.lt_of_lt_of_le (by simp) hL2.2.size
  have n1 : z ≠ w2.heap.size := by omega
  have n2 : z ≠ w.heap.size := by omega
  have n3 : w.heap.size ≠ w2.heap.size := by omega
  have n1' := Ne.symm n1
  have n2' := Ne.symm n2
  have n3' := Ne.symm n3
  have m2 : Mod (fun k => k = z) w w2 := (Mod.of_below HAL.out).trans_ hL2.2
  have r2 : Blk w2 w.heap.size 77 #[.bool false, .string ⟨#[]⟩, .string ⟨#[]⟩] := (Blk.new w 77 _).mod hL2.2 n2'
  have M2 := hid m2
  have R2 := hid r2
  clear m2 r2
  have L2 := hid hL2
  clear hL2
  obtain ⟨k, s2, hr2⟩ : ∃ k s2, rnum b last.size s1 = (k, s2) := ⟨_, _, rfl⟩
  have HR2 := hid hr2
  have hle2 := rnum_le (b := b) (most := last.size) (s := s1) (by rw [L2.out.1.len]; exact L2.out.1.le)
  rw [hr2] at hle2
  simp only at hle2
  have hk : k ≤ last.size := by omega
  have hki : (k : Int) ≤ (last.size : Int) := by omega
  have hk0 : (0 : Int) ≤ (k : Int) := by omega
  obtain ⟨tx, s3, hr3⟩ : ∃ tx s3, rtext b 16 s2 = (tx, s3) := ⟨_, _, rfl⟩
  have HR3 := hid hr3
  have hle3 := rtext_le (b := b) (most := 16) (s := s2) (by omega)
  rw [hr3] at hle3
  simp only at hle3
  have htx : (ba tx).size ≤ 16 := by rw [← kb_length, kb_ba]; omega
  have hex : (last.extract 0 k).size ≤ 100000 := by rw [ba_take _ _ hk, ← kb_length, kb_ba, List.length_take, kb_length]; omega
  have HKEY : Hid (rkey b (kb last) s1 = ((kb last).take k ++ tx, (s3.1, s3.2 || decide (sh (kb last) ((kb last).take k ++ tx) ≠ k)))) := hid (by
    unfold rkey
    rw [kb_length, HR2.out, HR3.out])
  have HEX : Hid (last.extract 0 k ++ ba tx = ba ((kb last).take k ++ tx)) := hid (by rw [ba_take _ _ hk, ba_app])
  have hsum : ¬(9223372036854775807 < k + (ba tx).size) := by omega
  obtain ⟨kx, hkx⟩ : ∃ kx, kx = (kb last).take k ++ tx := ⟨_, rfl⟩
  rw [← hkx] at HKEY HEX
  have hkxl : (ba kx).size ≤ 200000 := by
    have e1 : (ba tx).size = tx.length := by rw [← kb_length, kb_ba]
    have e2 : (ba kx).size = kx.length := by rw [← kb_length, kb_ba]
    rw [e2, hkx, List.length_append, List.length_take, kb_length]
    omega
  clear hr2 hle2 hr3 hle3 hkx
  rcases hp with rfl | rfl
  · go_wp2_with (go_at_call 197; refine stop_ (fun Ps hPs => ?_))
    refine hPs ?_
    clear hPs Ps
    refine (number197 (L2.out.1.mv (al_below w2 _)) (last.size : Int) (by omega)).mono ?_
    rw [HR2.out]
    rintro e' w3 ⟨rfl, hL3⟩
    have hob : Blk w3 w2.heap.size 77 #[.bool false, .string ⟨#[]⟩, .string ⟨#[]⟩] := (Blk.new w2 77 _).mod hL3.2 n1'
    have m3 : Mod (fun k => k = z) w w3 := (M2.out.trans_ (Mod.alloc _ _ _)).trans_ hL3.2
    have r3 : Blk w3 w.heap.size 77 #[.bool false, .string ⟨#[]⟩, .string ⟨#[]⟩] := (R2.out.alloc _).mod hL3.2 n2'
    have L3 := hid hL3
    have HOB := hid hob
    have M3 := hid m3
    have R3 := hid r3
    clear hL3 hob m3 r3
    go_wp2_with fail
    go_region_held3 (fun _ => True) (trivial) (first | (go_at_call 229; refine (text229 (L3.out.1.mv (below_drew w3)) 16 (by omega) (by omega)).mono ?_; rw [HR3.out]; rintro e' w4 ⟨rfl, hL4⟩; have hob4 : Blk w4 w2.heap.size 77 #[.bool false, .string ⟨#[]⟩, .string ⟨#[]⟩] := (HOB.out.later (below_drew w3)).mod hL4.2 n1'; have c4 := hob4.cell 1; have f4 := hob4.frozen 1))
    rw [HEX.out]
    have hob5 : Blk (w4.setCell ⟨w2.heap.size, 1, none⟩ (.string (ba kx))) w2.heap.size 77 #[.bool false, .string (ba kx), .string ⟨#[]⟩] := hob4.set_ 1 _
    have m5 : Mod (fun k => k = z) w (w4.setCell ⟨w2.heap.size, 1, none⟩ (.string (ba kx))) := ((M3.out.behind (below_drew w3)).trans_ hL4.2).setNew (p := ⟨w2.heap.size, 1, none⟩) (by simp only; omega) _
    have b5 : Blk (w4.setCell ⟨w2.heap.size, 1, none⟩ (.string (ba kx))) z 274 #[.slice A n c, .int .i64 (s3.1 : Nat), .bool s3.2] := hL4.1.blk.far (p := ⟨w2.heap.size, 1, none⟩) n1 _
    have r5 : Blk (w4.setCell ⟨w2.heap.size, 1, none⟩ (.string (ba kx))) w.heap.size 77 #[.bool false, .string ⟨#[]⟩, .string ⟨#[]⟩] := ((R3.out.later (below_drew w3)).mod hL4.2 n2').far (p := ⟨w2.heap.size, 1, none⟩) n3 _
    have hs3n : s3.1 ≤ n := hL4.1.le
    obtain ⟨W5, hW5⟩ : ∃ W5, W5 = w4.setCell ⟨w2.heap.size, 1, none⟩ (.string (ba kx)) := ⟨_, rfl⟩
    rw [← hW5] at hob5 m5 b5 r5 ⊢
    have M5 := hid m5
    have B5 := hid b5
    have R5 := hid r5
    have O5 := hid hob5
    clear hW5 hL4 hob4 c4 f4 m5 b5 r5 hob5
    have hcs : ∃ bad1, s3.2 = bad1 := ⟨_, rfl⟩
    obtain ⟨bad1, hbd⟩ := hcs
    rw [hbd] at B5 HKEY
    clear hbd
    have c5 : W5.cell? ⟨z, 2, none⟩ = some (.bool bad1) := B5.out.cell 2
    have f5 := B5.out.frozen 2
    have o51 : W5.cell? ⟨w2.heap.size, 1, none⟩ = some (.string (ba kx)) := O5.out.cell 1
    cases bad1 with
    | true =>
      have HKEY2 : Hid (rkey b (kb last) s1 = (kx, (s3.1, true))) := hid (by rw [HKEY.out]; rfl)
      have HB6 : Hid (Blk (W5.setCell ⟨z, 2, none⟩ (.bool true)) z 274 #[.slice A n c, .int .i64 (s3.1 : Nat), .bool true]) := hid (B5.out.set_ 2 _)
      have HM6 : Hid (Mod (fun k => k = z) w (W5.setCell ⟨z, 2, none⟩ (.bool true))) := hid (M5.out.trans_ (Mod.setCell (F := fun k => k = z) (p := ⟨z, 2, none⟩) rfl _))
      have HO6 : Hid (Blk (W5.setCell ⟨z, 2, none⟩ (.bool true)) w2.heap.size 77 #[.bool false, .string (ba kx), .string ⟨#[]⟩]) := hid (O5.out.far (p := ⟨z, 2, none⟩) n1' _)
      have HR6 : Hid (Blk (W5.setCell ⟨z, 2, none⟩ (.bool true)) w.heap.size 77 #[.bool false, .string ⟨#[]⟩, .string ⟨#[]⟩]) := hid (R5.out.far (p := ⟨z, 2, none⟩) n2' _)
      go_upto_region 5 with (fail)
      obtain ⟨W6, hW6⟩ : ∃ W6, W6 = W5.setCell ⟨z, 2, none⟩ (.bool true) := ⟨_, rfl⟩
      rw [← hW6] at HB6 HM6 HO6 HR6 ⊢
      clear hW6 c5 f5 o51
      obtain ⟨q0, q1, q2, e0, e1, e2⟩ := opcells HO6.out
      obtain ⟨r0, r1, r2, g0, g1, g2⟩ := opcells HR6.out
      have HROP : Hid (rop b (kb last) s = (⟨false, ba kx, ba []⟩, (s3.1, true))) := hid (by
        unfold rop
        rw [HR1.out, if_neg (by simp), HKEY2.out])
      have hst := opstored (x' := .bool false) (y' := .string (ba kx)) (u' := .string ⟨#[]⟩) HR6.out
      obtain ⟨p0, p1, p2, _⟩ := opcells hst
      have HFIN := hid (HH.out.set (s' := (s3.1, true)) (((HM6.out.setNew (p := ⟨w.heap.size, 0, none⟩) (Nat.le_refl _) (.bool false)).setNew (p := ⟨w.heap.size, 1, none⟩) (Nat.le_refl _) (.string (ba kx))).setNew (p := ⟨w.heap.size, 2, none⟩) (Nat.le_refl _) (.string ⟨#[]⟩)) (((HB6.out.far (p := ⟨w.heap.size, 0, none⟩) n2 _).far (p := ⟨w.heap.size, 1, none⟩) n2 _).far (p := ⟨w.heap.size, 2, none⟩) n2 _) hs3n)
      clear hst
      go_wp2_with fail
      refine bodyPost_ret (by simp [results, Tryz.results198, go_sem, p0, p1, p2]; try rfl) rfl ?_
      rw [HROP.out]
      exact ⟨rfl, HFIN.out⟩
    | false =>
      by_cases hsh : sh (kb last) kx = k
      · have HKEY2 : Hid (rkey b (kb last) s1 = (kx, (s3.1, false))) := hid (by rw [HKEY.out]; simp [hsh])
        have hq : (((sh (kb last) kx : Nat) : Int) != (k : Int)) = false := by rw [hsh]; simp
        have hshr := shared230 last (ba kx) W5 (by omega) (by omega)
        rw [kb_ba] at hshr
        obtain ⟨sx, hsx⟩ : ∃ sx, sx = sh (kb last) kx := ⟨_, rfl⟩
        rw [← hsx] at hq hshr
        have HSHR := hid hshr
        clear hsh hshr hsx
        go_upto_region 5 with (go_at_call 230; refine stop_ (fun Ps hPs => ?_))
        refine hPs ?_
        clear hPs Ps
        refine HSHR.out.mono ?_
        rintro e' w51 ⟨rfl, hb51⟩
        have M51 := hid (M5.out.behind hb51)
        have B51 := hid (B5.out.later hb51)
        have R51 := hid (R5.out.later hb51)
        have O51 := hid (O5.out.later hb51)
        clear M5 B5 R5 O5 c5 f5 o51 hb51
        have M5 := M51
        have B5 := B51
        have R5 := R51
        have O5 := O51
        clear M51 B51 R51 O51
        have c5 : w51.cell? ⟨z, 2, none⟩ = some (.bool false) := B5.out.cell 2
        have f5 := B5.out.frozen 2
        have o51 : w51.cell? ⟨w2.heap.size, 1, none⟩ = some (.string (ba kx)) := O5.out.cell 1
        have HB6 : Hid (Blk (w51.setCell ⟨z, 2, none⟩ (.bool false)) z 274 #[.slice A n c, .int .i64 (s3.1 : Nat), .bool false]) := hid (B5.out.set_ 2 _)
        have HM6 : Hid (Mod (fun k => k = z) w (w51.setCell ⟨z, 2, none⟩ (.bool false))) := hid (M5.out.trans_ (Mod.setCell (F := fun k => k = z) (p := ⟨z, 2, none⟩) rfl _))
        have HO6 : Hid (Blk (w51.setCell ⟨z, 2, none⟩ (.bool false)) w2.heap.size 77 #[.bool false, .string (ba kx), .string ⟨#[]⟩]) := hid (O5.out.far (p := ⟨z, 2, none⟩) n1' _)
        have HR6 : Hid (Blk (w51.setCell ⟨z, 2, none⟩ (.bool false)) w.heap.size 77 #[.bool false, .string ⟨#[]⟩, .string ⟨#[]⟩]) := hid (R5.out.far (p := ⟨z, 2, none⟩) n2' _)
        go_upto_region 5 with (fail)
        obtain ⟨W6, hW6⟩ : ∃ W6, W6 = w51.setCell ⟨z, 2, none⟩ (.bool false) := ⟨_, rfl⟩
        rw [← hW6] at HB6 HM6 HO6 HR6 ⊢
        clear hW6 c5 f5 o51
        obtain ⟨q0, q1, q2, e0, e1, e2⟩ := opcells HO6.out
        obtain ⟨r0, r1, r2, g0, g1, g2⟩ := opcells HR6.out
        have HROP : Hid (rop b (kb last) s = (⟨false, ba kx, ba []⟩, (s3.1, false))) := hid (by
          unfold rop
          rw [HR1.out, if_neg (by simp), HKEY2.out])
        have hst := opstored (x' := .bool false) (y' := .string (ba kx)) (u' := .string ⟨#[]⟩) HR6.out
        obtain ⟨p0, p1, p2, _⟩ := opcells hst
        have HFIN := hid (HH.out.set (s' := (s3.1, false)) (((HM6.out.setNew (p := ⟨w.heap.size, 0, none⟩) (Nat.le_refl _) (.bool false)).setNew (p := ⟨w.heap.size, 1, none⟩) (Nat.le_refl _) (.string (ba kx))).setNew (p := ⟨w.heap.size, 2, none⟩) (Nat.le_refl _) (.string ⟨#[]⟩)) (((HB6.out.far (p := ⟨w.heap.size, 0, none⟩) n2 _).far (p := ⟨w.heap.size, 1, none⟩) n2 _).far (p := ⟨w.heap.size, 2, none⟩) n2 _) hs3n)
        clear hst
        go_wp2_with fail
        refine bodyPost_ret (by simp [results, Tryz.results198, go_sem, p0, p1, p2]; try rfl) rfl ?_
        rw [HROP.out]
        exact ⟨rfl, HFIN.out⟩
      · have HKEY2 : Hid (rkey b (kb last) s1 = (kx, (s3.1, true))) := hid (by rw [HKEY.out]; simp [hsh])
        have hq : (((sh (kb last) kx : Nat) : Int) != (k : Int)) = true := by simp; omega
        have hshr := shared230 last (ba kx) W5 (by omega) (by omega)
        rw [kb_ba] at hshr
        obtain ⟨sx, hsx⟩ : ∃ sx, sx = sh (kb last) kx := ⟨_, rfl⟩
        rw [← hsx] at hq hshr
        have HSHR := hid hshr
        clear hsh hshr hsx
        go_upto_region 5 with (go_at_call 230; refine stop_ (fun Ps hPs => ?_))
        refine hPs ?_
        clear hPs Ps
        refine HSHR.out.mono ?_
        rintro e' w51 ⟨rfl, hb51⟩
        have M51 := hid (M5.out.behind hb51)
        have B51 := hid (B5.out.later hb51)
        have R51 := hid (R5.out.later hb51)
        have O51 := hid (O5.out.later hb51)
        clear M5 B5 R5 O5 c5 f5 o51 hb51
        have M5 := M51
        have B5 := B51
        have R5 := R51
        have O5 := O51
        clear M51 B51 R51 O51
        have c5 : w51.cell? ⟨z, 2, none⟩ = some (.bool false) := B5.out.cell 2
        have f5 := B5.out.frozen 2
        have o51 : w51.cell? ⟨w2.heap.size, 1, none⟩ = some (.string (ba kx)) := O5.out.cell 1
        have HB6 : Hid (Blk (w51.setCell ⟨z, 2, none⟩ (.bool true)) z 274 #[.slice A n c, .int .i64 (s3.1 : Nat), .bool true]) := hid (B5.out.set_ 2 _)
        have HM6 : Hid (Mod (fun k => k = z) w (w51.setCell ⟨z, 2, none⟩ (.bool true))) := hid (M5.out.trans_ (Mod.setCell (F := fun k => k = z) (p := ⟨z, 2, none⟩) rfl _))
        have HO6 : Hid (Blk (w51.setCell ⟨z, 2, none⟩ (.bool true)) w2.heap.size 77 #[.bool false, .string (ba kx), .string ⟨#[]⟩]) := hid (O5.out.far (p := ⟨z, 2, none⟩) n1' _)
        have HR6 : Hid (Blk (w51.setCell ⟨z, 2, none⟩ (.bool true)) w.heap.size 77 #[.bool false, .string ⟨#[]⟩, .string ⟨#[]⟩]) := hid (R5.out.far (p := ⟨z, 2, none⟩) n2' _)
        go_upto_region 5 with (fail)
        obtain ⟨W6, hW6⟩ : ∃ W6, W6 = w51.setCell ⟨z, 2, none⟩ (.bool true) := ⟨_, rfl⟩
        rw [← hW6] at HB6 HM6 HO6 HR6 ⊢
        clear hW6 c5 f5 o51
        obtain ⟨q0, q1, q2, e0, e1, e2⟩ := opcells HO6.out
        obtain ⟨r0, r1, r2, g0, g1, g2⟩ := opcells HR6.out
        have HROP : Hid (rop b (kb last) s = (⟨false, ba kx, ba []⟩, (s3.1, true))) := hid (by
          unfold rop
          rw [HR1.out, if_neg (by simp), HKEY2.out])
        have hst := opstored (x' := .bool false) (y' := .string (ba kx)) (u' := .string ⟨#[]⟩) HR6.out
        obtain ⟨p0, p1, p2, _⟩ := opcells hst
        have HFIN := hid (HH.out.set (s' := (s3.1, true)) (((HM6.out.setNew (p := ⟨w.heap.size, 0, none⟩) (Nat.le_refl _) (.bool false)).setNew (p := ⟨w.heap.size, 1, none⟩) (Nat.le_refl _) (.string (ba kx))).setNew (p := ⟨w.heap.size, 2, none⟩) (Nat.le_refl _) (.string ⟨#[]⟩)) (((HB6.out.far (p := ⟨w.heap.size, 0, none⟩) n2 _).far (p := ⟨w.heap.size, 1, none⟩) n2 _).far (p := ⟨w.heap.size, 2, none⟩) n2 _) hs3n)
        clear hst
        go_wp2_with fail
        refine bodyPost_ret (by simp [results, Tryz.results198, go_sem, p0, p1, p2]; try rfl) rfl ?_
        rw [HROP.out]
        exact ⟨rfl, HFIN.out⟩
  · go_wp2_with (go_at_call 197; refine stop_ (fun Ps hPs => ?_))
    refine hPs ?_
    clear hPs Ps
    refine (number197 (L2.out.1.mv (al_below w2 _)) (last.size : Int) (by omega)).mono ?_
    rw [HR2.out]
    rintro e' w3 ⟨rfl, hL3⟩
    have hob : Blk w3 w2.heap.size 77 #[.bool true, .string ⟨#[]⟩, .string ⟨#[]⟩] := (Blk.new w2 77 _).mod hL3.2 n1'
    have m3 : Mod (fun k => k = z) w w3 := (M2.out.trans_ (Mod.alloc _ _ _)).trans_ hL3.2
    have r3 : Blk w3 w.heap.size 77 #[.bool false, .string ⟨#[]⟩, .string ⟨#[]⟩] := (R2.out.alloc _).mod hL3.2 n2'
    have L3 := hid hL3
    have HOB := hid hob
    have M3 := hid m3
    have R3 := hid r3
    clear hL3 hob m3 r3
    go_wp2_with fail
    go_region_held3 (fun _ => True) (trivial) (first | (go_at_call 229; refine (text229 (L3.out.1.mv (below_drew w3)) 16 (by omega) (by omega)).mono ?_; rw [HR3.out]; rintro e' w4 ⟨rfl, hL4⟩; have hob4 : Blk w4 w2.heap.size 77 #[.bool true, .string ⟨#[]⟩, .string ⟨#[]⟩] := (HOB.out.later (below_drew w3)).mod hL4.2 n1'; have c4 := hob4.cell 1; have f4 := hob4.frozen 1))
    rw [HEX.out]
    have hob5 : Blk (w4.setCell ⟨w2.heap.size, 1, none⟩ (.string (ba kx))) w2.heap.size 77 #[.bool true, .string (ba kx), .string ⟨#[]⟩] := hob4.set_ 1 _
    have m5 : Mod (fun k => k = z) w (w4.setCell ⟨w2.heap.size, 1, none⟩ (.string (ba kx))) := ((M3.out.behind (below_drew w3)).trans_ hL4.2).setNew (p := ⟨w2.heap.size, 1, none⟩) (by simp only; omega) _
    have b5 : Blk (w4.setCell ⟨w2.heap.size, 1, none⟩ (.string (ba kx))) z 274 #[.slice A n c, .int .i64 (s3.1 : Nat), .bool s3.2] := hL4.1.blk.far (p := ⟨w2.heap.size, 1, none⟩) n1 _
    have r5 : Blk (w4.setCell ⟨w2.heap.size, 1, none⟩ (.string (ba kx))) w.heap.size 77 #[.bool false, .string ⟨#[]⟩, .string ⟨#[]⟩] := ((R3.out.later (below_drew w3)).mod hL4.2 n2').far (p := ⟨w2.heap.size, 1, none⟩) n3 _
    have hs3n : s3.1 ≤ n := hL4.1.le
    obtain ⟨W5, hW5⟩ : ∃ W5, W5 = w4.setCell ⟨w2.heap.size, 1, none⟩ (.string (ba kx)) := ⟨_, rfl⟩
    rw [← hW5] at hob5 m5 b5 r5 ⊢
    have M5 := hid m5
    have B5 := hid b5
    have R5 := hid r5
    have O5 := hid hob5
    clear hW5 hL4 hob4 c4 f4 m5 b5 r5 hob5
    have hcs : ∃ bad1, s3.2 = bad1 := ⟨_, rfl⟩
    obtain ⟨bad1, hbd⟩ := hcs
    rw [hbd] at B5 HKEY
    clear hbd
    have c5 : W5.cell? ⟨z, 2, none⟩ = some (.bool bad1) := B5.out.cell 2
    have f5 := B5.out.frozen 2
    have o51 : W5.cell? ⟨w2.heap.size, 1, none⟩ = some (.string (ba kx)) := O5.out.cell 1
    cases bad1 with
    | true =>
      have HKEY2 : Hid (rkey b (kb last) s1 = (kx, (s3.1, true))) := hid (by rw [HKEY.out]; rfl)
      have HB6 : Hid (Blk (W5.setCell ⟨z, 2, none⟩ (.bool true)) z 274 #[.slice A n c, .int .i64 (s3.1 : Nat), .bool true]) := hid (B5.out.set_ 2 _)
      have HM6 : Hid (Mod (fun k => k = z) w (W5.setCell ⟨z, 2, none⟩ (.bool true))) := hid (M5.out.trans_ (Mod.setCell (F := fun k => k = z) (p := ⟨z, 2, none⟩) rfl _))
      have HO6 : Hid (Blk (W5.setCell ⟨z, 2, none⟩ (.bool true)) w2.heap.size 77 #[.bool true, .string (ba kx), .string ⟨#[]⟩]) := hid (O5.out.far (p := ⟨z, 2, none⟩) n1' _)
      have HR6 : Hid (Blk (W5.setCell ⟨z, 2, none⟩ (.bool true)) w.heap.size 77 #[.bool false, .string ⟨#[]⟩, .string ⟨#[]⟩]) := hid (R5.out.far (p := ⟨z, 2, none⟩) n2' _)
      go_upto_region 5 with (fail)
      obtain ⟨W6, hW6⟩ : ∃ W6, W6 = W5.setCell ⟨z, 2, none⟩ (.bool true) := ⟨_, rfl⟩
      rw [← hW6] at HB6 HM6 HO6 HR6 ⊢
      clear hW6 c5 f5 o51
      obtain ⟨q0, q1, q2, e0, e1, e2⟩ := opcells HO6.out
      obtain ⟨r0, r1, r2, g0, g1, g2⟩ := opcells HR6.out
      obtain ⟨tv, s4, hr4⟩ : ∃ tv s4, rtext b 32 (s3.1, true) = (tv, s4) := ⟨_, _, rfl⟩
      have HROP : Hid (rop b (kb last) s = (⟨true, ba kx, ba tv⟩, s4)) := hid (by
        unfold rop
        rw [HR1.out, if_pos rfl, HKEY2.out, hr4])
      have hb6 := (HH.out.set (s' := (s3.1, true)) HM6.out HB6.out hs3n).1
      have ht6 := text229 hb6 32 (by omega) (by omega)
      rw [hr4] at ht6
      have HT6 := hid ht6
      clear hr4 hb6 ht6
      go_upto_region 7 with (go_at_call 229; refine HT6.out.mono ?_; rintro e' w7 ⟨rfl, hL7⟩; have o7 : Blk w7 w2.heap.size 77 #[.bool true, .string (ba kx), .string ⟨#[]⟩] := HO6.out.mod hL7.2 n1'; have o72 := o7.cell 2; have o7f := o7.frozen 2)
      have hle7 := hL7.1.le
      have o8 : Blk (w7.setCell ⟨w2.heap.size, 2, none⟩ (.string (ba tv))) w2.heap.size 77 #[.bool true, .string (ba kx), .string (ba tv)] := o7.set_ 2 _
      have m8 : Mod (fun k => k = z) w (w7.setCell ⟨w2.heap.size, 2, none⟩ (.string (ba tv))) := (HM6.out.trans_ hL7.2).setNew (p := ⟨w2.heap.size, 2, none⟩) (by simp only; omega) _
      have b8 : Blk (w7.setCell ⟨w2.heap.size, 2, none⟩ (.string (ba tv))) z 274 #[.slice A n c, .int .i64 (s4.1 : Nat), .bool s4.2] := hL7.1.blk.far (p := ⟨w2.heap.size, 2, none⟩) n1 _
      have x8 : Blk (w7.setCell ⟨w2.heap.size, 2, none⟩ (.string (ba tv))) w.heap.size 77 #[.bool false, .string ⟨#[]⟩, .string ⟨#[]⟩] := (HR6.out.mod hL7.2 n2').far (p := ⟨w2.heap.size, 2, none⟩) n3 _
      clear o7 o72 o7f hL7 q0 q1 q2 e0 e1 e2 r0 r1 r2 g0 g1 g2
      obtain ⟨W8, hW8⟩ : ∃ W8, W8 = w7.setCell ⟨w2.heap.size, 2, none⟩ (.string (ba tv)) := ⟨_, rfl⟩
      rw [← hW8] at o8 m8 b8 x8 ⊢
      clear hW8
      obtain ⟨q0, q1, q2, e0, e1, e2⟩ := opcells o8
      obtain ⟨r0, r1, r2, g0, g1, g2⟩ := opcells x8
      have hst := opstored (x' := .bool true) (y' := .string (ba kx)) (u' := .string (ba tv)) x8
      obtain ⟨p0, p1, p2, _⟩ := opcells hst
      have HFIN := hid (HH.out.set (s' := s4) (((m8.setNew (p := ⟨w.heap.size, 0, none⟩) (Nat.le_refl _) (.bool true)).setNew (p := ⟨w.heap.size, 1, none⟩) (Nat.le_refl _) (.string (ba kx))).setNew (p := ⟨w.heap.size, 2, none⟩) (Nat.le_refl _) (.string (ba tv))) (((b8.far (p := ⟨w.heap.size, 0, none⟩) n2 _).far (p := ⟨w.heap.size, 1, none⟩) n2 _).far (p := ⟨w.heap.size, 2, none⟩) n2 _) hle7)
      have M8 := hid m8
      have B8 := hid b8
      clear hst m8 b8 o8 x8
      go_wp2_with fail
      refine bodyPost_ret (by simp [results, Tryz.results198, go_sem, p0, p1, p2]; try rfl) rfl ?_
      rw [HROP.out]
      exact ⟨rfl, HFIN.out⟩
    | false =>
      by_cases hsh : sh (kb last) kx = k
      · have HKEY2 : Hid (rkey b (kb last) s1 = (kx, (s3.1, false))) := hid (by rw [HKEY.out]; simp [hsh])
        have hq : (((sh (kb last) kx : Nat) : Int) != (k : Int)) = false := by rw [hsh]; simp
        have hshr := shared230 last (ba kx) W5 (by omega) (by omega)
        rw [kb_ba] at hshr
        obtain ⟨sx, hsx⟩ : ∃ sx, sx = sh (kb last) kx := ⟨_, rfl⟩
        rw [← hsx] at hq hshr
        have HSHR := hid hshr
        clear hsh hshr hsx
        go_upto_region 5 with (go_at_call 230; refine stop_ (fun Ps hPs => ?_))
        refine hPs ?_
        clear hPs Ps
        refine HSHR.out.mono ?_
        rintro e' w51 ⟨rfl, hb51⟩
        have M51 := hid (M5.out.behind hb51)
        have B51 := hid (B5.out.later hb51)
        have R51 := hid (R5.out.later hb51)
        have O51 := hid (O5.out.later hb51)
        clear M5 B5 R5 O5 c5 f5 o51 hb51
        have M5 := M51
        have B5 := B51
        have R5 := R51
        have O5 := O51
        clear M51 B51 R51 O51
        have c5 : w51.cell? ⟨z, 2, none⟩ = some (.bool false) := B5.out.cell 2
        have f5 := B5.out.frozen 2
        have o51 : w51.cell? ⟨w2.heap.size, 1, none⟩ = some (.string (ba kx)) := O5.out.cell 1
        have HB6 : Hid (Blk (w51.setCell ⟨z, 2, none⟩ (.bool false)) z 274 #[.slice A n c, .int .i64 (s3.1 : Nat), .bool false]) := hid (B5.out.set_ 2 _)
        have HM6 : Hid (Mod (fun k => k = z) w (w51.setCell ⟨z, 2, none⟩ (.bool false))) := hid (M5.out.trans_ (Mod.setCell (F := fun k => k = z) (p := ⟨z, 2, none⟩) rfl _))
        have HO6 : Hid (Blk (w51.setCell ⟨z, 2, none⟩ (.bool false)) w2.heap.size 77 #[.bool true, .string (ba kx), .string ⟨#[]⟩]) := hid (O5.out.far (p := ⟨z, 2, none⟩) n1' _)
        have HR6 : Hid (Blk (w51.setCell ⟨z, 2, none⟩ (.bool false)) w.heap.size 77 #[.bool false, .string ⟨#[]⟩, .string ⟨#[]⟩]) := hid (R5.out.far (p := ⟨z, 2, none⟩) n2' _)
        go_upto_region 5 with (fail)
        obtain ⟨W6, hW6⟩ : ∃ W6, W6 = w51.setCell ⟨z, 2, none⟩ (.bool false) := ⟨_, rfl⟩
        rw [← hW6] at HB6 HM6 HO6 HR6 ⊢
        clear hW6 c5 f5 o51
        obtain ⟨q0, q1, q2, e0, e1, e2⟩ := opcells HO6.out
        obtain ⟨r0, r1, r2, g0, g1, g2⟩ := opcells HR6.out
        obtain ⟨tv, s4, hr4⟩ : ∃ tv s4, rtext b 32 (s3.1, false) = (tv, s4) := ⟨_, _, rfl⟩
        have HROP : Hid (rop b (kb last) s = (⟨true, ba kx, ba tv⟩, s4)) := hid (by
          unfold rop
          rw [HR1.out, if_pos rfl, HKEY2.out, hr4])
        have hb6 := (HH.out.set (s' := (s3.1, false)) HM6.out HB6.out hs3n).1
        have ht6 := text229 hb6 32 (by omega) (by omega)
        rw [hr4] at ht6
        have HT6 := hid ht6
        clear hr4 hb6 ht6
        go_upto_region 7 with (go_at_call 229; refine HT6.out.mono ?_; rintro e' w7 ⟨rfl, hL7⟩; have o7 : Blk w7 w2.heap.size 77 #[.bool true, .string (ba kx), .string ⟨#[]⟩] := HO6.out.mod hL7.2 n1'; have o72 := o7.cell 2; have o7f := o7.frozen 2)
        have hle7 := hL7.1.le
        have o8 : Blk (w7.setCell ⟨w2.heap.size, 2, none⟩ (.string (ba tv))) w2.heap.size 77 #[.bool true, .string (ba kx), .string (ba tv)] := o7.set_ 2 _
        have m8 : Mod (fun k => k = z) w (w7.setCell ⟨w2.heap.size, 2, none⟩ (.string (ba tv))) := (HM6.out.trans_ hL7.2).setNew (p := ⟨w2.heap.size, 2, none⟩) (by simp only; omega) _
        have b8 : Blk (w7.setCell ⟨w2.heap.size, 2, none⟩ (.string (ba tv))) z 274 #[.slice A n c, .int .i64 (s4.1 : Nat), .bool s4.2] := hL7.1.blk.far (p := ⟨w2.heap.size, 2, none⟩) n1 _
        have x8 : Blk (w7.setCell ⟨w2.heap.size, 2, none⟩ (.string (ba tv))) w.heap.size 77 #[.bool false, .string ⟨#[]⟩, .string ⟨#[]⟩] := (HR6.out.mod hL7.2 n2').far (p := ⟨w2.heap.size, 2, none⟩) n3 _
        clear o7 o72 o7f hL7 q0 q1 q2 e0 e1 e2 r0 r1 r2 g0 g1 g2
        obtain ⟨W8, hW8⟩ : ∃ W8, W8 = w7.setCell ⟨w2.heap.size, 2, none⟩ (.string (ba tv)) := ⟨_, rfl⟩
        rw [← hW8] at o8 m8 b8 x8 ⊢
        clear hW8
        obtain ⟨q0, q1, q2, e0, e1, e2⟩ := opcells o8
        obtain ⟨r0, r1, r2, g0, g1, g2⟩ := opcells x8
        have hst := opstored (x' := .bool true) (y' := .string (ba kx)) (u' := .string (ba tv)) x8
        obtain ⟨p0, p1, p2, _⟩ := opcells hst
        have HFIN := hid (HH.out.set (s' := s4) (((m8.setNew (p := ⟨w.heap.size, 0, none⟩) (Nat.le_refl _) (.bool true)).setNew (p := ⟨w.heap.size, 1, none⟩) (Nat.le_refl _) (.string (ba kx))).setNew (p := ⟨w.heap.size, 2, none⟩) (Nat.le_refl _) (.string (ba tv))) (((b8.far (p := ⟨w.heap.size, 0, none⟩) n2 _).far (p := ⟨w.heap.size, 1, none⟩) n2 _).far (p := ⟨w.heap.size, 2, none⟩) n2 _) hle7)
        have M8 := hid m8
        have B8 := hid b8
        clear hst m8 b8 o8 x8
        go_wp2_with fail
        refine bodyPost_ret (by simp [results, Tryz.results198, go_sem, p0, p1, p2]; try rfl) rfl ?_
        rw [HROP.out]
        exact ⟨rfl, HFIN.out⟩
      · have HKEY2 : Hid (rkey b (kb last) s1 = (kx, (s3.1, true))) := hid (by rw [HKEY.out]; simp [hsh])
        have hq : (((sh (kb last) kx : Nat) : Int) != (k : Int)) = true := by simp; omega
        have hshr := shared230 last (ba kx) W5 (by omega) (by omega)
        rw [kb_ba] at hshr
        obtain ⟨sx, hsx⟩ : ∃ sx, sx = sh (kb last) kx := ⟨_, rfl⟩
        rw [← hsx] at hq hshr
        have HSHR := hid hshr
        clear hsh hshr hsx
        go_upto_region 5 with (go_at_call 230; refine stop_ (fun Ps hPs => ?_))
        refine hPs ?_
        clear hPs Ps
        refine HSHR.out.mono ?_
        rintro e' w51 ⟨rfl, hb51⟩
        have M51 := hid (M5.out.behind hb51)
        have B51 := hid (B5.out.later hb51)
        have R51 := hid (R5.out.later hb51)
        have O51 := hid (O5.out.later hb51)
        clear M5 B5 R5 O5 c5 f5 o51 hb51
        have M5 := M51
        have B5 := B51
        have R5 := R51
        have O5 := O51
        clear M51 B51 R51 O51
        have c5 : w51.cell? ⟨z, 2, none⟩ = some (.bool false) := B5.out.cell 2
        have f5 := B5.out.frozen 2
        have o51 : w51.cell? ⟨w2.heap.size, 1, none⟩ = some (.string (ba kx)) := O5.out.cell 1
        have HB6 : Hid (Blk (w51.setCell ⟨z, 2, none⟩ (.bool true)) z 274 #[.slice A n c, .int .i64 (s3.1 : Nat), .bool true]) := hid (B5.out.set_ 2 _)
        have HM6 : Hid (Mod (fun k => k = z) w (w51.setCell ⟨z, 2, none⟩ (.bool true))) := hid (M5.out.trans_ (Mod.setCell (F := fun k => k = z) (p := ⟨z, 2, none⟩) rfl _))
        have HO6 : Hid (Blk (w51.setCell ⟨z, 2, none⟩ (.bool true)) w2.heap.size 77 #[.bool true, .string (ba kx), .string ⟨#[]⟩]) := hid (O5.out.far (p := ⟨z, 2, none⟩) n1' _)
        have HR6 : Hid (Blk (w51.setCell ⟨z, 2, none⟩ (.bool true)) w.heap.size 77 #[.bool false, .string ⟨#[]⟩, .string ⟨#[]⟩]) := hid (R5.out.far (p := ⟨z, 2, none⟩) n2' _)
        go_upto_region 5 with (fail)
        obtain ⟨W6, hW6⟩ : ∃ W6, W6 = w51.setCell ⟨z, 2, none⟩ (.bool true) := ⟨_, rfl⟩
        rw [← hW6] at HB6 HM6 HO6 HR6 ⊢
        clear hW6 c5 f5 o51
        obtain ⟨q0, q1, q2, e0, e1, e2⟩ := opcells HO6.out
        obtain ⟨r0, r1, r2, g0, g1, g2⟩ := opcells HR6.out
        obtain ⟨tv, s4, hr4⟩ : ∃ tv s4, rtext b 32 (s3.1, true) = (tv, s4) := ⟨_, _, rfl⟩
        have HROP : Hid (rop b (kb last) s = (⟨true, ba kx, ba tv⟩, s4)) := hid (by
          unfold rop
          rw [HR1.out, if_pos rfl, HKEY2.out, hr4])
        have hb6 := (HH.out.set (s' := (s3.1, true)) HM6.out HB6.out hs3n).1
        have ht6 := text229 hb6 32 (by omega) (by omega)
        rw [hr4] at ht6
        have HT6 := hid ht6
        clear hr4 hb6 ht6
        go_upto_region 7 with (go_at_call 229; refine HT6.out.mono ?_; rintro e' w7 ⟨rfl, hL7⟩; have o7 : Blk w7 w2.heap.size 77 #[.bool true, .string (ba kx), .string ⟨#[]⟩] := HO6.out.mod hL7.2 n1'; have o72 := o7.cell 2; have o7f := o7.frozen 2)
        have hle7 := hL7.1.le
        have o8 : Blk (w7.setCell ⟨w2.heap.size, 2, none⟩ (.string (ba tv))) w2.heap.size 77 #[.bool true, .string (ba kx), .string (ba tv)] := o7.set_ 2 _
        have m8 : Mod (fun k => k = z) w (w7.setCell ⟨w2.heap.size, 2, none⟩ (.string (ba tv))) := (HM6.out.trans_ hL7.2).setNew (p := ⟨w2.heap.size, 2, none⟩) (by simp only; omega) _
        have b8 : Blk (w7.setCell ⟨w2.heap.size, 2, none⟩ (.string (ba tv))) z 274 #[.slice A n c, .int .i64 (s4.1 : Nat), .bool s4.2] := hL7.1.blk.far (p := ⟨w2.heap.size, 2, none⟩) n1 _
        have x8 : Blk (w7.setCell ⟨w2.heap.size, 2, none⟩ (.string (ba tv))) w.heap.size 77 #[.bool false, .string ⟨#[]⟩, .string ⟨#[]⟩] := (HR6.out.mod hL7.2 n2').far (p := ⟨w2.heap.size, 2, none⟩) n3 _
        clear o7 o72 o7f hL7 q0 q1 q2 e0 e1 e2 r0 r1 r2 g0 g1 g2
        obtain ⟨W8, hW8⟩ : ∃ W8, W8 = w7.setCell ⟨w2.heap.size, 2, none⟩ (.string (ba tv)) := ⟨_, rfl⟩
        rw [← hW8] at o8 m8 b8 x8 ⊢
        clear hW8
        obtain ⟨q0, q1, q2, e0, e1, e2⟩ := opcells o8
        obtain ⟨r0, r1, r2, g0, g1, g2⟩ := opcells x8
        have hst := opstored (x' := .bool true) (y' := .string (ba kx)) (u' := .string (ba tv)) x8
        obtain ⟨p0, p1, p2, _⟩ := opcells hst
        have HFIN := hid (HH.out.set (s' := s4) (((m8.setNew (p := ⟨w.heap.size, 0, none⟩) (Nat.le_refl _) (.bool true)).setNew (p := ⟨w.heap.size, 1, none⟩) (Nat.le_refl _) (.string (ba kx))).setNew (p := ⟨w.heap.size, 2, none⟩) (Nat.le_refl _) (.string (ba tv))) (((b8.far (p := ⟨w.heap.size, 0, none⟩) n2 _).far (p := ⟨w.heap.size, 1, none⟩) n2 _).far (p := ⟨w.heap.size, 2, none⟩) n2 _) hle7)
        have M8 := hid m8
        have B8 := hid b8
        clear hst m8 b8 o8 x8
        go_wp2_with fail
        refine bodyPost_ret (by simp [results, Tryz.results198, go_sem, p0, p1, p2]; try rfl) rfl ?_
        rw [HROP.out]
        exact ⟨rfl, HFIN.out⟩
end Go.Proofs.YtbpnbcjgkbpmgaaGreat
