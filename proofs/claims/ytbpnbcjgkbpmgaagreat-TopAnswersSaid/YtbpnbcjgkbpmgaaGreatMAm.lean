/- A primary answers without waiting for the other site, as many times as its leash allows: of any acts. No condition. (part 13) -/
import Derived.Deep.RegionLaw
import Derived.Test.YtbpnbcjgkbpmgaaGreatMAb
import Derived.Test.YtbpnbcjgkbpmgaaGreatMAc
import Derived.Test.YtbpnbcjgkbpmgaaGreatMAd
import Derived.Test.YtbpnbcjgkbpmgaaGreatMAf
import Derived.Test.YtbpnbcjgkbpmgaaGreatMAh
import Derived.Test.YtbpnbcjgkbpmgaaGreatMAl
namespace Go.Proofs.YtbpnbcjgkbpmgaaGreat
open Go.RowKit Go.Lg Ds
set_option linter.unusedVariables false
set_option linter.unusedSimpArgs false
attribute [local go_sem ↓] Go.wp_at_zero Go.wp_at_succ
def updV (V : Nat → Value) (f : Nat) (v : Value) : Nat → Value := upd V f v
theorem dcs_upd (d : Dsk) (st : Int) (V : Nat → Value) (pv v : Value) {f : Nat} (hf : f < 4) : (dcs d st V pv).setIfInBounds (5 + f) v = dcs d st (upd V f v) pv := by
  obtain rfl | rfl | rfl | rfl : f = 0 ∨ f = 1 ∨ f = 2 ∨ f = 3 := by omega
  all_goals rfl
theorem dfile {w w3 : World} {tag : Nat → Nat} {F Fb : Fp} {z f : Nat} {d : Dsk} {st : Int} {V : Nat → Value} {pv v' : Value} {ps : List Sp} {b : Bs} (HT : Dt w tag z d st V pv ps) (HF : ∀ k, tag k ≠ 0 → F k) (hf : f < 4)
    (hv : Sl w3 Fb 5 1 v' b.length (bts b)) (hg : w.grownBy w3 (V f).ownBlock) (hat : ∀ g, v'.ownBlock = some g → (V f).ownBlock = some g ∨ w.heap.size ≤ g) :
    ∃ tag', (∀ k, tag' k ≠ 0 → F k ∨ w.heap.size ≤ k) ∧ Dt (w3.setCell ⟨z, 5 + f, none⟩ v') tag' z { d with dur := upd d.dur f b } st (upd V f v') pv ps ∧ Mod F w (w3.setCell ⟨z, 5 + f, none⟩ v') := by
  have hr := HT.rows f hf
  have m3 : Mod (fun k => tag k = 2 + f) w w3 := Mod.grown hg fun g hg => (hr.lt g hg).1
  obtain ⟨a1, a2, a3, a4⟩ := HT.part m3
  have b3 := a1 (by omega)
  have m4 : Mod (fun k => tg w tag (2 + f) k = 1) w3 (w3.setCell ⟨z, 5 + f, none⟩ v') := Mod.setCell (p := ⟨z, 5 + f, none⟩) b3.2 _
  have hv' : Sl w3 (fun k => tg w tag (2 + f) k = 2 + f) 5 1 v' b.length (bts b) := hv.re fun g hg => by
    rcases hat g hg with h | h
    · obtain ⟨h1, h2⟩ := hr.lt g h
      exact tg_old h1
    · exact tg_new (.inr h)
  refine ⟨tg w3 (tg w tag (2 + f)) 1, fun k hk => ?_, ⟨⟨?_, tg_old b3.2⟩, fun i hi => ?_, (a3 (by omega)).mv (tg_mv m4 (by decide)), HT.hps, fun s hs => ?_⟩, ?_⟩
  · by_cases hlt : k < w.heap.size
    · left
      apply HF
      intro h0
      apply hk
      have h3 : k < w3.heap.size := Nat.lt_of_lt_of_le hlt hg.size
      simp only [tg, if_pos hlt, if_pos h3, h0]
    · exact .inr (by omega)
  · have := b3.1.set_ (5 + f) v'
    rw [dcs_upd d st V pv v' hf] at this
    exact this
  · by_cases hif : i = f
    · subst hif
      rw [upd_same, show ({ d with dur := upd d.dur i b } : Dsk).dur i = b from upd_same _ _ _]
      exact hv'.mv (tg_mv m4 (by omega))
    · rw [upd_other _ _ hif, show ({ d with dur := upd d.dur f b } : Dsk).dur i = d.dur i from upd_other _ _ hif]
      exact (a2 i hi (by omega)).mv (tg_mv m4 (by omega))
  · obtain ⟨q1, q2⟩ := a4 (by omega) s hs
    exact ⟨q1.mv (tg_mv m4 (by decide)), q2⟩
  · have m1 : Mod F w w3 := Mod.grown hg fun g hg => HF g (by have : tag g = 2 + f := (hr.lt g hg).1; omega)
    exact m1.trans_ (Mod.setCell (p := ⟨z, 5 + f, none⟩) (HF z (by have : tag z = 1 := HT.blk.2; omega)) v')
theorem ran_file {D : Nat → Bs} {p : List Pst} {k : Nat} {s : Pst} (h : ran D p) (hs : p[k]? = some s) : s.file < 4 ∧ (s.wr = true → 1 ≤ s.b.length ∧ s.b.length ≤ 64) ∧ (s.wr = false → s.b = [] ∧ s.len ≤ (run D (p.take k) s.file).length) := by
  obtain ⟨h1, h2, h3⟩ := cut_in h hs
  refine ⟨h1, h2, fun hw => ?_⟩
  obtain ⟨h4, h5⟩ := h3 hw
  exact ⟨h4, by rw [run_runF]; exact h5⟩
theorem run_take_le {D : Nat → Bs} {p : List Pst} {k f : Nat} (h : ran D p) (hf : f < 4) : (run D (p.take k) f).length ≤ tot D + 64 * p.length := by
  rw [run_runF]; exact held_take h hf
theorem run_snoc (D : Nat → Bs) (p : List Pst) (s : Pst) : run D (p ++ [s]) = upd (run D p) s.file (done (run D p s.file) s) := by
  rw [run_append]; rfl
def Settled (F : Fp) (z : Nat) (d : Dsk) (w : World) (e : Ending) (w' : World) : Prop := e = .returned (.tuple #[]) ∧ DLeft F z d w w'
theorem dsettled {w wr : World} {tag' : Nat → Nat} {F : Fp} {z k cp : Nat} {d : Dsk} {st : Int} {V' : Nat → Value} {Ap : Option Addr} {ps : List Sp} {pv' : Value} {m : Nat} (HM : Mod F w wr) (HF : ∀ q, tag' q ≠ 0 → F q ∨ w.heap.size ≤ q)
    (HT : Dt wr tag' z { d with dur := run d.dur (d.pend.take k) } st V' (.slice Ap ps.length cp) ps) (hm : m = ps.length) (hp : Sl wr (fun q => tag' q = 6) 175 4 pv' (m - k) ((spc ps).drop (k * 4))) : DLeft F z (d.settle k) w (wr.setCell ⟨z, 9, none⟩ pv') := by
  have m5 : Mod (fun k => tag' k = 1) wr (wr.setCell ⟨z, 9, none⟩ pv') := Mod.setCell (p := ⟨z, 9, none⟩) HT.blk.2 _
  obtain ⟨_, a2, _, a4⟩ := HT.part m5
  refine ⟨fun q => F q ∨ w.heap.size ≤ q, ⟨tg wr tag' 1, st, V', pv', ps.drop k, fun q hq => ?_, ⟨⟨HT.blk.1.set_ 9 pv', tg_old HT.blk.2⟩, fun f hf => a2 f hf (by omega), ?_, by rw [List.map_drop, HT.hps]; rfl, fun s hs => a4 (by decide) s (List.mem_of_mem_drop hs)⟩⟩, HM.trans (Mod.setCell (p := ⟨z, 9, none⟩) (F := fun q => F q ∨ w.heap.size ≤ q) (HF z (by have : tag' z = 1 := HT.blk.2; omega)) pv') (fun q hq => hq), fun q hq => hq⟩
  · rcases tg_sub HF 1 q hq with h | h
    · exact h
    · exact .inr (Nat.le_trans HM.size h)
  · have := hp.mv (tg_mv m5 (by decide))
    rw [spc_drop] at this
    rw [List.length_drop, ← hm]
    exact this
set_option maxHeartbeats 4000000 in
set_option maxRecDepth 100000 in
theorem settle104 {w : World} {F : Fp} {z : Nat} {d : Dsk} (h : Dk w F z d) (hok : d.ok) (hsz : d.sz ≤ 17592186044416) (k : Nat) (hk : k ≤ d.pend.length) : Calls Tryz.prog 104 #[P z, .int .i64 (k : Nat)] w (Settled F z (d.settle k) w) := by
  obtain ⟨tag, st, V, pv, ps, hF, ht⟩ := h
  obtain ⟨Ap, cp, rfl, p1, p2⟩ := ht.prow.slice_
  have hpl : ps.length = d.pend.length := by rw [← ht.hps]; simp
  obtain ⟨m, hm⟩ : ∃ m, m = ps.length := ⟨_, rfl⟩
  have c9 : w.cell? ⟨z, 9, none⟩ = some (.slice Ap m cp) := by rw [hm]; exact ht.blk.1.cell 9
  rw [← hm] at p1
  unfold maxLen at p2
  have hki : (k : Int) ≤ (cp : Int) := by omega
  have hkm : k ≤ m := by omega
  have HM := hid hm
  have HPL := hid hpl
  have HT := hid ht
  have HF := hid hF
  have HOK := hid hok
  have HSZ : Hid (tot d.dur + 64 * d.pend.length ≤ 17592186044416) := by unfold Dsk.sz at hsz; unfold tot; exact hid hsz
  clear ht hm hF hpl hok hsz hk
  go_enter Tryz.func104, Tryz.ntmps104
  go_wp2_with fail
  go_loopg [13] k (fun g i wr => ∃ (j : Nat) (tag' : Nat → Nat) (V' : Nat → Value), j ≤ k ∧ g = k - j ∧ i = .int .i64 j ∧ Hid (Dt wr tag' z { d with dur := run d.dur (d.pend.take j) } st V' (.slice Ap ps.length cp) ps) ∧ Hid (∀ q, tag' q ≠ 0 → F q ∨ w.heap.size ≤ q) ∧ Hid (Mod F w wr))
  case atStart => exact ⟨0, tag, V, by omega, rfl, rfl, HT, hid (fun q hq => .inl (HF.out q hq)), hid (Mod.refl _ _)⟩
  case round =>
    obtain ⟨j, tag', V', hj, rfl, rfl, HT', HF', HM'⟩ := hrel
    by_cases hlt : j < k
    · obtain ⟨x, hx⟩ : ∃ x, ps[j]? = some x := ⟨ps[j]'(by have := HM.out; omega), List.getElem?_eq_getElem _⟩
      obtain ⟨g, off, rfl, _, hgl, q0, q1, q2, q3⟩ := spAt HT'.out.prow.rdf hx
      have hpx : d.pend[j]? = some x.p := by rw [← HT'.out.hps, List.getElem?_map, hx]; rfl
      obtain ⟨y1, y2, y3⟩ := ran_file HOK.out.ran hpx
      obtain ⟨yb, yc1, yc2⟩ := HT'.out.by_ x (List.mem_of_getElem? hx)
      have hsl : x.n ≤ 64 := by
        have h1 := yb.1
        rw [bts_length, Nat.mul_one] at h1
        rw [← h1]
        cases hw : x.wr
        · have := (y3 hw).1
          rw [show x.b = [] from this]
          simp
        · exact (y2 hw).2
      obtain ⟨l, hl⟩ : ∃ l, l = run d.dur (d.pend.take j) x.file := ⟨_, rfl⟩
      have hlb : l.length ≤ 17592186044416 := by rw [hl]; exact Nat.le_trans (run_take_le HOK.out.ran y1) HSZ.out
      have hcut : x.wr = false → x.len ≤ l.length := fun hw => by rw [hl]; exact (y3 hw).2
      have hrow := HT'.out.rows x.file y1
      have hrow : Sl wr (fun k => tag' k = 2 + x.file) 5 1 (V' x.file) l.length (bts l) := by rw [hl]; exact hrow
      have hal := al_below wr (.cells #[.int .i64 x.kd, .int .i64 (x.file : Nat), .slice x.A x.n x.c, .int .i64 (x.len : Nat)] 175)
      have hald : Below wr.heap.size wr (wr.alloc (.cells #[.int .i64 x.kd, .int .i64 (x.file : Nat), .slice x.A x.n x.c, .int .i64 (x.len : Nat)] 175)).drew := ⟨hal.os, hal.tape, hal.output, hal.size, hal.block⟩
      have hd := done105 (w := (wr.alloc (.cells #[.int .i64 x.kd, .int .i64 (x.file : Nat), .slice x.A x.n x.c, .int .i64 (x.len : Nat)] 175)).drew) (s := x) (hrow.later hald) (yb.mv (bmv hald _)) (by omega) hcut
      have hbz : Blk wr z 128 (dcs { d with dur := run d.dur (d.pend.take j) } st V' (.slice (some ⟨g, off, none⟩) ps.length cp)) := HT'.out.blk.1
      have hzl : z < wr.heap.size := hbz.lt
      have hbz2 := hbz.later hald
      obtain ⟨vf, hvf⟩ : ∃ v, v = V' x.file := ⟨_, rfl⟩
      have hcl : ∀ W : World, Blk W z 128 (dcs { d with dur := run d.dur (d.pend.take j) } st V' (.slice (some ⟨g, off, none⟩) ps.length cp)) → W.cell? ⟨z, 5 + x.file, none⟩ = some vf ∧ W.frozen? ⟨z, 5 + x.file, none⟩ = false := fun W h => ⟨by
        rw [hvf, h.cell]
        obtain h0 | h0 | h0 | h0 : x.file = 0 ∨ x.file = 1 ∨ x.file = 2 ∨ x.file = 3 := by have : x.file < 4 := y1; omega
        all_goals rw [h0]; rfl, h.frozen _⟩
      have y1' : x.file < 4 := y1
      have HY1 := hid y1'
      rw [← hvf] at hd
      have HROW := hid hrow
      have HVF := hid hvf
      have HD := hid hd
      have HL := hid hl
      have HX := hid hx
      have HPX := hid hpx
      have HC2 := hid hcl
      have HBZ := hid hbz2
      have HSN : Hid (d.pend.take (j + 1) = d.pend.take j ++ [x.p]) := hid (by rw [List.take_add_one, hpx]; rfl)
      obtain ⟨wr0, file, A1, n1', c1', b1, len⟩ := x
      simp only at q0 q1 q2 q3 hsl y1'
      have hfi : (file : Int) < 4 := by omega
      have hji : (j : Int) < (k : Int) := by omega
      clear y1 y2 y3 yb yc1 yc2 hrow hal hald hd hbz hbz2 hcl hcut hl hx hpx hvf hlb
      go_wp2_with fail
      have cz : ((wr.alloc (.cells #[.int .i64 (Sp.mk wr0 file A1 n1' c1' b1 len).kd, .int .i64 (file : Nat), .slice A1 n1' c1', .int .i64 (len : Nat)] 175)).drew).cell? ⟨z, 5 + file, none⟩ = some vf := (HC2.out _ HBZ.out).1
      have HKV : Hid (Blk ((wr.alloc (.cells #[.int .i64 (Sp.mk wr0 file A1 n1' c1' b1 len).kd, .int .i64 (file : Nat), .slice A1 n1' c1', .int .i64 (len : Nat)] 175)).drew) wr.heap.size 175 #[.int .i64 (Sp.mk wr0 file A1 n1' c1' b1 len).kd, .int .i64 (file : Nat), .slice A1 n1' c1', .int .i64 (len : Nat)]) := hid (Blk.new wr 175 _)
      go_region_law (first | (go_simp; go_at_call 105; refine HD.out.mono ?_; rintro e' w3 ⟨v3, rfl, hs3, hg3, hat3⟩; obtain ⟨A3, c3, rfl, d31, d32⟩ := hs3.slice_; have kz3 := HBZ.out.gb hg3 (fun e => by rw [HVF.out] at e; exact HROW.out.ne_blk HT'.out.blk.1 (by decide) z e.symm rfl); have z3 := (HC2.out w3 kz3).1; have kv3 : Blk w3 wr.heap.size 175 #[.int .i64 (Sp.mk wr0 file A1 n1' c1' b1 len).kd, .int .i64 (file : Nat), .slice A1 n1' c1', .int .i64 (len : Nat)] := HKV.out.gb hg3 (fun e => by rw [HVF.out] at e; exact absurd (HROW.out.lt _ e.symm).2 (Nat.lt_irrefl _)); have s3 : w3.cell? ⟨wr.heap.size, 1, none⟩ = some (.int .i64 (file : Nat)) := kv3.cell 1; have f3 := (HC2.out w3 kz3).2))
      all_goals
        have hgg : wr.grownBy w3 (V' file).ownBlock := by rw [← HVF.out]; exact grownBy_after_alloc (o := .cells #[.int .i64 (Sp.mk wr0 file A1 n1' c1' b1 len).kd, .int .i64 (file : Nat), .slice A1 n1' c1', .int .i64 (len : Nat)] 175) ⟨hg3.os, hg3.tape, hg3.output, hg3.size, hg3.block⟩
        have hdf := hid (dfile (F := fun q => F q ∨ w.heap.size ≤ q) HT'.out HF'.out HY1.out hs3 hgg (fun g hg => by
          rcases hat3 g hg with h | h
          · left; rw [← HVF.out]; exact h
          · right; simp at h; omega))
        clear hgg hs3 hg3 hat3 kz3 z3 f3 cz kv3 s3
        go_wp2_with fail
        go_roundg (k - (j + 1))
        case measure => omega
        case rel =>
          obtain ⟨tag2, r1, r2, r3⟩ := hdf.out
          refine ⟨j + 1, tag2, upd V' file (.slice A3 (done l (Sp.mk wr0 file A1 n1' c1' b1 len).p).length c3), by omega, rfl, by go_num, hid ?_, hid (fun q hq => ?_), hid (HM'.out.trans r3 (fun q hq => hq))⟩
          · have e : (Dsk.mk d.off d.fused d.fuse (run d.dur (d.pend.take (j + 1))) d.pend) = { ({ d with dur := run d.dur (d.pend.take j) } : Dsk) with dur := upd (run d.dur (d.pend.take j)) file (done l (Sp.mk wr0 file A1 n1' c1' b1 len).p) } := by
              rw [HSN.out, run_snoc, HL.out]
              rfl
            rw [show ({ d with dur := run d.dur (d.pend.take (j + 1)) } : Dsk) = _ from e]
            exact r2
          · rcases r1 q hq with h | h
            · exact h
            · exact .inr (Nat.le_trans HM'.out.size h)
    · obtain rfl : j = k := by omega
      have c9' : wr.cell? ⟨z, 9, none⟩ = some (.slice Ap m cp) := by rw [HM.out]; exact HT'.out.blk.1.cell 9
      have f9' := HT'.out.blk.1.frozen 9
      have hbe := HT'.out.prow
      have HB := hid hbe
      clear hbe
      by_cases hck : cp = j
      · have hmj : m = j := by omega
        have HMJ := hid hmj
        clear hmj
        go_wp2_with fail
        go_end0
        refine ⟨rfl, dsettled HM'.out HF'.out HT'.out (by have := HPL.out; have := HM.out; omega) ?_⟩
        have := HB.out.behind (k := j) (by rw [← HM.out]; exact hkm)
        rw [if_pos hck, ← HM.out, hck, Nat.sub_self] at this
        exact this
      · have HCK := hid hck
        go_wp2_with fail
        go_end0
        refine ⟨rfl, dsettled HM'.out HF'.out HT'.out (by have := HPL.out; have := HM.out; omega) ?_⟩
        have := HB.out.behind (k := j) (by rw [← HM.out]; exact hkm)
        rw [if_neg HCK.out, ← HM.out] at this
        exact this
end Go.Proofs.YtbpnbcjgkbpmgaaGreat
namespace Go.Proofs.YtbpnbcjgkbpmgaaGreat
open Go.RowKit Go.Lg Ds
set_option linter.unusedVariables false
set_option linter.unusedSimpArgs false
theorem Dk.pcell {w : World} {F : Fp} {z : Nat} {d : Dsk} (h : Dk w F z d) : ∃ Ap cp, w.cell? ⟨z, 9, none⟩ = some (.slice Ap d.pend.length cp) ∧ w.frozen? ⟨z, 9, none⟩ = false ∧ d.pend.length ≤ cp ∧ cp ≤ 9223372036854775807 := by
  obtain ⟨tag, st, V, pv, ps, hF, ht⟩ := h
  obtain ⟨Ap, cp, rfl, p1, p2⟩ := ht.prow.slice_
  have e : d.pend.length = ps.length := by rw [← ht.hps]; simp
  exact ⟨Ap, cp, by rw [e]; exact ht.blk.1.cell 9, ht.blk.1.frozen 9, by omega, p2⟩
set_option maxHeartbeats 2000000 in
set_option maxRecDepth 100000 in
theorem sync132 {w : World} {F : Fp} {z : Nat} {d : Dsk} (h : Dk w F z d) (hok : d.ok) (hsz : d.sz ≤ 17592186044416) : Calls Tryz.prog 132 #[P z] w (DDid F z d.sync w) := by
  have hw := wrong103 h
  cases ho : d.off with
  | true =>
    have HR : Hid (d.sync = (6, d)) := by simp [Hid, Dsk.sync, ho]
    rw [ho] at hw
    clear ho
    go_enter Tryz.func132, Tryz.ntmps132
    go_wp2_with (go_at_call 103; (with_reducible refine hw.mono ?_); rintro e' w1 ⟨rfl, rfl⟩)
    go_ret
    rw [HR.out]
    exact ⟨rfl, DLeft.same h⟩
  | false =>
    rw [ho] at hw
    have hb := burn169 h hok
    cases hbb : d.burn.1 with
    | false =>
      have HR : Hid (d.sync = (6, d.burn.2)) := by simp [Hid, Dsk.sync, ho, hbb]
      have HBB := hid hbb
      clear ho hbb
      go_enter Tryz.func132, Tryz.ntmps132
      go_wp2_with (first | (go_at_call 103; (with_reducible refine hw.mono ?_); rintro e' w1 ⟨rfl, rfl⟩) | (go_at_call 169; refine stop_ (fun Ps hPs => ?_)))
      refine hPs ?_
      clear hPs Ps
      refine hb.mono ?_
      rintro e' w2 ⟨rfl, hl⟩
      rw [HBB.out]
      have HL := hid hl
      clear hl
      go_wp2_with fail
      go_ret
      rw [HR.out]
      exact ⟨rfl, HL.out⟩
    | true =>
      have HR : Hid (d.sync = (0, d.burn.2.settle d.pend.length)) := by simp [Hid, Dsk.sync, ho, hbb]
      have HBB := hid hbb
      have HOK := hid hok
      have HSZ := hid hsz
      clear ho hbb hok hsz
      go_enter Tryz.func132, Tryz.ntmps132
      go_wp2_with (first | (go_at_call 103; (with_reducible refine hw.mono ?_); rintro e' w1 ⟨rfl, rfl⟩) | (go_at_call 169; refine stop_ (fun Ps hPs => ?_)))
      refine hPs ?_
      clear hPs Ps
      refine hb.mono ?_
      rintro e' w2 ⟨rfl, F2, hd2, hm2, hs2⟩
      rw [HBB.out]
      obtain ⟨Ap, cp, c9, f9, p1, p2⟩ := hd2.pcell
      have hset := settle104 hd2 HOK.out.burn (by rw [Dsk.burn_sz]; exact HSZ.out) d.burn.2.pend.length (Nat.le_refl _)
      obtain ⟨m, hm⟩ : ∃ m, m = d.burn.2.pend.length := ⟨_, rfl⟩
      rw [← hm] at c9 p1 hset
      have HM := hid hm
      have HSET := hid hset
      clear hm hset hd2
      go_wp2_with (go_at_call 104; refine HSET.out.mono ?_; rintro e' w3 ⟨rfl, hl3⟩)
      go_ret
      rw [HR.out]
      refine ⟨rfl, dleft_trans hm2 hs2 ?_⟩
      rw [← d.burn_pend, ← HM.out]
      exact hl3
end Go.Proofs.YtbpnbcjgkbpmgaaGreat
namespace Go.Proofs.YtbpnbcjgkbpmgaaGreat
open Go.RowKit Go.Lg Ds
set_option linter.unusedVariables false
set_option linter.unusedSimpArgs false
attribute [local go_sem ↓] Go.wp_at_zero Go.wp_at_succ
end Go.Proofs.YtbpnbcjgkbpmgaaGreat
namespace Go.Proofs.YtbpnbcjgkbpmgaaGreat
open Go.RowKit Go.Lg St
set_option linter.unusedVariables false
set_option linter.unusedSimpArgs false
def lastEp (l : List Cmt) : Int := match l.getLast? with | none => 0 | some c => c.ep
def flen (b : Bys) (a : Nat) : Nat := match Vi.fread (b.drop a) with | none => 0 | some (_, m) => m
def wstep (b : Bys) (s : List Cmt × List Nat) (x : Nat × Bys) : Option (List Cmt × List Nat) :=
  match decC x.2 with
  | none => none
  | some c => if c.num - 1 ≠ s.1.length ∨ c.ep < lastEp s.1 then none else some (s.1 ++ [c], s.2 ++ [x.1 + flen b x.1])
def wgo (b : Bys) : List Cmt × List Nat → List (Nat × Bys) → List Cmt × List Nat
  | s, [] => s
  | s, x :: r => match wstep b s x with
    | none => s
    | some t => wgo b t r
def wscan (b : Bys) : List Cmt × List Nat := wgo b ([], []) (Vi.sq 0 b)
def wlen (l : List Nat) : Nat := l.getLastD 0
structure Wal where
  bad : Bool
  cs : List Cmt
  es : List Nat
theorem T46 : SlT Tryz.prog 46 88 3 40 := SlT.mk' (.agg #[.int .i64 0, .int .i64 0, .slice none 0 0]) Tryz.underlying46 (by kernel_rfl) rfl (by decide) (by decide)
theorem T32 : SlT Tryz.prog 32 3 1 8 := SlT.mk' (.int .i64 0) Tryz.underlying32 (by kernel_rfl) rfl (by decide) (by decide)
def ic (l : List Nat) : List Value := l.map fun n : Nat => .int .i64 (n : Int)
structure Cl (w : World) (F : Fp) (v : Value) (ms : List Cm) : Prop where
  row : Sl w F 88 3 v ms.length (cmc ms)
  ops : ∀ m ∈ ms, Sl w F 77 3 (.slice m.A m.n m.c) m.n (opc m.os) ∧ m.os.length = m.n
theorem Cl.mv {w w' : World} {F G : Fp} {v : Value} {ms : List Cm} (h : Cl w F v ms) (m : Mv w w' F G) : Cl w' G v ms := ⟨h.row.mv m, fun x hx => ⟨(h.ops x hx).1.mv m, (h.ops x hx).2⟩⟩
theorem Cl.to {w : World} {F G : Fp} {v : Value} {ms : List Cm} (h : Cl w F v ms) (m : ∀ k, F k → G k) : Cl w G v ms := h.mv (Mv.same fun k _ hk => m k hk)
theorem Cl.later {w w' : World} {F : Fp} {v : Value} {ms : List Cm} (h : Cl w F v ms) (hb : Below w.heap.size w w') : Cl w' F v ms := h.mv (bmv hb F)
theorem Cl.nil_ (w : World) (F : Fp) : Cl w F (.slice none 0 0) [] := ⟨Sl.nil_ _ _ _ _, fun m hm => by cases hm⟩
theorem Cl.cs {w : World} {F : Fp} {A : Option Addr} {n c : Nat} {ms : List Cm} (h : Cl w F (.slice A n c) ms) (hn : ms.length = n) : CS w w.heap.size A n ms := by
  subst hn
  refine ⟨h.row.rdf.rd (by decide), rfl, fun m hm => ?_⟩
  have h1 := h.ops m hm
  have h2 := h1.1.cap
  unfold maxLen at h2
  exact ⟨⟨h1.1.rdf.rd (by decide), h1.2⟩, by omega⟩
inductive Wl (w : World) (F : Fp) (z dz : Nat) (x : Wal) : Prop
  | mk (vC vE : Value) (ms : List Cm) (in_ : F z) (blk : Blk w z 280 #[P dz, .bool x.bad, vC, vE]) (hms : ms.map Cm.p = x.cs) (cl : Cl w F vC ms) (en : Sl w F 3 1 vE x.es.length (ic x.es))
theorem Wl.mv {w w' : World} {F G : Fp} {z dz : Nat} {x : Wal} (h : Wl w F z dz x) (m : Mv w w' F G) : Wl w' G z dz x := by
  obtain ⟨vC, vE, ms, h1, h2, h3, h4, h5⟩ := h
  exact ⟨vC, vE, ms, (m z h2.lt h1).1, (m z h2.lt h1).2.trans h2, h3, h4.mv m, h5.mv m⟩
abbrev cmcs (ep num : Int) (A : Option Addr) (k c : Nat) : Array Value := #[.int .i64 ep, .int .i64 num, .slice A k c]
end Go.Proofs.YtbpnbcjgkbpmgaaGreat
namespace Go.Proofs.YtbpnbcjgkbpmgaaGreat
open Go.RowKit Go.Lg Ds St
set_option linter.unusedVariables false
set_option linter.unusedSimpArgs false
abbrev cmv (ep num : Int) (A : Option Addr) (k c : Nat) : Value := .agg #[.int .i64 ep, .int .i64 num, .slice A k c]
theorem cmc_snoc (ms : List Cm) (m : Cm) : cmc (ms ++ [m]) = cmc ms ++ [.int .i64 m.ep, .int .i64 m.num, .slice m.A m.n m.c] := by simp [cmc]
theorem Cl.snoc {w w1 w4 : World} {F : Fp} {v v4 : Value} {ms : List Cm} (h : Cl w F v ms) (hb : Below w.heap.size w w1) {ep num : Int} {A' : Option Addr} {k c' : Nat} {os : List Op3}
    (ho : w1.ownsRow w.heap.size 77 3 (.slice A' k c') k (opc os)) (hk : os.length = k)
    (hv : Sl w4 (fun i => F i ∨ w1.heap.size ≤ i) 88 3 v4 (ms.length + 1) (cmc ms ++ [.int .i64 ep, .int .i64 num, .slice A' k c'])) (hg : w1.grownBy w4 v.ownBlock) : Cl w4 (fun i => F i ∨ w.heap.size ≤ i) v4 (ms ++ [⟨ep, num, A', k, c', os⟩]) := by
  have hsz := hb.size
  have h1 := h.later hb
  refine ⟨?_, fun m hm => ?_⟩
  · rw [cmc_snoc, List.length_append, List.length_singleton]
    exact hv.to fun i hi => hi.imp id fun h => by omega
  · rcases List.mem_append.1 hm with hm | hm
    · exact ⟨((h1.ops m hm).1.gb hg fun g h2 e => (h1.ops m hm).1.ne_sl h1.row (by decide) g h2 e.symm).to fun i hi => .inl hi, (h1.ops m hm).2⟩
    · obtain rfl := List.mem_singleton.1 hm
      have hs : Sl w1 (fun i => F i ∨ w.heap.size ≤ i) 77 3 (.slice A' k c') k (opc os) := Sl.of_own ho fun g hg => .inr (ho.lt g hg).1
      exact ⟨hs.gb hg fun g h2 e => hs.ne_sl h1.row (by decide) g h2 e.symm, hk⟩
def tabOf (cs : List Cmt) : Tab := cs.foldl (fun f c => f.app c.os) noTab
theorem tabOf_snoc (cs : List Cmt) (c : Cmt) : tabOf (cs ++ [c]) = (tabOf cs).app c.os := by simp [tabOf]
inductive Sr (w : World) (F : Fp) (z rz n : Nat) (cs : List Cmt) : Prop
  | mk (tz : Nat) (v : Value) (ms : List Cm) (inz : F z) (blk : Blk w z 256 #[P tz, P rz, v]) (tb : Tb w F tz n (tabOf cs)) (hms : ms.map Cm.p = cs) (cl : Cl w F v ms)
theorem Sr.mv {w w' : World} {F G : Fp} {z rz n : Nat} {cs : List Cmt} (h : Sr w F z rz n cs) (m : Mv w w' F G) : Sr w' G z rz n cs := by
  obtain ⟨tz, v, ms, inz, blk, tb, hms, cl⟩ := h
  exact ⟨tz, v, ms, (m z blk.lt inz).1, (m z blk.lt inz).2.trans blk, tb.mv m, hms, cl.mv m⟩
theorem scells {w : World} {z tz rz : Nat} {v : Value} (h : Blk w z 256 #[P tz, P rz, v]) : w.cell? ⟨z, 0, none⟩ = some (P tz) ∧ w.cell? ⟨z, 1, none⟩ = some (P rz) ∧ w.cell? ⟨z, 2, none⟩ = some v := ⟨h.cell 0, h.cell 1, h.cell 2⟩
set_option maxHeartbeats 1000000 in
set_option maxRecDepth 100000 in
theorem snone180 {w : World} {F : Fp} {z rz n : Nat} {cs : List Cmt} (h : Sr w F z rz n cs) : Calls Tryz.prog 180 #[P z] w (Asked false w) := by
  obtain ⟨tz, v, ms, inz, blk, tb, hms, cl⟩ := h
  obtain ⟨c0, c1, _⟩ := scells blk
  clear tb cl blk
  go_enter Tryz.func180, Tryz.ntmps180
  go_wp2_with fail
  go_ret
  exact asked_eq rfl
set_option maxHeartbeats 1000000 in
set_option maxRecDepth 100000 in
theorem send182 {w : World} {F G : Fp} {z rz dz n : Nat} {cs : List Cmt} (h : Sr w F z rz n cs) (hr : R0 w G rz dz) : Calls Tryz.prog 182 #[P z] w fun e w' => e = .returned (.int .i64 (cs.length : Nat)) ∧ ∃ d, w' = w.drewN d := by
  have hn := snone180 h
  have he : ∀ d, Calls Tryz.prog 128 #[P rz] (w.drewN d) (fun e w' => e = .returned (.int .i64 0) ∧ w' = w.drewN d) := fun d => (rend128 (w := w.drewN d) (F := G) (dz := dz) ⟨hr.inz, hr.blk⟩).mono fun _ _ h => ⟨h.1, h.2.symm⟩
  obtain ⟨tz, v, ms, inz, blk, tb, hms, cl⟩ := h
  obtain ⟨A, c, rfl, q1, q2⟩ := cl.row.slice_
  obtain ⟨c0, c1, c2⟩ := scells blk
  have hl : cs.length = ms.length := by rw [← hms]; simp
  rw [hl]
  unfold maxLen at q2
  have hw0 : IntKind.i64.wrap (0 + (ms.length : Int)) = (ms.length : Int) := by rw [Int.zero_add]; exact IntWalk.i64_in _ (by omega)
  have HE := hid he
  clear tb cl blk hms hl hr he
  go_enter Tryz.func182, Tryz.ntmps182
  go_wp2_with (go_at_call 180; (with_reducible refine hn.mono ?_); rintro e' w1 ⟨rfl, rfl⟩)
  go_quiet ((go_at_call 128; with_reducible exact Calls.quiet_of_same (HE.out _)))
  all_goals go_wp2_with fail
  all_goals
    go_ret
    exact ⟨by simp [hw0], _, rfl⟩
end Go.Proofs.YtbpnbcjgkbpmgaaGreat
namespace Go.Proofs.YtbpnbcjgkbpmgaaGreat
open Go.RowKit Go.Lg Ds St
set_option linter.unusedVariables false
set_option linter.unusedSimpArgs false
structure Lat (w W : World) : Prop where
  b : Below w.heap.size w W
section
variable {w W W' : World}
theorem Lat.refl (w : World) : Lat w w := ⟨Below.refl _ _⟩
theorem Lat.drew (h : Lat w W) : Lat w W.drew := ⟨bl_trans h.b (below_drew W) h.b.size⟩
theorem Lat.drewN (h : Lat w W) (n : Nat) : Lat w (W.drewN n) := ⟨bl_trans h.b (drewN_below W n) h.b.size⟩
theorem Lat.alloc (h : Lat w W) (o : Obj) : Lat w (W.alloc o) := ⟨h.b.alloc h.b.size o⟩
theorem Lat.below (h : Lat w W) (k : Below W.heap.size W W') : Lat w W' := ⟨bl_trans h.b k h.b.size⟩
theorem Lat.trans (h : Lat w W) (k : Lat W W') : Lat w W' := h.below k.b
theorem Lat.blk (h : Lat w W) {g : Nat} {t : TypeId} {cs : Array Value} (k : Blk w g t cs) : Blk W g t cs := k.later h.b
theorem Lat.size (h : Lat w W) : w.heap.size ≤ W.heap.size := h.b.size
theorem Lat.mod (h : Lat w W) (F : Fp) : Mod F w W := Mod.of_below h.b
theorem Lat.turn (h : Lat w W) {tag : Nat → Nat} (hT : Tidy w tag) (I : Nat → Prop) : Turn I w tag W tag := Turn.below hT h.b
end
theorem Sl.setz {w : World} {F : Fp} {e t : TypeId} {sz n z : Nat} {v : Value} {xs : List Value} {cs : Array Value} (h : Sl w F e sz v n xs) (hb : Blk w z t cs) (h1 : e ≠ t) (i : Nat) (u : Value) : Sl (w.setCell ⟨z, i, none⟩ u) F e sz v n xs :=
  h.gb (gb_setCell (p := ⟨z, i, none⟩) u (World.grownBy.refl w (some z))) fun g hg he => h.ne_blk hb h1 g hg (Option.some.inj he)
theorem Cl.setz {w : World} {F : Fp} {t : TypeId} {z : Nat} {v : Value} {ms : List Cm} {cs : Array Value} (h : Cl w F v ms) (hb : Blk w z t cs) (h1 : 88 ≠ t) (h2 : 77 ≠ t) (i : Nat) (u : Value) : Cl (w.setCell ⟨z, i, none⟩ u) F v ms :=
  ⟨Sl.setz h.row hb h1 i u, fun m hm => ⟨Sl.setz (h.ops m hm).1 hb h2 i u, (h.ops m hm).2⟩⟩
theorem Cl.gb {w w' : World} {F G : Fp} {v u : Value} {ms : List Cm} {e : TypeId} {sz n : Nat} {xs : List Value} (h : Cl w F v ms) (k : Sl w G e sz u n xs) (hg : w.grownBy w' u.ownBlock) (h1 : 88 ≠ e) (h2 : 77 ≠ e) : Cl w' F v ms :=
  ⟨h.row.gb hg fun g hg he => h.row.ne_sl k h1 g hg he.symm, fun m hm => ⟨(h.ops m hm).1.gb hg fun g hg he => (h.ops m hm).1.ne_sl k h2 g hg he.symm, (h.ops m hm).2⟩⟩
theorem field_mod {w1 X y : World} {F : Fp} {e t : TypeId} {sz n z i : Nat} {v v4 : Value} {xs : List Value} {cs : Array Value} (row : Sl w1 F e sz v n xs) (inz : F z) (hX : Lat w1 X) (hg : X.grownBy y v.ownBlock) : Mod F w1 (y.setCell ⟨z, i, none⟩ v4) :=
  ((hX.mod F).trans_ (Mod.grown hg fun g hg => (row.lt g hg).1)).trans_ (Mod.setCell (p := ⟨z, i, none⟩) inz v4)
def ends0 (A : Act) (R : World → Prop) : Exit → Act → World → Prop
  | .normal, a, W => a = A ∧ R W
  | _, _, _ => False
theorem merge0 {c : Code} {P : Program} {Q : Exit → Act → World → Prop} {a : Act} {w : World} (R : World → Prop) {A : Act} (h1 : c.wp P (ends0 A R) a w) (h2 : ∀ W, R W → Q .normal A W) : c.wp P Q a w :=
  Go.wp_mono h1 fun e a W h => by
    cases e <;> first | exact h.elim | (obtain ⟨rfl, h⟩ := h; exact h2 W h)
def ends5 {α β γ δ ε : Type} (A : α → β → γ → δ → ε → Act) (R : α → β → γ → δ → ε → World → Prop) : Exit → Act → World → Prop
  | .normal, a, W => ∃ x1 x2 x3 x4 x5, a = A x1 x2 x3 x4 x5 ∧ R x1 x2 x3 x4 x5 W
  | _, _, _ => False
theorem merge5 {α β γ δ ε : Type} {c : Code} {P : Program} {Q : Exit → Act → World → Prop} {a : Act} {w : World} (R : α → β → γ → δ → ε → World → Prop) {A : α → β → γ → δ → ε → Act} (h1 : c.wp P (ends5 A R) a w)
    (h2 : ∀ x1 x2 x3 x4 x5 W, R x1 x2 x3 x4 x5 W → Q .normal (A x1 x2 x3 x4 x5) W) : c.wp P Q a w :=
  Go.wp_mono h1 fun e a W h => by
    cases e <;> first | exact h.elim | (obtain ⟨x1, x2, x3, x4, x5, rfl, h⟩ := h; exact h2 x1 x2 x3 x4 x5 W h)
end Go.Proofs.YtbpnbcjgkbpmgaaGreat
namespace Go.Lg
open Go Go.RowKit
set_option linter.unusedVariables false
def rows2 (v1 v2 : Value) : Fp := fun k => v1.ownBlock = some k ∨ v2.ownBlock = some k
theorem Mod.blk {F : Fp} {w w' : World} {g : Nat} {t : TypeId} {cs : Array Value} (h : Mod F w w') (hb : Blk w g t cs) (hn : ¬F g) : Blk w' g t cs := (h.block g hb.lt hn).trans hb
structure Ap2 (W0 W : World) (F : Fp) (v1 v2 : Value) (e1 e2 : TypeId) (s1 s2 : Nat) (u1 : Value) (n1 : Nat) (x1 : List Value) (u2 : Value) (n2 : Nat) (x2 : List Value) : Prop where
  r1 : Sl W (fun k => F k ∨ W0.heap.size ≤ k) e1 s1 u1 n1 x1
  r2 : Sl W (fun k => F k ∨ W0.heap.size ≤ k) e2 s2 u2 n2 x2
  o1 : ∀ g, u1.ownBlock = some g → v1.ownBlock = some g ∨ W0.heap.size ≤ g
  o2 : ∀ g, u2.ownBlock = some g → v2.ownBlock = some g ∨ W0.heap.size ≤ g
  m : Mod (rows2 v1 v2) W0 W
section
variable {W0 W W' : World} {F : Fp} {v1 v2 u1 u2 : Value} {e1 e2 : TypeId} {s1 s2 n1 n2 : Nat} {x1 x2 : List Value}
theorem Ap2.start (h1 : Sl W0 F e1 s1 v1 n1 x1) (h2 : Sl W0 F e2 s2 v2 n2 x2) : Ap2 W0 W0 F v1 v2 e1 e2 s1 s2 v1 n1 x1 v2 n2 x2 :=
  ⟨h1.to fun _ h => .inl h, h2.to fun _ h => .inl h, fun _ h => .inl h, fun _ h => .inl h, Mod.refl _ _⟩
theorem Ap2.alloc (h : Ap2 W0 W F v1 v2 e1 e2 s1 s2 u1 n1 x1 u2 n2 x2) (o : Obj) : Ap2 W0 (W.alloc o) F v1 v2 e1 e2 s1 s2 u1 n1 x1 u2 n2 x2 :=
  ⟨h.r1.alloc o, h.r2.alloc o, h.o1, h.o2, h.m.behind ((Below.refl _ _).alloc (Nat.le_refl _) o)⟩
theorem Ap2.mod1 (h : Ap2 W0 W F v1 v2 e1 e2 s1 s2 u1 n1 x1 u2 n2 x2) (hg : W.grownBy W' u1.ownBlock) : Mod (rows2 v1 v2) W0 W' := by
  refine h.m.trans (Mod.grown (F := fun k => u1.ownBlock = some k) hg fun g hg => hg) fun k hk => ?_
  rcases h.o1 k hk with h1 | h1
  · exact .inl (.inl h1)
  · exact .inr h1
theorem Ap2.mod2 (h : Ap2 W0 W F v1 v2 e1 e2 s1 s2 u1 n1 x1 u2 n2 x2) (hg : W.grownBy W' u2.ownBlock) : Mod (rows2 v1 v2) W0 W' := by
  refine h.m.trans (Mod.grown (F := fun k => u2.ownBlock = some k) hg fun g hg => hg) fun k hk => ?_
  rcases h.o2 k hk with h1 | h1
  · exact .inl (.inr h1)
  · exact .inr h1
theorem Ap2.one (h : Ap2 W0 W F v1 v2 e1 e2 s1 s2 u1 n1 x1 u2 n2 x2) (hne : e1 ≠ e2) {u : Value} {n : Nat} {x : List Value} (hs : Sl W' (fun k => (F k ∨ W0.heap.size ≤ k) ∨ W.heap.size ≤ k) e1 s1 u n x) (hg : W.grownBy W' u1.ownBlock)
    (ho : ∀ g, u.ownBlock = some g → u1.ownBlock = some g ∨ W.heap.size ≤ g) : Ap2 W0 W' F v1 v2 e1 e2 s1 s2 u n x u2 n2 x2 := by
  have hsz := h.m.size
  refine ⟨hs.to fun k hk => ?_, h.r2.gb hg fun g h2 e => h.r2.ne_sl h.r1 (Ne.symm hne) g h2 e.symm, fun g hg => ?_, h.o2, h.mod1 hg⟩
  · rcases hk with hk | hk
    · exact hk
    · exact .inr (by omega)
  · rcases ho g hg with h1 | h1
    · exact h.o1 g h1
    · exact .inr (by omega)
theorem Ap2.two (h : Ap2 W0 W F v1 v2 e1 e2 s1 s2 u1 n1 x1 u2 n2 x2) (hne : e1 ≠ e2) {u : Value} {n : Nat} {x : List Value} (hs : Sl W' (fun k => (F k ∨ W0.heap.size ≤ k) ∨ W.heap.size ≤ k) e2 s2 u n x) (hg : W.grownBy W' u2.ownBlock)
    (ho : ∀ g, u.ownBlock = some g → u2.ownBlock = some g ∨ W.heap.size ≤ g) : Ap2 W0 W' F v1 v2 e1 e2 s1 s2 u1 n1 x1 u n x := by
  have hsz := h.m.size
  refine ⟨h.r1.gb hg fun g h2 e => h.r1.ne_sl h.r2 hne g h2 e.symm, hs.to fun k hk => ?_, h.o1, fun g hg => ?_, h.mod2 hg⟩
  · rcases hk with hk | hk
    · exact hk
    · exact .inr (by omega)
  · rcases ho g hg with h1 | h1
    · exact h.o2 g h1
    · exact .inr (by omega)
end
theorem Sl.mod {w w' : World} {F R : Fp} {e : TypeId} {sz n : Nat} {v : Value} {xs : List Value} (h : Sl w F e sz v n xs) (m : Mod R w w') (hn : ∀ g, v.ownBlock = some g → ¬R g) : Sl w' F e sz v n xs :=
  ((h.re (G := fun k => F k ∧ ¬R k) fun g hg => ⟨(h.lt g hg).1, hn g hg⟩).mv (m.mv (G := fun k => F k ∧ ¬R k) fun k a b => a.2 b)).to fun k hk => hk.1
theorem RdF.of_blk {w : World} {g : Nat} {t : TypeId} {cs : Array Value} (h : Blk w g t cs) (n sz : Nat) (hs : cs.size = n * sz) : RdF w (fun k => k = g) sz (some ⟨g, 0, none⟩) n cs.toList :=
  ⟨by simpa using hs, fun _ => ⟨_, 0, rfl, rfl, fun j u hu => by
    have := h.cell j
    rw [Nat.zero_add, this]
    simpa using hu⟩⟩
end Go.Lg
