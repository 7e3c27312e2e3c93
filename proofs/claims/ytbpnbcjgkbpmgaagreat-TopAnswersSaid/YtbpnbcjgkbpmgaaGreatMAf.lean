/- A primary answers without waiting for the other site, as many times as its leash allows: of any acts. No condition. (part 6) -/
import Derived.IntWalk
import Derived.Deep.DrawnRows
import Derived.Test.YtbpnbcjgkbpmgaaGreatMAe
namespace Go.Proofs.YtbpnbcjgkbpmgaaGreat
open Go.RowKit Go.Lg Ds
set_option linter.unusedVariables false
set_option linter.unusedSimpArgs false
def FreshS (w : World) (l : Bs) (e : Ending) (w' : World) : Prop := ∃ v, e = .returned v ∧ Sl w' (fun k => w.heap.size ≤ k) 5 1 v l.length (bts l) ∧ Below w.heap.size w w'
theorem bl_trans {B : Nat} {a b c : World} (h : Below B a b) (k : Below b.heap.size b c) (hB : B ≤ b.heap.size) : Below B a c := h.trans (k.mono hB)
theorem al_below (v : World) (o : Obj) : Below v.heap.size v (v.alloc o) := (Below.refl v.heap.size v).alloc (Nat.le_refl _) o
theorem gb_new {w w1 w' : World} {v : Value} (hb : Below w.heap.size w w1) (hg : w1.grownBy w' v.ownBlock) (hv : ∀ g, v.ownBlock = some g → w.heap.size ≤ g) : Below w.heap.size w w' :=
  ⟨hg.os.trans hb.os, hg.tape.trans hb.tape, hg.output.trans hb.output, Nat.le_trans hb.size hg.size, fun k hk => (hg.block k (Nat.lt_of_lt_of_le hk hb.size) (fun e => by have := hv k e.symm; omega)).trans (hb.block k hk)⟩
theorem spAt {w : World} {F : Fp} {n : Nat} {A : Option Addr} {ps : List Sp} {j : Nat} {x : Sp} (h : RdF w F 4 A n (spc ps)) (hx : ps[j]? = some x) :
    ∃ b off, A = some ⟨b, off, none⟩ ∧ F b ∧ b < w.heap.size ∧ w.cell? ⟨b, off + j * 4, none⟩ = some (.int .i64 x.kd) ∧ w.cell? ⟨b, off + j * 4 + 1, none⟩ = some (.int .i64 x.file) ∧ w.cell? ⟨b, off + j * 4 + 2, none⟩ = some (.slice x.A x.n x.c) ∧ w.cell? ⟨b, off + j * 4 + 3, none⟩ = some (.int .i64 x.len) := by
  have hj := (List.getElem?_eq_some_iff.1 hx).1
  obtain ⟨b, off, e, hb, hc⟩ := h.2 (by rw [spc_length]; omega)
  obtain ⟨g1, g2, g3, g4⟩ := spc_get ps j x hx
  refine ⟨b, off, e, hb, World.block_lt_of_cell? w _ (hc _ _ g1), hc _ _ g1, ?_, ?_, ?_⟩
  · rw [Nat.add_assoc]; exact hc _ _ g2
  · rw [Nat.add_assoc]; exact hc _ _ g3
  · rw [Nat.add_assoc]; exact hc _ _ g4
def runF (f : Nat) (b : Bs) : List Pst → Bs
  | [] => b
  | s :: r => runF f (if s.file = f then done b s else b) r
theorem run_runF (f : Nat) : ∀ (p : List Pst) (D : Nat → Bs), run D p f = runF f (D f) p
  | [], D => rfl
  | s :: r, D => by
    rw [run, run_runF f r, runF]
    congr 1
    by_cases h : s.file = f
    · subst h; rw [upd_same, if_pos rfl]
    · rw [upd_other _ _ (Ne.symm h), if_neg h]
theorem runF_snoc (f : Nat) : ∀ (p : List Pst) (b : Bs) (s : Pst), runF f b (p ++ [s]) = if s.file = f then done (runF f b p) s else runF f b p
  | [], b, s => rfl
  | x :: p, b, s => by rw [List.cons_append, runF, runF, runF_snoc f p]
theorem held_take {D : Nat → Bs} {p : List Pst} {k f : Nat} (h : ran D p) (hf : f < 4) : (runF f (D f) (p.take k)).length ≤ tot D + 64 * p.length := by
  rw [← List.take_append_drop k p, ran_append] at h
  have h1 := tot_run _ _ h.1
  have h2 := len_le_tot (run D (p.take k)) hf
  rw [run_runF] at h2
  rw [List.length_take] at h1
  omega
theorem cut_in {D : Nat → Bs} {p : List Pst} {k : Nat} {s : Pst} (h : ran D p) (hs : p[k]? = some s) : s.file < 4 ∧ (s.wr = true → 1 ≤ s.b.length ∧ s.b.length ≤ 64) ∧ (s.wr = false → s.b = [] ∧ s.len ≤ (runF s.file (D s.file) (p.take k)).length) := by
  have hk := (List.getElem?_eq_some_iff.1 hs)
  have e : p = p.take k ++ s :: p.drop (k + 1) := by
    conv => lhs; rw [← List.take_append_drop k p]
    rw [List.drop_eq_getElem_cons hk.1, hk.2]
  rw [e, ran_append] at h
  obtain ⟨_, ⟨h1, h2⟩, _⟩ := h
  rw [run_runF] at h2
  refine ⟨h1, fun hw => ?_, fun hw => ?_⟩
  · simpa [hw] using h2
  · simpa [hw] using h2
set_option maxHeartbeats 4000000 in
set_option maxRecDepth 100000 in
theorem held116 {w : World} {F : Fp} {z : Nat} {d : Dsk} (h : Dk w F z d) (hok : d.ok) (hsz : d.sz ≤ 17592186044416) (f : Nat) (hf : f < 4) : Calls Tryz.prog 116 #[P z, .int .i64 (f : Nat)] w (FreshS w (d.held f)) := by
  obtain ⟨tag, st, V, pv, ps, hF, ht⟩ := h
  have HR : Hid (d.held f = runF f (d.dur f) d.pend) := run_runF f _ _
  obtain ⟨c0, c1, c2, c3, c4, c9⟩ := dcells ht.blk.1
  have hbk := hid ht.blk.1
  have hrow := ht.rows f hf
  obtain ⟨A, c, hv, g1, g2⟩ := hrow.slice_
  have hrd := hrow
  rw [hv] at hrd
  have hrd := hrd.rdf
  obtain ⟨Ap, cp, rfl, p1, p2⟩ := ht.prow.slice_
  have hpr := hid ht.prow.rdf
  obtain ⟨m, hm⟩ : ∃ m, m = ps.length := ⟨_, rfl⟩
  obtain ⟨n, hn⟩ : ∃ n, n = (d.dur f).length := ⟨_, rfl⟩
  have hpl : d.pend.length = m := by rw [← ht.hps, hm]; simp
  have hbd := hid (fun k => held_take (k := k) hok.ran hf)
  have hs1 : n ≤ 17592186044416 ∧ m ≤ 1000000000000 := by
    have := len_le_tot d.dur hf
    unfold Dsk.sz at hsz
    unfold tot at this
    omega
  have HSZ : Hid (tot d.dur + 64 * d.pend.length ≤ 17592186044416) := by unfold Dsk.sz at hsz; unfold tot; exact hid hsz
  have hcell : w.cell? ⟨z, 5 + f, none⟩ = some (.slice A n c) := by
    rw [hn, ← hv, hbk.out.cell]
    obtain rfl | rfl | rfl | rfl : f = 0 ∨ f = 1 ∨ f = 2 ∨ f = 3 := by omega
    all_goals rfl
  rw [← hm] at c9 hpr p1 
  rw [← hn] at hrd g1
  have HM := hid hm
  have HN := hid hn
  have HP := hid hpl
  have HRAN := hid hok.ran
  have HPS := hid ht.hps
  have HBY := hid ht.by_
  have hzl : z < w.heap.size := hbk.out.lt
  have HRD := hid hrd
  clear ht hok hm hn hpl hsz hv hrow hrd
  unfold maxLen at g2 p2
  obtain ⟨n1, n2⟩ := hs1
  have hfi : (f : Int) < 4 := by omega
  go_enter Tryz.func116, Tryz.ntmps116
  go_wp2_with (at_builtin; refine stop_ (fun Ps hPs => ?_))
  refine hPs ?_
  clear hPs Ps
  refine wpList_appS T80 (.const (.slice none 0 0)) (.tmp 13) rfl rfl (Sl.nil_ w (fun k => w.heap.size ≤ k) 5 1) rfl HRD.out rfl (bts_one _) (by omega) fun v1 w1 hown hg hat => ?_
  have hb1 : Below w.heap.size w w1 := gb_new (Below.refl _ _) hg (fun g hg => by simp [Value.ownBlock] at hg)
  have hown : Sl w1 (fun k => w.heap.size ≤ k) 5 1 v1 (runF f (d.dur f) (d.pend.take 0)).length (bts (runF f (d.dur f) (d.pend.take 0))) := by
    have e : runF f (d.dur f) (d.pend.take 0) = d.dur f := rfl
    rw [e, ← HN.out]
    have := hown.to (G := fun k => w.heap.size ≤ k) (fun k hk => by rcases hk with h | h <;> exact h)
    simpa using this
  have c9' : w1.cell? ⟨z, 9, none⟩ = some (.slice Ap m cp) := (hb1.cell (p := ⟨z, 9, none⟩) hzl).trans c9
  have HO := hid hown
  clear hown hg hat hcell
  go_wp2_with fail
  go_loopg [5, 20] m (fun g b i wr => ∃ k : Nat, k ≤ m ∧ g = m - k ∧ i = .int .i64 k ∧ Hid (Below w.heap.size w wr) ∧ Hid (Sl wr (fun k => w.heap.size ≤ k) 5 1 b (runF f (d.dur f) (d.pend.take k)).length (bts (runF f (d.dur f) (d.pend.take k)))))
  case atStart => exact ⟨0, by omega, rfl, rfl, hid hb1, HO⟩
  case round =>
    clear hb1 c9' HO
    obtain ⟨k, hk, rfl, rfl, HB, HS⟩ := hrel
    by_cases hlt : k < m
    · obtain ⟨x, hx⟩ : ∃ x, ps[k]? = some x := ⟨ps[k]'(by rw [← HM.out]; exact hlt), List.getElem?_eq_getElem _⟩
      obtain ⟨g, off, rfl, _, hgl, q0, q1, q2, q3⟩ := spAt ((hpr.out).mv (bmv HB.out _)) hx
      have hpx : d.pend[k]? = some x.p := by rw [← HPS.out, List.getElem?_map, hx]; rfl
      obtain ⟨y1, y2, y3⟩ := cut_in HRAN.out hpx
      have hmem : x ∈ ps := List.mem_of_getElem? hx
      obtain ⟨yb, yc1, yc2⟩ := HBY.out x hmem
      have yb := hid (yb.mv (bmv HB.out _))
      have hsn : Hid (d.pend.take (k + 1) = d.pend.take k ++ [x.p]) := hid (by rw [List.take_add_one, hpx]; rfl)
      obtain ⟨l, hl⟩ : ∃ l, l = runF f (d.dur f) (d.pend.take k) := ⟨_, rfl⟩
      have hlb : l.length ≤ 17592186044416 := by rw [hl]; exact Nat.le_trans (hbd.out k) HSZ.out
      have hnx : Hid (runF f (d.dur f) (d.pend.take (k + 1)) = if x.p.file = f then done l x.p else l) := hid (by rw [hsn.out, runF_snoc, hl])
      rw [← hl] at HS
      have hcut : Hid (x.file = f → x.wr = false → x.len ≤ l.length) := hid (fun h1 h2 => by have := (y3 h2).2; rw [hl, ← h1]; exact this)
      have hsl : x.n ≤ 64 := by
        have h1 := yb.out.1
        rw [bts_length, Nat.mul_one] at h1
        rw [← h1]
        cases hw : x.wr
        · have := (y3 hw).1
          rw [show x.b = [] from this]
          simp
        · exact (y2 hw).2
      have HL := hid hl
      have HX := hid hx
      clear hl hx hpx y2 y3 hmem yc1 yc2
      obtain ⟨wr0, file, A1, n1', c1', b1, len⟩ := x
      simp only at q0 q1 q2 q3 hsl y1
      have y1 : file < 4 := y1
      by_cases hff : file = f
      · subst hff
        have hnx : Hid (runF file (d.dur file) (d.pend.take (k + 1)) = done l ⟨wr0, file, b1, len⟩) := hid (by rw [hnx.out]; exact if_pos rfl)
        have hal := al_below wr ((.cells #[.int .i64 (Sp.mk wr0 file A1 n1' c1' b1 len).kd, .int .i64 (file : Nat), .slice A1 n1' c1', .int .i64 (len : Nat)] 175))
        have hd := hid (done105 (s := ⟨wr0, file, A1, n1', c1', b1, len⟩) (HS.out.later hal) (yb.out.mv (bmv hal _)) (by simp only; omega) (hcut.out rfl))
        go_wp2_with fail
        refine hd.out.mono ?_
        clear hd
        rintro e w2 ⟨v2, rfl, s2, gb2, at2⟩
        have hb2 : Below w.heap.size w w2 := gb_new (bl_trans HB.out hal HB.out.size) gb2 (fun g hg => (HS.out.lt g hg).1)
        have hs2 : Hid (Sl w2 (fun k => w.heap.size ≤ k) 5 1 v2 (done l (Pst.mk wr0 file b1 len)).length (bts (done l (Pst.mk wr0 file b1 len)))) := hid (s2.to fun k hk => by
          rcases hk with h | h
          · exact h
          · have := HB.out.size; simp at h; omega)
        clear s2 gb2 at2
        have HB2 := hid hb2
        clear hb2 hal
        go_wp2_with fail
        go_roundg (m - (k + 1))
        case measure => omega
        case rel => exact ⟨k + 1, by omega, rfl, by go_num, HB2, hid (by rw [hnx.out]; exact hs2.out)⟩
      · have hnx : Hid (runF f (d.dur f) (d.pend.take (k + 1)) = l) := hid (by rw [hnx.out]; exact if_neg hff)
        have hq : ((file : Int) == (f : Int)) = false := beq_false_of_ne (by omega)
        have HFF := hid hff
        clear hff
        have hal := hid (bl_trans HB.out (al_below wr ((.cells #[.int .i64 (Sp.mk wr0 file A1 n1' c1' b1 len).kd, .int .i64 (file : Nat), .slice A1 n1' c1', .int .i64 (len : Nat)] 175))) HB.out.size)
        have HS2 := hid (HS.out.later (al_below wr ((.cells #[.int .i64 (Sp.mk wr0 file A1 n1' c1' b1 len).kd, .int .i64 (file : Nat), .slice A1 n1' c1', .int .i64 (len : Nat)] 175))))
        go_wp2_with fail
        go_roundg (m - (k + 1))
        case measure => omega
        case rel => exact ⟨k + 1, by omega, rfl, by go_num, hal, hid (by rw [hnx.out]; exact HS2.out)⟩
    · obtain rfl : k = m := by omega
      go_wp2_with fail
      go_ret
      have e : d.pend.take k = d.pend := List.take_of_length_le (by rw [HP.out]; exact Nat.le_refl _)
      have hs := HS.out
      rw [e] at hs
      rw [HR.out]
      exact ⟨_, rfl, hs, HB.out⟩
end Go.Proofs.YtbpnbcjgkbpmgaaGreat
namespace Go.Proofs.YtbpnbcjgkbpmgaaGreat
open Go.RowKit Go.Lg Ds
set_option linter.unusedVariables false
set_option linter.unusedSimpArgs false
attribute [local go_sem ↓] Go.wp_at_zero Go.wp_at_succ
theorem dleft_trans {w w1 w2 : World} {F F1 : Fp} {z : Nat} {d2 : Dsk} (hm : Mod F w w1) (hs : Sub w F F1) (h : DLeft F1 z d2 w1 w2) : DLeft F z d2 w w2 := by
  obtain ⟨F2, k1, k2, k3⟩ := h
  exact ⟨F2, k1, hm.trans k2 hs, hs.trans k3 hm.size⟩
theorem dpush {w w3 w4 : World} {tag : Nat → Nat} {F FF : Fp} {z k cp : Nat} {d : Dsk} {st : Int} {V : Nat → Value} {Ap : Option Addr} {ps : List Sp} {v4 : Value} (HT : Dt w tag z d st V (.slice Ap ps.length cp) ps) (HF : ∀ k, tag k ≠ 0 → F k) (hk : k = ps.length)
    (s : Sp) (hb3 : Below w.heap.size w w3) (hs : RdF w3 (fun k => w.heap.size ≤ k) 1 s.A s.n (bts s.b)) (hs1 : s.n ≤ s.c) (hs2 : s.c ≤ maxLen)
    (hv4 : Sl w4 FF 175 4 v4 (k + 1) (spc ps ++ s.cs)) (hg4 : w3.grownBy w4 (Value.slice Ap k cp).ownBlock) (hat4 : ∀ g, v4.ownBlock = some g → (Value.slice Ap k cp).ownBlock = some g ∨ w3.heap.size ≤ g) : DLeft F z (d.push s.p) w (w4.setCell ⟨z, 9, none⟩ v4) := by
  subst hk
  have t3 := HT.bytes hb3
  have m4 : Mod (fun k => tg w tag 7 k = 6) w3 w4 := Mod.grown hg4 fun g hg => (t3.prow.lt g hg).1
  obtain ⟨a1, a2, _, a4⟩ := t3.part m4
  have b4 := (a1 (by decide))
  have m5 : Mod (fun k => tg w3 (tg w tag 7) 6 k = 1) w4 (w4.setCell ⟨z, 9, none⟩ v4) := Mod.setCell (p := ⟨z, 9, none⟩) b4.2 _
  refine ⟨fun k => F k ∨ w.heap.size ≤ k, ⟨tg w4 (tg w3 (tg w tag 7) 6) 1, st, V, v4, ps ++ [s], fun k hk => ?_, ⟨⟨b4.1.set_ 9 v4, tg_old b4.2⟩, fun f hf => (a2 f hf (by omega)).mv (tg_mv m5 (by omega)), ?_, by simp [HT.hps, Dsk.push], fun x hx => ?_⟩⟩, ?_, fun k hk => hk⟩
  · by_cases hlt : k < w.heap.size
    · left
      apply HF
      intro h0
      apply hk
      have h3 : k < w3.heap.size := Nat.lt_of_lt_of_le hlt hb3.size
      have h4 : k < w4.heap.size := Nat.lt_of_lt_of_le h3 hg4.size
      simp only [tg, if_pos hlt, if_pos h3, if_pos h4, h0]
    · exact .inr (by omega)
  · have h1 : Sl w4 (fun k => tg w3 (tg w tag 7) 6 k = 6) 175 4 v4 (ps ++ [s]).length (spc (ps ++ [s])) := by
      rw [List.length_append, List.length_singleton, spc_app]
      have e : spc [s] = s.cs := by simp [spc]
      rw [e]
      refine hv4.re fun g hg => ?_
      rcases hat4 g hg with h5 | h5
      · obtain ⟨h6, h7⟩ := HT.prow.lt g h5
        exact tg_old (by simp only [tg, if_pos h7]; exact h6)
      · exact tg_new (.inr h5)
    exact h1.mv (tg_mv m5 (by decide))
  · rw [List.mem_append, List.mem_singleton] at hx
    rcases hx with hx | rfl
    · obtain ⟨q1, q2⟩ := a4 (by decide) x hx
      exact ⟨q1.mv (tg_mv m5 (by decide)), q2⟩
    · exact ⟨((hs.to (G := fun k => tg w tag 7 k = 7) fun k hk => tg_new (.inr hk)).mv (tg_mv m4 (by decide))).mv (tg_mv m5 (by decide)), hs1, hs2⟩
  · have m1 : Mod F w3 w4 := Mod.grown hg4 fun g hg => HF g (by have : tag g = 6 := (HT.prow.lt g hg).1; omega)
    exact ((Mod.of_below hb3).trans_ m1).trans_ (Mod.setCell (p := ⟨z, 9, none⟩) (HF z (by have : tag z = 1 := HT.blk.2; omega)) v4)
theorem below_drew (w : World) : Below w.heap.size w w.drew := ⟨rfl, rfl, rfl, Nat.le_refl _, fun _ _ => rfl⟩
theorem rd_drew {w : World} {F : Fp} {sz : Nat} {A : Option Addr} {n : Nat} {l : List Value} (h : RdF w F sz A n l) : RdF w.drew F sz A n l := h.mv (bmv (below_drew w) F)
theorem new_rdf {w3 : World} {F : Fp} {A : Option Addr} {n c : Nat} {l : List Value} (h : Sl w3 F 5 1 (.slice A (0 + n) c) (0 + n) ([] ++ l)) {G : Fp} (hF : ∀ k, F k → G k) : RdF w3 G 1 A n l := by
  have := h.rdf.to hF
  simpa using this
theorem rd_take {w : World} {F : Fp} {A : Option Addr} {n k : Nat} {l : Bs} (h : RdF w F 1 A n (bts l)) (hk : k ≤ n) : RdF w F 1 A k (bts (l.take k)) := by
  have hl : l.length = n := by simpa using h.1
  refine ⟨by simp; omega, fun hp => ?_⟩
  rw [← bts_take] at hp ⊢
  obtain ⟨b, off, e, hb, hc⟩ := h.2 (by simp at hp ⊢; omega)
  exact ⟨b, off, e, hb, fun j u hu => hc j u (by
    rw [List.getElem?_take] at hu
    split at hu
    · exact hu
    · cases hu)⟩
theorem rd_drop {w : World} {F : Fp} {A : Option Addr} {n k : Nat} {l : Bs} (h : RdF w F 1 A n (bts l)) (hk : k < n) : RdF w F 1 (A.map (·.add (k * 1))) (n - k) (bts (l.drop k)) := by
  have hl : l.length = n := by simpa using h.1
  refine ⟨by simp; omega, fun hp => ?_⟩
  obtain ⟨b, off, rfl, hb, hc⟩ := h.2 (by simp; omega)
  refine ⟨b, off + k * 1, by simp [Addr.add_lit], hb, fun j u hu => ?_⟩
  rw [← bts_drop, List.getElem?_drop] at hu
  have := hc _ _ hu
  rw [← this]
  congr 2
  omega
theorem rd_left {wr w5 : World} {F1 G : Fp} {z sz : Nat} {d : Dsk} {A : Option Addr} {n : Nat} {l : List Value} (h : RdF wr G sz A n l) (hd : Dj G F1) (hl : DLeft F1 z d wr w5) : RdF w5 G sz A n l := by
  obtain ⟨F2, _, hm, _⟩ := hl
  exact h.mv (hm.mv hd)
theorem mv_in (w : World) (G : Fp) : Mv w w G (fun k => G k ∧ k < w.heap.size) := fun k hk hg => ⟨⟨hg, hk⟩, rfl⟩
theorem isF_nat {f : Int} (h : isF f = true) : ∃ k : Nat, f = k ∧ k < 4 ∧ f.toNat = k := by
  simp only [isF, decide_eq_true_eq] at h
  exact ⟨f.toNat, by omega, by omega, rfl⟩
def ReadD (r : Bs × Int) (w : World) (e : Ending) (w' : World) : Prop := ∃ v, e = .returned (.tuple #[v, .int .i64 r.2]) ∧ Sl w' (fun k => w.heap.size ≤ k) 5 1 v r.1.length (bts r.1) ∧ Below w.heap.size w w'
theorem readD_nil {r : Bs × Int} {k : Int} {w : World} (h : r = ([], k)) : ReadD r w (.returned (.tuple #[.slice none 0 0, .int .i64 k])) w := by
  subst h
  exact ⟨_, rfl, Sl.nil_ _ _ _ _, Below.refl _ _⟩
set_option maxHeartbeats 2000000 in
set_option maxRecDepth 100000 in
theorem read73 {w : World} {F : Fp} {z : Nat} {d : Dsk} (h : Dk w F z d) (hok : d.ok) (hsz : d.sz ≤ 17592186044416) (f : Int) : Calls Tryz.prog 73 #[P z, .int .i64 f] w (ReadD (d.read f) w) := by
  have hw := wrong103 h
  cases ho : d.off with
  | true =>
    have HR : Hid (d.read f = ([], 6)) := by simp [Hid, Dsk.read, ho]
    rw [ho] at hw
    clear ho
    go_enter Tryz.func73, Tryz.ntmps73
    go_wp2_with (go_at_call 103; (with_reducible refine hw.mono ?_); rintro e' w1 ⟨rfl, rfl⟩)
    go_ret2
    exact readD_nil HR.out
  | false =>
    rw [ho] at hw
    have hi := is66 f w
    cases hf : isF f with
    | false =>
      have HR : Hid (d.read f = ([], 2)) := by simp [Hid, Dsk.read, ho, hf]
      rw [hf] at hi
      clear ho hf
      go_enter Tryz.func73, Tryz.ntmps73
      go_wp2_with (first | (go_at_call 103; (with_reducible refine hw.mono ?_); rintro e' w1 ⟨rfl, rfl⟩) | (go_at_call 66; (with_reducible refine hi.mono ?_); rintro e' w1 ⟨rfl, rfl⟩))
      go_ret2
      exact readD_nil HR.out
    | true =>
      rw [hf] at hi
      obtain ⟨k, rfl, hk4, hkn⟩ := isF_nat hf
      have HR : Hid (d.read (k : Int) = (d.held k, 0)) := by simp [Hid, Dsk.read, ho, hf]
      have hh := held116 h hok hsz k hk4
      clear ho hf
      go_enter Tryz.func73, Tryz.ntmps73
      go_wp2_with (first | (go_at_call 103; (with_reducible refine hw.mono ?_); rintro e' w1 ⟨rfl, rfl⟩) | (go_at_call 66; (with_reducible refine hi.mono ?_); rintro e' w1 ⟨rfl, rfl⟩) | (go_at_call 116; refine stop_ (fun Ps hPs => ?_)))
      refine hPs ?_
      clear hPs Ps
      refine hh.mono ?_
      rintro e' w2 ⟨v2, rfl, hs, hb⟩
      have HS := hid hs
      have HB := hid hb
      clear hs hb
      go_wp2_with fail
      go_ret2
      rw [HR.out]
      exact ⟨v2, rfl, HS.out, HB.out⟩
set_option maxHeartbeats 2000000 in
set_option maxRecDepth 100000 in
theorem durable30 {w : World} {F : Fp} {z : Nat} {d : Dsk} (h : Dk w F z d) (hsz : d.sz ≤ 17592186044416) (f : Nat) (hf : f < 4) : Calls Tryz.prog 30 #[P z, .int .i64 (f : Nat)] w (FreshS w (d.dur f)) := by
  have hw := none65 h
  have hi := is66 f w
  have hif : isF f = true := by simp only [isF, decide_eq_true_eq]; omega
  rw [hif] at hi
  obtain ⟨tag, st, V, pv, ps, hF, ht⟩ := h
  have hbk := hid ht.blk.1
  have hrow := ht.rows f hf
  obtain ⟨A, c, hv, g1, g2⟩ := hrow.slice_
  have hrd := hrow
  rw [hv] at hrd
  have hrd := hrd.rdf
  obtain ⟨n, hn⟩ : ∃ n, n = (d.dur f).length := ⟨_, rfl⟩
  have hs1 : n ≤ 17592186044416 := by
    have := len_le_tot d.dur hf
    unfold Dsk.sz at hsz
    unfold tot at this
    omega
  have hcell : w.cell? ⟨z, 5 + f, none⟩ = some (.slice A n c) := by
    rw [hn, ← hv, hbk.out.cell]
    obtain rfl | rfl | rfl | rfl : f = 0 ∨ f = 1 ∨ f = 2 ∨ f = 3 := by omega
    all_goals rfl
  have c0 : w.cell? ⟨z, 0, none⟩ = some (.bool true) := hbk.out.cell 0
  rw [← hn] at hrd g1
  have HN := hid hn
  have HRD := hid hrd
  clear ht hn hsz hv hrow hrd hif
  unfold maxLen at g2
  have hfi : (f : Int) < 4 := by omega
  go_enter Tryz.func30, Tryz.ntmps30
  go_wp2_with (first | (go_at_call 65; (with_reducible refine hw.mono ?_); rintro e' w1 ⟨rfl, rfl⟩) | (go_at_call 66; (with_reducible refine hi.mono ?_); rintro e' w1 ⟨rfl, rfl⟩) | (at_builtin; refine stop_ (fun Ps hPs => ?_)))
  refine hPs ?_
  clear hPs Ps
  refine wpList_appS T80 (.const (.slice none 0 0)) (.tmp 17) rfl rfl (Sl.nil_ w (fun k => w.heap.size ≤ k) 5 1) rfl HRD.out rfl (bts_one _) (by omega) fun v1 w1 hown hg hat => ?_
  have hb1 : Below w.heap.size w w1 := gb_new (Below.refl _ _) hg (fun g hg => by simp [Value.ownBlock] at hg)
  have HO := hid hown
  have HB := hid hb1
  clear hown hg hat hb1
  go_wp2_with fail
  go_ret
  refine ⟨v1, rfl, ?_, HB.out⟩
  have := HO.out.to (G := fun k => w.heap.size ≤ k) (fun k hk => by rcases hk with h | h <;> exact h)
  rw [← HN.out]
  simpa using this
set_option maxHeartbeats 4000000 in
set_option maxRecDepth 100000 in
theorem write131 {w : World} {F G : Fp} {z : Nat} {d : Dsk} (h : Dk w F z d) (hok : d.ok) (f : Int) (A : Option Addr) (n c : Nat) (b : Bs) (hb : RdF w G 1 A n (bts b)) (hd : Dj G F) (hsz : d.sz + n ≤ 8796093022208) (hc : n ≤ c) (hcm : c ≤ maxLen) :
    Calls Tryz.prog 131 #[P z, .int .i64 f, .slice A n c] w (DDid F z (d.write f b) w) := by
  have hw := wrong103 h
  cases ho : d.off with
  | true =>
    have HR : Hid (d.write f b = (6, d)) := by simp [Hid, Dsk.write, ho]
    rw [ho] at hw
    clear ho
    go_enter Tryz.func131, Tryz.ntmps131
    go_wp2_with (go_at_call 103; (with_reducible refine hw.mono ?_); rintro e' w1 ⟨rfl, rfl⟩)
    go_ret
    rw [HR.out]
    exact ⟨rfl, DLeft.same h⟩
  | false =>
    rw [ho] at hw
    have hi := is66 f w
    cases hf : isF f with
    | false =>
      have HR : Hid (d.write f b = (2, d)) := by simp [Hid, Dsk.write, ho, hf]
      rw [hf] at hi
      clear ho hf
      go_enter Tryz.func131, Tryz.ntmps131
      go_wp2_with (first | (go_at_call 103; (with_reducible refine hw.mono ?_); rintro e' w1 ⟨rfl, rfl⟩) | (go_at_call 66; (with_reducible refine hi.mono ?_); rintro e' w1 ⟨rfl, rfl⟩))
      go_ret
      rw [HR.out]
      exact ⟨rfl, DLeft.same h⟩
    | true =>
      rw [hf] at hi
      obtain ⟨f, rfl, hk4, hkn⟩ := isF_nat hf
      have HR : Hid (d.write (f : Int) b = wrN f b.length d b) := by simp [Hid, Dsk.write, ho, hf]
      have hbl : b.length = n := by simpa using hb.1
      have HBL := hid hbl
      have HOK := hid hok
      have HH := hid h
      have HB := hid hb
      unfold maxLen at hcm
      clear ho hf hkn hbl hb h hok
      go_enter Tryz.func131, Tryz.ntmps131
      go_wp2_with (first | (go_at_call 103; (with_reducible refine hw.mono ?_); rintro e' w1 ⟨rfl, rfl⟩) | (go_at_call 66; (with_reducible refine hi.mono ?_); rintro e' w1 ⟨rfl, rfl⟩))
      go_loopg [2, 8] n (fun g v _ wr => ∃ (A' : Option Addr) (m c' : Nat) (b' : Bs) (d' : Dsk), m ≤ g ∧ v = .slice A' m c' ∧ m ≤ c' ∧ c' ≤ 9223372036854775807 ∧ Hid (b'.length = m) ∧ Hid (RdF wr (fun k => G k ∧ k < w.heap.size) 1 A' m (bts b')) ∧ Hid (DLeft F z d' w wr) ∧ Hid (d'.ok ∧ d'.sz + (m + 63) / 64 * 64 ≤ 8796093022272) ∧ Hid (d.write (f : Int) b = wrN f g d' b'))
      case atStart => exact ⟨A, n, c, b, d, Nat.le_refl _, rfl, hc, hcm, HBL, hid (HB.out.mv (mv_in w G)), hid (DLeft.same HH.out), hid ⟨HOK.out, by omega⟩, hid (by rw [HR.out, HBL.out])⟩
      case round =>
        clear hw hi
        obtain ⟨A', m, c', b', d', hmg, rfl, hmc, hcm', HL', HB', HD', HOK', HW'⟩ := hrel
        obtain ⟨F1, HD1, HM1, HS1⟩ := HD'.out
        rcases Nat.eq_zero_or_pos m with h0 | h0
        · subst h0
          have hb0 : b' = [] := List.eq_nil_of_length_eq_zero HL'.out
          have HE : Hid (wrN f gk d' b' = (0, d')) := by subst hb0; cases gk <;> simp [wrN, Hid]
          clear hb0
          go_wp2_with fail
          go_ret
          rw [HW'.out, HE.out]
          exact ⟨rfl, F1, HD1, HM1, HS1⟩
        · obtain ⟨g', rfl⟩ : ∃ g', gk = g' + 1 := ⟨gk - 1, by omega⟩
          have hbn : b' ≠ [] := fun e => by have := HL'.out; rw [e] at this; simp at this; omega
          have hbu := hid (burn169 HD1 HOK'.out.1)
          have hmi : (0 : Int) < (m : Int) := by omega
          cases hbb : d'.burn.1 with
          | false =>
            have HE : Hid (wrN f (g' + 1) d' b' = (6, d'.burn.2)) := by simp [wrN, Hid, hbn, hbb]
            have HB3 := hid hbb
            clear hbn hbb
            go_wp2_with (go_at_call 169; refine stop_ (fun Ps hPs => ?_))
            refine hPs ?_
            clear hPs Ps
            refine hbu.out.mono ?_
            clear hbu
            rintro e' w2 ⟨rfl, hl2⟩
            rw [HB3.out]
            have HL2 := hid hl2
            clear hl2
            go_wp2_with fail
            go_ret
            rw [HW'.out, HE.out]
            exact ⟨rfl, dleft_trans HM1 HS1 HL2.out⟩
          | true =>
            have HE : Hid (wrN f (g' + 1) d' b' = wrN f g' (d'.burn.2.push ⟨true, f, b'.take 64, 0⟩) (b'.drop 64)) := by simp [wrN, Hid, hbn, hbb]
            have HB3 := hid hbb
            clear hbn hbb
            go_wp2_with (go_at_call 169; refine stop_ (fun Ps hPs => ?_))
            refine hPs ?_
            clear hPs Ps
            refine hbu.out.mono ?_
            clear hbu
            rintro e' w2 ⟨rfl, F2, hd2, hm2, hs2⟩
            rw [HB3.out]
            obtain ⟨tag, st, V, pv, ps, hF, ht⟩ := hd2
            have hbk := hid ht.blk.1
            obtain ⟨Ap, cp, rfl, p1, p2⟩ := ht.prow.slice_
            obtain ⟨k, hk⟩ : ∃ k, k = ps.length := ⟨_, rfl⟩
            have hkl : k ≤ 1000000000000 := by
              have := HOK'.out.2
              have e : d'.pend.length = k := by rw [← d'.burn_pend, ← ht.hps, hk]; simp
              unfold Dsk.sz at this
              omega
            have c9 : w2.cell? ⟨z, 9, none⟩ = some (.slice Ap k cp) := by rw [hk]; exact hbk.out.cell 9
            have f9 := hbk.out.frozen 9
            have HKK := hid hk
            have HT := hid ht
            have HF2 := hid hF
            rw [← hk] at p1
            unfold maxLen at p2
            clear ht hF hk
            have hdj : Dj (fun k => G k ∧ k < w.heap.size) F1 := fun k ⟨h1, h2⟩ h3 => by
              rcases HS1 k h3 with h4 | h4
              · exact hd k h1 h4
              · omega
            have HDJ := hid hdj
            have HRL := hid (HB'.out.mv (hm2.mv hdj))
            have hL := HL'.out
            have hnx : (d'.burn.2.push ⟨true, f, b'.take 64, 0⟩).ok ∧ (d'.burn.2.push ⟨true, f, b'.take 64, 0⟩).sz + (m - 64 + 63) / 64 * 64 ≤ 8796093022272 := by
              refine ⟨HOK'.out.1.burn.push hk4 (by simp; omega), ?_⟩
              have := HOK'.out.2
              rw [Dsk.push_sz, Dsk.burn_sz]
              omega
            have HNX := hid hnx
            have HPR : Hid (Sl w2 (fun k => tag k = 6) 175 4 (.slice Ap k cp) k (spc ps)) := hid (by rw [HKK.out]; exact HT.out.prow)
            have zl : z < w2.heap.size := hbk.out.lt
            have hmw : IntKind.i64.wrap ((k : Int) + 1) = (k : Int) + 1 := IntWalk.i64_in _ (by omega)
            have HK9 : Hid (∀ W : World, Blk W z 128 (dcs d'.burn.2 st V (.slice Ap ps.length cp)) → W.cell? ⟨z, 9, none⟩ = some (.slice Ap k cp)) := hid fun W h => by rw [HKK.out]; exact h.cell 9
            have z9 : w2.drew.cell? ⟨z, 9, none⟩ = some (.slice Ap k cp) := c9
            clear hdj hL hnx
            have hcs : m ≤ 64 ∨ 64 < m := by omega
            rcases hcs with h6 | h6
            · skip
              have hq1 : ¬(64 : Int) < (m : Int) := by omega
              have hq2 : (m : Int) ≤ (c' : Int) := by omega
              go_wp2_with fail
              have RQ : Hid (RdF w2.drew (fun k => G k ∧ k < w.heap.size) 1 A' m (bts (b'.take 64))) := hid (by have := HRL.out; rw [← show b'.take 64 = b' from List.take_of_length_le (by rw [HL'.out]; exact h6)] at this; exact rd_drew this)
              go_region_law
                (first
                | (refine step_appS (c := c') T80 (.const (.slice none 0 0)) (.tmp 34) rfl (by rfl) (Sl.nil_ w2.drew (fun k => w2.heap.size ≤ k) 5 1) (by rfl) RQ.out (by go_simp) (bts_one _) (by omega) ?_; intro v3 w3 hv3 hg3 hat3; obtain ⟨A3, c3, rfl, d31, d32⟩ := hv3.slice_; have hb3 : Below w2.heap.size w2 w3 := gb_new (below_drew w2) hg3 (fun g hg => by simp [Value.ownBlock] at hg); have z93 : w3.cell? ⟨z, 9, none⟩ = some (.slice Ap k cp) := (hb3.cell (p := ⟨z, 9, none⟩) zl).trans c9; have z94 := fun o => (World.cell?_alloc_lt w3 o (⟨z, 9, none⟩ : Addr) (Nat.lt_of_lt_of_le zl hb3.size)).trans z93; have hsl3 : Sl w3 (fun k => tag k = 6) 175 4 (.slice Ap k cp) k (spc ps) := HPR.out.later hb3; have HV3 := hid hv3; clear hv3 hg3 hat3)
                | (refine step_appS (c := 1) T126 (.tmp 30) (.tmp 37) rfl (by rfl) (hsl3.alloc _) (by go_simp) (RdF.lit w3 #[.int .i64 0, .int .i64 (f : Nat), .slice A3 _ c3, .int .i64 0] 175 1 4 rfl) (by go_simp) (by simp [Value.oneCell']) (by omega) ?_; intro v4 w4 hv4 hg4 hat4; obtain ⟨A4, c4, rfl, d41, d42⟩ := hv4.slice_; have kz4 : Blk w4 z 128 (dcs d'.burn.2 st V (.slice Ap ps.length cp)) := (hbk.out.later hb3).gb (grownBy_after_alloc hg4) (fun e => HPR.out.ne_blk hbk.out (by decide) z e.symm rfl); have z4 : w4.cell? ⟨z, 9, none⟩ = some (.slice Ap k cp) := HK9.out w4 kz4; have f4 := kz4.frozen 9))
              all_goals
                have hL5 : DLeft F1 z (d'.burn.2.push ⟨true, f, b'.take 64, 0⟩) wr (w4.setCell ⟨z, 9, none⟩ (.slice A4 (k + 1) c4)) := dleft_trans hm2 hs2 (dpush HT.out HF2.out HKK.out (Sp.mk true f A3 m c3 (b'.take 64) 0) hb3 (new_rdf HV3.out (fun k hk => by rcases hk with h | h <;> exact h)) (by simpa using d31) d32 hv4 (grownBy_after_alloc hg4) (fun g hg => (hat4 g hg).imp id (fun h => by simp at h; omega)))
                have HL5 := hid hL5
                clear hL5 hv4 hg4 hat4 kz4 z4 f4 hsl3 HV3 z93 z94 hb3 d31 d32 d41 d42 RQ c9 f9
                go_wp2_with fail
                all_goals
                  go_roundg g'
                  case measure => omega
                  case rel =>
                    refine ⟨_, 0, _, [], d'.burn.2.push ⟨true, f, b'.take 64, 0⟩, Nat.zero_le _, rfl, Nat.zero_le _, by omega, hid rfl, hid RdF.nil_, hid (dleft_trans HM1 HS1 HL5.out), hid ⟨HNX.out.1, by have := HNX.out.2; omega⟩, hid ?_⟩
                    rw [HW'.out, HE.out, List.drop_of_length_le (by rw [HL'.out]; exact h6)]

            · skip
              have hq1 : (64 : Int) < (m : Int) := by omega
              have hq2 : (64 : Int) ≤ (c' : Int) := by omega
              have hq3 : ¬(c' = 64) := by omega
              go_wp2_with fail
              have RQ : Hid (RdF w2.drew (fun k => G k ∧ k < w.heap.size) 1 A' 64 (bts (b'.take 64))) := hid (rd_drew (rd_take HRL.out (show 64 ≤ m by omega)))
              go_region_law
                (first
                | (refine step_appS (c := c') T80 (.const (.slice none 0 0)) (.tmp 34) rfl (by rfl) (Sl.nil_ w2.drew (fun k => w2.heap.size ≤ k) 5 1) (by rfl) RQ.out (by go_simp) (bts_one _) (by omega) ?_; intro v3 w3 hv3 hg3 hat3; obtain ⟨A3, c3, rfl, d31, d32⟩ := hv3.slice_; have hb3 : Below w2.heap.size w2 w3 := gb_new (below_drew w2) hg3 (fun g hg => by simp [Value.ownBlock] at hg); have z93 : w3.cell? ⟨z, 9, none⟩ = some (.slice Ap k cp) := (hb3.cell (p := ⟨z, 9, none⟩) zl).trans c9; have z94 := fun o => (World.cell?_alloc_lt w3 o (⟨z, 9, none⟩ : Addr) (Nat.lt_of_lt_of_le zl hb3.size)).trans z93; have hsl3 : Sl w3 (fun k => tag k = 6) 175 4 (.slice Ap k cp) k (spc ps) := HPR.out.later hb3; have HV3 := hid hv3; clear hv3 hg3 hat3)
                | (refine step_appS (c := 1) T126 (.tmp 30) (.tmp 37) rfl (by rfl) (hsl3.alloc _) (by go_simp) (RdF.lit w3 #[.int .i64 0, .int .i64 (f : Nat), .slice A3 _ c3, .int .i64 0] 175 1 4 rfl) (by go_simp) (by simp [Value.oneCell']) (by omega) ?_; intro v4 w4 hv4 hg4 hat4; obtain ⟨A4, c4, rfl, d41, d42⟩ := hv4.slice_; have kz4 : Blk w4 z 128 (dcs d'.burn.2 st V (.slice Ap ps.length cp)) := (hbk.out.later hb3).gb (grownBy_after_alloc hg4) (fun e => HPR.out.ne_blk hbk.out (by decide) z e.symm rfl); have z4 : w4.cell? ⟨z, 9, none⟩ = some (.slice Ap k cp) := HK9.out w4 kz4; have f4 := kz4.frozen 9))
              all_goals
                have hL5 : DLeft F1 z (d'.burn.2.push ⟨true, f, b'.take 64, 0⟩) wr (w4.setCell ⟨z, 9, none⟩ (.slice A4 (k + 1) c4)) := dleft_trans hm2 hs2 (dpush HT.out HF2.out HKK.out (Sp.mk true f A3 64 c3 (b'.take 64) 0) hb3 (new_rdf HV3.out (fun k hk => by rcases hk with h | h <;> exact h)) (by simpa using d31) d32 hv4 (grownBy_after_alloc hg4) (fun g hg => (hat4 g hg).imp id (fun h => by simp at h; omega)))
                have HL5 := hid hL5
                clear hL5 hv4 hg4 hat4 kz4 z4 f4 hsl3 HV3 z93 z94 hb3 d31 d32 d41 d42 RQ c9 f9
                go_wp2_with fail
                all_goals
                  go_roundg g'
                  case measure => omega
                  case rel =>
                    refine ⟨_, m - 64, _, b'.drop 64, d'.burn.2.push ⟨true, f, b'.take 64, 0⟩, by omega, rfl, by omega, by omega, hid (by rw [List.length_drop, HL'.out]), hid ?_, hid (dleft_trans HM1 HS1 HL5.out), hid HNX.out, hid (by rw [HW'.out, HE.out])⟩
                    exact rd_drop (rd_left HB'.out HDJ.out HL5.out) (by omega)
end Go.Proofs.YtbpnbcjgkbpmgaaGreat
