/- A primary answers without waiting for the other site, as many times as its leash allows: of any acts. No condition. (part 27) -/
import Derived.Test.YtbpnbcjgkbpmgaaGreatMAz
namespace Go.Proofs.YtbpnbcjgkbpmgaaGreat
open Go.RowKit Go.Lg Ds St
set_option linter.unusedVariables false
set_option linter.unusedSimpArgs false
theorem encCs_snoc {l : List Cmt} {j : Nat} {c : Cmt} (h : l[j]? = some c) : encCs (l.take (j + 1)) = encCs (l.take j) ++ (Pp.encN [(encC c).length] ++ encC c) := by
  rw [take_succ_get? h]
  simp [encCs]
theorem encCs_le : ∀ (l : List Cmt), (∀ c ∈ l, c.k = 0) → (encCs l).length ≤ l.length * 1010
  | [], _ => by simp [encCs]
  | c :: l, h => by
    have h1 := encC_le (h c List.mem_cons_self)
    have h2 := encCs_le l (fun x hx => h x (List.mem_cons_of_mem _ hx))
    have h3 := Pp.encN_le [(encC c).length]
    simp only [encCs, List.flatMap_cons, List.length_append, List.length_cons, List.length_nil] at h2 h3 ⊢
    omega
theorem fol_k : ∀ (ms : List Cm) (ep num : Int) (i : Nat), (fol ep num i ms).1 = 0 → ∀ m ∈ ms, m.k = 0
  | [], _, _, _, _, m, hm => by cases hm
  | x :: r, ep, num, i, h, m, hm => by
    unfold fol at h
    split at h
    · rename_i h1
      exact absurd h h1
    · rename_i h1
      split at h
      · cases h
      · rcases List.mem_cons.1 hm with rfl | hm
        · exact Decidable.not_not.1 h1
        · exact fol_k r _ _ _ h m hm
theorem bts_app (a b : Bys) : bts (a ++ b) = bts a ++ bts b := by simp [bts]
theorem Enc1.appd {w w8 w9 : World} {cs : Array Value} {B m c8 c9 : Nat} {b8 bc : Bys} {A8 A9 : Option Addr} (h : Enc1 w w8 cs B b8) (hbk : Blk w8 B 80 #[.slice A8 b8.length c8]) (hs8 : Sl w8 (fun k => B + 1 ≤ k) 5 1 (.slice A8 b8.length c8) b8.length (bts b8))
    (hs9 : Sl w9 (fun k => B + 1 ≤ k ∨ w8.heap.size ≤ k) 5 1 (.slice A9 (b8.length + m) c9) (b8.length + m) (bts b8 ++ bts bc)) (hg : w8.grownBy w9 (Value.slice A8 b8.length c8).ownBlock) (hm : bc.length = m) :
    Blk w9 B 80 #[.slice A8 b8.length c8] ∧ Enc1 w (w9.setCell ⟨B, 0, none⟩ (.slice A9 (b8.length + m) c9)) cs B (b8 ++ bc) := by
  have hlt := h.lt
  have hsz := h.sz
  have k9 : Blk w9 B 80 #[.slice A8 b8.length c8] := hbk.gb hg fun e => hs8.ne_blk hbk (by decide) B e.symm rfl
  have z9 : Blk w9 w.heap.size 147 cs := h.box.gb hg fun e => by
    have := (hs8.lt _ e.symm).1
    have : B + 1 ≤ w.heap.size := this
    omega
  have b9 : Below w.heap.size w w9 := h.bl.trans (Below.mono (B := w.heap.size + 1) ⟨hg.os, hg.tape, hg.output, hg.size, fun k hk => hg.block k (by omega) fun e => by
    have := (hs8.lt _ e.symm).1
    have : B + 1 ≤ k := this
    omega⟩ (Nat.le_succ _))
  refine ⟨k9, ⟨A9, c9, ?_, ?_⟩, ?_, hlt, b9.setCell (p := ⟨B, 0, none⟩) (Nat.le_of_lt hlt) _, ?_⟩
  · rw [List.length_append, hm]
    exact k9.set_ 0 _
  · rw [List.length_append, hm, bts_app]
    exact (Sl.setz hs9 k9 (by decide) 0 _).to fun k hk => by
      rcases hk with h1 | h1
      · exact h1
      · show B + 1 ≤ k
        omega
  · exact z9.far (p := ⟨B, 0, none⟩) (by show w.heap.size ≠ B; omega) _
  · have := k9.lt
    simpa [World.setCell] using this
set_option maxHeartbeats 4000000 in
set_option maxRecDepth 100000 in
theorem encode_ship {w : World} (ep fr pv : Nat) {A : Option Addr} {n c : Nat} {ms : List Cm} (hcs : CS w w.heap.size A n ms) (hcap : ∀ m ∈ ms, m.n ≤ m.c) (f1 : 1 ≤ fr) (f2 : fr ≤ 1048576) (p2 : pv ≤ ep) (hpf : pv = 0 ↔ fr = 1) (hn : n ≤ 4) (hfo : fol pv (fr - 1) 0 ms = (0, 0)) (hall : ∀ m ∈ ms, m.ep ≤ ep) (e1 : 1 ≤ ep) (e2 : ep ≤ 1048576) :
    Calls Tryz.prog 139 #[.agg (msgc 2 ep 0 0 nils fr pv (.slice A n c))] w (EncM (Msg.ship ep fr pv (ms.map Cm.p)).enc w) := by
  obtain ⟨W, hW⟩ : ∃ W, W = w.alloc (.cells (msgc 2 ep 0 0 nils fr pv (.slice A n c)) 147) := ⟨_, rfl⟩
  have lW : Lat w W := by rw [hW]; exact (Lat.refl w).alloc _
  have kW : Blk W w.heap.size 147 (msgc 2 ep 0 0 nils fr pv (.slice A n c)) := by rw [hW]; exact Blk.new _ _ _
  have hck := lcheck121 (w := W) (Mok.ship (w := W) (B := W.heap.size) ep fr pv A n c ms ((hcs.keep lW.b).more lW.size) (by omega) (by omega) (by omega) (by omega) (by omega) hn hfo hall (by omega) (by omega))
  obtain ⟨c0, c1, c2, c3, c4, c5, c6, c7⟩ := mcells kW
  have HLW := hid lW
  have HK := hid kW
  have HCS := hid hcs
  have HN : Hid (ms.length = n) := hid hcs.2.1
  have HKS : Hid (∀ m ∈ ms, m.k = 0) := hid (fol_k ms pv (fr - 1) 0 (by rw [hfo]))
  have HCAP := hid hcap
  have hpw : (pv : Int) ≤ 1048576 := by omega
  clear lW kW hcs hfo hall hpf hcap
  go_enter Tryz.func139, Tryz.ntmps139
  go_upto_region 1 with fail
  rw [← hW]
  clear hW
  go_upto_region 6 with (first | (go_at_call 121; (with_reducible refine hck.mono ?_); rintro e' w1 ⟨rfl, hb1⟩; have hE := Enc1.new (W := W) (HK.out.later hb1) (HLW.out.below hb1); have HSZ := hid hb1.size; clear hb1))
  obtain ⟨w4, hw4⟩ : ∃ w4, w4 = w1.alloc (.cells #[.slice none 0 0] 80) := ⟨_, rfl⟩
  rw [← hw4] at hE ⊢
  obtain ⟨B, hB⟩ : ∃ B, B = w1.heap.size := ⟨_, rfl⟩
  rw [← hB] at hE ⊢
  clear hB hw4 hck c0 c1 c2 c3 c4 c5 c6 c7
  obtain ⟨c0, c1, c2, c3, c4, c5, c6, c7⟩ := mcells hE.box
  have HE := hid hE
  clear hE
  go_upto_region 7 with (go_at_call 175; (with_reducible refine (HE.out.put [2, ep] #[.int .i64 2, .int .i64 (ep : Int)] 2 rfl rfl (by simp; omega) (by simp)).mono ?_); rintro e' w5 ⟨⟨v5, rfl⟩, hE5⟩)
  clear c0 c1 c2 c3 c4 c5 c6 c7
  obtain ⟨c0, c1, c2, c3, c4, c5, c6, c7⟩ := mcells hE5.box
  have HE5 := hid hE5
  clear hE5
  go_upto_region 17 with (go_at_call 175; (with_reducible refine (HE5.out.put [fr, pv, n] #[.int .i64 (fr : Int), .int .i64 (pv : Int), .int .i64 (n : Int)] 3 rfl rfl (by simp; omega) (by have := Pp.encN_le [2, ep]; simp at this ⊢; omega)).mono ?_); rintro e' w6 ⟨⟨v6, rfl⟩, hE6⟩)
  clear c0 c1 c2 c3 c4 c5 c6 c7
  obtain ⟨c0, c1, c2, c3, c4, c5, c6, c7⟩ := mcells hE6.box
  rw [show [] ++ Pp.encN [2, ep] ++ Pp.encN [fr, pv, n] = Pp.encN [2, ep, fr, pv, (ms.map Cm.p).length] by rw [List.length_map, HN.out]; simp [Pp.encN]] at hE6
  have HE6 := hid hE6
  clear hE6
  go_wp2_with fail
  go_loopg [71] n (fun g i wr => ∃ j : Nat, j ≤ n ∧ g = n - j ∧ i = .int .i64 j ∧ Hid (Enc1 w wr (msgc 2 ep 0 0 nils fr pv (.slice A n c)) B (Pp.encN [2, ep, fr, pv, (ms.map Cm.p).length] ++ encCs ((ms.map Cm.p).take j))))
  case atStart => exact ⟨0, by omega, rfl, rfl, by rw [List.take_zero]; simpa [encCs] using HE6⟩
  case round =>
    obtain ⟨j, hj, rfl, rfl, hr⟩ := hrel
    by_cases hlt : j < n
    · have hji : (j : Int) < (n : Int) := by omega
      obtain ⟨b, off, ep', num, A1, n1, k1, os, rfl, hbB, hm, hos, hn1, x0, x1, x2⟩ := (HCS.out.keep hr.out.bl).at_ hlt
      have hk0 := HKS.out _ (List.mem_of_getElem? hm)
      have hk1 : n1 ≤ k1 := HCAP.out _ (List.mem_of_getElem? hm)
      have hmp : (ms.map Cm.p)[j]? = some ⟨ep', num, os⟩ := by rw [List.getElem?_map, hm]; rfl
      have hln : (encCs ((ms.map Cm.p).take j)).length ≤ 100000 := by
        have h1 := encCs_le ((ms.map Cm.p).take j) (fun c hc => by
          obtain ⟨m, h1, rfl⟩ := List.mem_map.1 (List.mem_of_mem_take hc)
          exact HKS.out m h1)
        rw [List.length_take, List.length_map, HN.out] at h1
        omega
      have hle := encC_le (c := ⟨ep', num, os⟩) hk0
      have hl0 := Pp.encN_le [2, ep, fr, pv, (ms.map Cm.p).length]
      have lX : Lat wr (wr.alloc (.cells (cmcs ep' num A1 n1 k1) 88)) := (Lat.refl wr).alloc _
      have hEX := hr.out.later lX
      have hcal := encode176 (w := wr.alloc (.cells (cmcs ep' num A1 n1 k1) 88)) (ep := ep') (num := num) (c := k1) ((hos.more hr.out.bl.size).keep lX.b |>.more lX.size) hn1 hk1
      rw [if_pos (show (Cmt.mk ep' num os).k = 0 from hk0)] at hcal
      have HEX := hid hEX
      have HMP := hid hmp
      have HLN := hid hln
      have HLE := hid hle
      have HL0 := hid hl0
      obtain ⟨bc, hbc⟩ : ∃ bc, bc = encC ⟨ep', num, os⟩ := ⟨_, rfl⟩
      rw [← hbc] at hcal HLE
      have HBC := hid hbc
      clear lX hEX hm hk0 hmp hln hle hl0 hos hbc
      go_upto_region 21 with (go_at_call 176; (with_reducible refine hcal.mono ?_); rintro e' w7 ⟨v7, rfl, ho7, hb7⟩)
      have hE7 := HEX.out.later (Lat.mk hb7)
      obtain ⟨A7, c7', rfl, _⟩ := owned_slice ho7
      have hl7 : (bc.length : Int) ≤ 1000 := by have := HLE.out; omega
      have hR7 : RdF w7 (fun k => k ≠ B) 1 A7 bc.length (bts bc) := (Sl.rdf (Sl.of_own ho7 (F := fun k => (wr.alloc (.cells (cmcs ep' num A1 n1 k1) 88)).heap.size ≤ k) fun g hg => (ho7.lt g hg).1)).to fun k hk e => by
        have h1 : (wr.alloc (.cells (cmcs ep' num A1 n1 k1) 88)).heap.size ≤ k := hk
        have h2 := HEX.out.sz
        omega
      have hs7 : B + 1 ≤ w7.heap.size := hE7.sz
      have hB7 : B < B + 1 := Nat.lt_succ_self B
      have HE7 := hid hE7
      clear ho7 hb7 hE7
      have hlenb : (Pp.encN [2, ep, fr, pv, (ms.map Cm.p).length] ++ encCs ((ms.map Cm.p).take j)).length ≤ 1000000 := by
        have h1 := HL0.out
        have h2 := HLN.out
        simp at h1 h2 ⊢
        omega
      obtain ⟨bj, hbj⟩ : ∃ bj, bj = Pp.encN [2, ep, fr, pv, (ms.map Cm.p).length] ++ encCs ((ms.map Cm.p).take j) := ⟨_, rfl⟩
      rw [← hbj] at HE7 hlenb
      have HBJ := hid hbj
      clear hbj
      go_upto_region 22 with (go_at_call 175; (with_reducible refine (lput_lit HE7.out.pb hs7 hB7 [bc.length] #[.int .i64 (bc.length : Int)] 1 rfl rfl (by simp; omega) (by simp; omega)).mono ?_); rintro e' w8 ⟨⟨v8, rfl⟩, hp8, hm8⟩)
      have hE8 := HE7.out.next hp8 hm8
      have hR8 := hR7.mv (hm8.mv fun k a b => a b)
      obtain ⟨b8, hb8⟩ : ∃ b8, b8 = bj ++ Pp.encN [bc.length] := ⟨_, rfl⟩
      rw [← hb8] at hE8
      have hl8 : b8.length ≤ 2000000 := by
        have := Pp.encN_le [bc.length]
        rw [hb8]
        simp at this ⊢
        omega
      have HB8 := hid hb8
      obtain ⟨A8, c8, hbk8, hsl8⟩ := hE8.pb.bx
      have y8 : w8.cell? ⟨B, 0, none⟩ = some (.slice A8 b8.length c8) := hbk8.cell 0
      have HE8 := hid hE8
      have HK8 := hid hbk8
      have HS8 := hid hsl8
      clear hp8 hm8 hE8 hb8 hbk8 hsl8 hR7
      go_wp2_with (at_builtin; refine stop_ (fun Ps hPs => ?_))
      refine hPs ?_
      clear hPs Ps
      refine wpList_appS T22 (.tmp 85) (.tmp 86) rfl rfl HS8.out rfl hR8 rfl (bts_one _) (by omega) fun v9 w9 hs9 hg9 hat9 => ?_
      obtain ⟨A9, c9, rfl, _, _⟩ := hs9.slice_
      obtain ⟨k9, hE9⟩ := HE8.out.appd HK8.out HS8.out hs9 hg9 rfl
      have y9 : w9.cell? ⟨B, 0, none⟩ = some (.slice A8 b8.length c8) := k9.cell 0
      have f9 : w9.frozen? ⟨B, 0, none⟩ = false := k9.frozen 0
      have HE9 := hid hE9
      clear hs9 hg9 hat9 k9 hE9 y8
      go_wp2_with fail
      go_roundg (n - (j + 1))
      case measure => omega
      case rel =>
        refine ⟨j + 1, by omega, rfl, by go_num, ?_⟩
        rw [encCs_snoc HMP.out, ← HBC.out, ← List.append_assoc, ← List.append_assoc, ← HBJ.out, ← HB8.out]
        exact HE9
    · obtain rfl : j = n := by omega
      have hE8 := hr.out
      rw [List.take_of_length_le (by rw [List.length_map, HN.out]; exact Nat.le_refl _), show Pp.encN [2, ep, fr, pv, (ms.map Cm.p).length] ++ encCs (ms.map Cm.p) = (Msg.ship ep fr pv (ms.map Cm.p)).enc from rfl] at hE8
      obtain ⟨A2, c2, q, hq⟩ := hE8.fin
      have HQ := hid hq
      clear hE8 hq
      go_wp2_with fail
      go_ret2
      exact HQ.out
end Go.Proofs.YtbpnbcjgkbpmgaaGreat
namespace Go.Proofs.YtbpnbcjgkbpmgaaGreat
open Go.RowKit Go.Lg Ds St
set_option linter.unusedVariables false
set_option linter.unusedSimpArgs false
structure Lr (w : World) (B z : Nat) (r : Bys) : Prop where
  hz : B ≤ z
  is_ : ∃ A c, Blk w z 196 #[.slice A r.length c, .bool false] ∧ r.length ≤ c ∧ c ≤ maxLen ∧ RdF w (fun k => k < B) 1 A r.length (bts r)
theorem Lr.later {w w' : World} {B z : Nat} {r : Bys} (h : Lr w B z r) (l : Lat w w') : Lr w' B z r := by
  obtain ⟨A, c, h1, h2, h3, h4⟩ := h.is_
  exact ⟨h.hz, A, c, l.blk h1, h2, h3, h4.mv (bmv l.b _)⟩
theorem Lr.mod {w w' : World} {B z : Nat} {r : Bys} {F : Fp} (h : Lr w B z r) (m : Mod F w w') (hz : ¬F z) (hB : ∀ k, F k → B ≤ k) : Lr w' B z r := by
  obtain ⟨A, c, h1, h2, h3, h4⟩ := h.is_
  exact ⟨h.hz, A, c, h1.mod m hz, h2, h3, h4.mv (m.mv fun k a b => Nat.lt_irrefl k (Nat.lt_of_lt_of_le a (hB k b)))⟩
def LNum (B z : Nat) (x : Nat) (r : Bys) (w : World) (e : Ending) (w' : World) : Prop := e = .returned (.int .i64 (x : Int)) ∧ Lr w' B z r ∧ Mod (fun k => k = z) w w'
theorem rd_past {w : World} {F : Fp} {A : Option Addr} {c : Nat} {x r : Bys} (h : RdF w F 1 A (x ++ r).length (bts (x ++ r))) (hc : (x ++ r).length ≤ c) : RdF w F 1 (if c = x.length then A else A.map (·.add (x.length * 1))) r.length (bts r) := by
  have h1 := rd_behind h (k := x.length) (by simp) hc
  have e1 : (x ++ r).length - x.length = r.length := by simp
  have e2 : (x ++ r).drop x.length = r := by simp
  rw [e1, e2] at h1
  exact h1
theorem lr_set {w : World} {B z n' c' : Nat} {A' : Option Addr} {r : Bys} {cs : Array Value} (hb : Blk w z 196 cs) (hcs : ∀ u, cs.setIfInBounds 0 u = #[u, .bool false]) (h : RdF w (fun k => k < B) 1 A' r.length (bts r)) (hz : B ≤ z) (hn : n' = r.length) (hc : n' ≤ c') (hm : c' ≤ maxLen) :
    Lr (w.setCell ⟨z, 0, none⟩ (.slice A' n' c')) B z r ∧ Mod (fun k => k = z) w (w.setCell ⟨z, 0, none⟩ (.slice A' n' c')) := by
  subst hn
  have m := mod_set w z 0 (.slice A' r.length c')
  refine ⟨⟨hz, A', c', ?_, hc, hm, h.mv (m.mv fun k a b => ?_)⟩, m⟩
  · have := hb.set_ 0 (.slice A' r.length c')
    rwa [hcs] at this
  · have h1 : k < B := a
    have h2 : k = z := b
    omega
set_option maxHeartbeats 4000000 in
set_option maxRecDepth 100000 in
theorem lnum119 {w : World} {B z x : Nat} {most : Int} {r : Bys} (h : Lr w B z (Vi.enc x ++ r)) (hm : (x : Int) ≤ most) (h2 : most ≤ 1000000000000) : Calls Tryz.prog 119 #[P z, .int .i64 most] w (LNum B z x r w) := by
  obtain ⟨b, hb⟩ : ∃ b, b = Vi.enc x ++ r := ⟨_, rfl⟩
  obtain ⟨A, c, hbk, hl, hcm, hrd⟩ := h.is_
  have hpast := rd_past hrd hl
  have hxl : (Vi.enc x).length ≤ (Vi.enc x ++ r).length := by simp
  have hrl : (Vi.enc x ++ r).length - (Vi.enc x).length = r.length := by simp
  have hz := h.hz
  rw [← hb] at hbk hl hxl hrl
  have hs := small_at A b.length c _ b most x (Vi.enc x).length 0 w (by rw [hb]; exact hrd.rd (by decide)) (by unfold maxLen at hcm; omega) (by omega) (by rw [hb]; exact small_enc r (by omega) (by omega))
  have c0 : w.cell? ⟨z, 0, none⟩ = some (.slice A b.length c) := hbk.cell 0
  have c1 : w.cell? ⟨z, 1, none⟩ = some (.bool false) := hbk.cell 1
  have f0 : w.frozen? ⟨z, 0, none⟩ = false := hbk.frozen 0
  have hpos := Vi.encF_pos 9 x
  obtain ⟨m, hm'⟩ : ∃ m, m = (Vi.enc x).length := ⟨_, rfl⟩
  have hpos' : 0 < m := by rw [hm']; exact hpos
  rw [← hm'] at hxl hrl hs hpast
  unfold maxLen at hcm
  have i1 : (m : Int) ≤ (c : Int) := by omega
  have i2 : (m : Int) ≤ (b.length : Int) := by omega
  have i3 : (b.length : Int) ≤ (c : Int) := by omega
  have HRL := hid hrl
  have HBK := hid hbk
  have HP := hid hpast
  have HZ := hid hz
  clear hb h hrd hbk hpos hm' hpast hrl hz
  go_enter Tryz.func119, Tryz.ntmps119
  go_wp2_with (go_at_call 108; (with_reducible refine hs.mono ?_); rintro e' w1 ⟨rfl, rfl⟩)
  · rw [if_pos h] at HP
    go_ret
    exact ⟨rfl, lr_set HBK.out (fun _ => rfl) HP.out HZ.out HRL.out (by omega) (by unfold maxLen; omega)⟩
  · rw [if_neg h, Nat.mul_one] at HP
    go_ret
    exact ⟨rfl, lr_set HBK.out (fun _ => rfl) HP.out HZ.out HRL.out (by omega) (by unfold maxLen; omega)⟩
theorem rd_front {w : World} {F : Fp} {A : Option Addr} {x r : Bys} (h : RdF w F 1 A (x ++ r).length (bts (x ++ r))) : RdF w F 1 A x.length (bts x) := by
  have h1 := rd_take h (k := x.length) (by simp)
  have e2 : (x ++ r).take x.length = x := by simp
  rwa [e2] at h1
def LCom (B z : Nat) (m : Cmt) (r : Bys) (w : World) (e : Ending) (w' : World) : Prop := ∃ A c, e = .returned (cmv m.ep m.num A m.os.length c) ∧ Sl w' (fun k => w.heap.size ≤ k) 77 3 (.slice A m.os.length c) m.os.length (opc m.os) ∧ Lr w' B z r ∧ Mod (fun k => k = z) w w'
theorem lcom_fin {w X : World} {B z : Nat} {m : Cmt} {r : Bys} {A : Option Addr} {c : Nat} (h : Lr X B z r) (s : Sl X (fun i => w.heap.size ≤ i) 77 3 (.slice A m.os.length c) m.os.length (opc m.os)) (hm : Mod (fun i => i = z) w X) {cs : Array Value} (q : Blk X w.heap.size 88 cs) (hqz : w.heap.size ≠ z) (hB : B ≤ w.heap.size) (e num : Int) (he : e = m.ep := by rfl) (hn : num = m.num := by rfl) :
    LCom B z m r w (.returned (cmv e num A m.os.length c)) (((X.setCell ⟨w.heap.size, 0, none⟩ (.int .i64 e)).setCell ⟨w.heap.size, 1, none⟩ (.int .i64 num)).setCell ⟨w.heap.size, 2, none⟩ (.slice A m.os.length c)) := by
  subst he hn
  have m1 := mod_set X w.heap.size 0 (.int .i64 m.ep)
  have m2 := mod_set (X.setCell ⟨w.heap.size, 0, none⟩ (.int .i64 m.ep)) w.heap.size 1 (.int .i64 m.num)
  have m3 := mod_set ((X.setCell ⟨w.heap.size, 0, none⟩ (.int .i64 m.ep)).setCell ⟨w.heap.size, 1, none⟩ (.int .i64 m.num)) w.heap.size 2 (.slice A m.os.length c)
  have q1 := q.set_ 0 (.int .i64 m.ep)
  have q2 := q1.set_ 1 (.int .i64 m.num)
  refine ⟨A, c, rfl, Sl.setz (Sl.setz (Sl.setz s q (by decide) 0 _) q1 (by decide) 1 _) q2 (by decide) 2 _, h.mod ((m1.trans_ m2).trans_ m3) (fun e => hqz e.symm) (fun k hk => by have h1 : k = w.heap.size := hk; omega), ?_⟩
  exact ((hm.setNew (Nat.le_refl _) _).setNew (Nat.le_refl _) _).setNew (Nat.le_refl _) _
set_option maxHeartbeats 4000000 in
set_option maxRecDepth 100000 in
theorem lcommit120 {w : World} {B z : Nat} {m : Cmt} {r : Bys} (h : Lr w B z (Vi.enc (encC m).length ++ (encC m ++ r))) (hk : m.k = 0) (hr : r.length ≤ 1000000) : Calls Tryz.prog 120 #[P z] w (LCom B z m r w) := by
  obtain ⟨bc, hbc⟩ : ∃ bc, bc = encC m := ⟨_, rfl⟩
  have hlc := encC_le hk
  have hdec := decC_enc hk
  rw [← hbc] at h hlc hdec
  have lX : Lat w (w.alloc (.cells #[.int .i64 0, .int .i64 0, .slice none 0 0] 88)) := (Lat.refl w).alloc _
  obtain ⟨X, hX⟩ : ∃ X, X = w.alloc (.cells #[.int .i64 0, .int .i64 0, .slice none 0 0] 88) := ⟨_, rfl⟩
  have hb0 := Blk.new w 88 #[.int .i64 0, .int .i64 0, .slice none 0 0]
  rw [← hX] at lX hb0
  have hX1 := h.later lX
  obtain ⟨L, hL⟩ : ∃ L, L = (Vi.enc bc.length ++ (bc ++ r)).length := ⟨_, rfl⟩
  have hL1 : bc.length ≤ L := by rw [hL]; simp; omega
  have hL2 : L ≤ 2000000 := by
    have := enc_le bc.length
    rw [hL]; simp; omega
  have hn := lnum119 (most := (L : Int)) hX1 (by omega) (by omega)
  obtain ⟨A, c, hbk, hl, hcm, hrd⟩ := hX1.is_
  rw [← hL] at hbk
  have c0 : X.cell? ⟨z, 0, none⟩ = some (.slice A L c) := hbk.cell 0
  have hzw : z < w.heap.size := by obtain ⟨_, _, h1, _⟩ := h.is_; exact h1.lt
  have HB0 := hid hb0
  have HLX := hid lX
  have HD := hid hdec
  have HZ := hid h.hz
  clear hbk hrd hL hX1 h hl hcm lX hb0 hbc
  go_enter Tryz.func120, Tryz.ntmps120
  go_upto_region 1 with fail
  rw [← hX]
  clear hX
  go_upto_region 2 with (go_at_call 119; (with_reducible refine hn.mono ?_); rintro e' w1 ⟨rfl, hr1, hm1⟩)
  clear c0
  obtain ⟨A1, c1, hbk1, hl1, hcm1, hrd1⟩ := hr1.is_
  have hpast := rd_past hrd1 hl1
  have hfront := rd_front hrd1
  obtain ⟨L1, hL1'⟩ : ∃ L1, L1 = (bc ++ r).length := ⟨_, rfl⟩
  have hL3 : bc.length ≤ L1 := by rw [hL1']; simp
  have hL4 : L1 - bc.length = r.length := by rw [hL1']; simp
  have hL5 : L1 ≤ 2000000 := by rw [hL1']; simp; omega
  rw [← hL1'] at hbk1 hl1
  have hdc := decode111 (c := c1) hfront (by omega) (by unfold maxLen at hcm1; omega) (by omega)
  rw [HD.out] at hdc
  have c0 : w1.cell? ⟨z, 0, none⟩ = some (.slice A1 L1 c1) := hbk1.cell 0
  have d1 : w1.cell? ⟨z, 1, none⟩ = some (.bool false) := hbk1.cell 1
  have HK1 := hid hbk1
  have HM1 := hid hm1
  have HP := hid hpast
  have HL4 := hid hL4
  have HCM := hid hcm1
  clear hr1 hrd1 hpast hfront hL1' hbk1 hm1 hn hL4 hcm1
  unfold DecIs at hdc
  simp only at hdc
  go_wp2_with (go_at_call 111; refine stop_ (fun Ps hPs => ?_))
  refine hPs ?_
  clear hPs Ps c0 d1
  refine hdc.mono ?_
  rintro e' w2 ⟨A2, c2, rfl, hs2, hb2⟩
  have hl2 : Lat w1 w2 := ⟨hb2⟩
  obtain ⟨X2, hX2⟩ : ∃ X2, X2 = w2.alloc (.cells #[.int .i64 m.ep, .int .i64 m.num, .slice A2 m.os.length c2] 88) := ⟨_, rfl⟩
  have hl3 : Lat w2 X2 := by rw [hX2]; exact (Lat.refl w2).alloc _
  have k2 : Blk X2 z 196 #[.slice A1 L1 c1, .bool false] := hl3.blk (hl2.blk HK1.out)
  have hqz : w.heap.size ≠ z := by omega
  have q2 : Blk X2 w.heap.size 88 #[.int .i64 0, .int .i64 0, .slice none 0 0] := hl3.blk (hl2.blk (Blk.mod HB0.out HM1.out hqz))
  have b2 : Blk X2 w2.heap.size 88 #[.int .i64 m.ep, .int .i64 m.num, .slice A2 m.os.length c2] := by rw [hX2]; exact Blk.new _ _ _
  have hs3 : Sl X2 (fun i => w.heap.size ≤ i) 77 3 (.slice A2 m.os.length c2) m.os.length (opc m.os) := (hs2.later hl3.b).to fun i hi => Nat.le_trans (Nat.le_trans HLX.out.size HM1.out.size) hi
  have m2 : Mod (fun i => i = z) w X2 := (((HLX.out.mod _).trans_ HM1.out).behind hl2.b).behind hl3.b
  have hzq : z ≠ w2.heap.size := by have := (hl2.blk HK1.out).lt; omega
  have hqq : w.heap.size ≠ w2.heap.size := by have := (hl2.blk (Blk.mod HB0.out HM1.out hqz)).lt; omega
  have hrl := (HP.out.mv (bmv hl2.b _)).mv (bmv hl3.b _)
  obtain ⟨z0, z1⟩ : X2.cell? ⟨z, 0, none⟩ = some (.slice A1 L1 c1) ∧ X2.cell? ⟨z, 1, none⟩ = some (.bool false) := ⟨k2.cell 0, k2.cell 1⟩
  obtain ⟨g0, g1⟩ : X2.frozen? ⟨z, 0, none⟩ = false ∧ X2.frozen? ⟨z, 1, none⟩ = false := ⟨k2.frozen 0, k2.frozen 1⟩
  obtain ⟨y0, y1, y2, e0, e1, e2⟩ := ccells q2
  obtain ⟨x0, x1, x2, _⟩ := ccells b2
  have K2 := hid k2
  have Q2 := hid q2
  have S3 := hid hs3
  have M2 := hid m2
  have HRL := hid hrl
  have HWS := hid hzw
  have HC := hid hl1
  have HB2 := hid b2
  clear k2 q2 b2 hs3 m2 hrl hl2 hl3 hs2 hb2 hdc HD HP HK1 HM1 HB0 HLX hl1 z0 e0 e1 e2 y0 y1 y2 x0 x1 x2 g0
  go_upto_region 6 with fail
  rw [← hX2]
  clear hX2
  go_upto_region 7 with fail
  obtain ⟨X3, hX3⟩ : ∃ X3, X3 = X2.setCell ⟨z, 1, none⟩ (.bool false) := ⟨_, rfl⟩
  rw [← hX3]
  have m3 : Mod (fun i => i = z) X2 X3 := by rw [hX3]; exact mod_set _ _ _ _
  have k3 : Blk X3 z 196 #[.slice A1 L1 c1, .bool false] := by rw [hX3]; exact K2.out.set_ 1 (.bool false)
  have b3 : Blk X3 w2.heap.size 88 #[.int .i64 m.ep, .int .i64 m.num, .slice A2 m.os.length c2] := Blk.mod HB2.out m3 (fun e => hzq e.symm)
  have q3 : Blk X3 w.heap.size 88 #[.int .i64 0, .int .i64 0, .slice none 0 0] := Blk.mod Q2.out m3 hqz
  have s3 := Sl.setz S3.out K2.out (by decide) 1 (.bool false)
  rw [← hX3] at s3
  have r3 := HRL.out.mv (m3.mv fun i a b => by have h1 : i < B := a; have h2 : i = z := b; have := HZ.out; omega)
  have z0 : X3.cell? ⟨z, 0, none⟩ = some (.slice A1 L1 c1) := k3.cell 0
  have g0 : X3.frozen? ⟨z, 0, none⟩ = false := k3.frozen 0
  have M3 := hid (M2.out.trans_ m3)
  have K3 := hid k3
  have B3 := hid b3
  have Q3 := hid q3
  have S3' := hid s3
  have R3 := hid r3
  clear hX3 m3 k3 b3 q3 s3 r3 z1 g1 HRL M2 K2 HB2 Q2 S3
  by_cases hC : c1 = bc.length
  · rw [if_pos hC] at R3
    go_upto_region 8 with fail
    obtain ⟨X4, hX4⟩ : ∃ X4, X4 = X3.setCell ⟨z, 0, none⟩ (.slice A1 (L1 - bc.length) 0) := ⟨_, rfl⟩
    rw [← hX4]
    obtain ⟨hr4, hm4⟩ := lr_set K3.out (fun _ => rfl) R3.out HZ.out HL4.out (show L1 - bc.length ≤ 0 by have := HC.out; omega) (Nat.zero_le _)
    rw [← hX4] at hr4 hm4
    have b4 : Blk X4 w2.heap.size 88 #[.int .i64 m.ep, .int .i64 m.num, .slice A2 m.os.length c2] := Blk.mod B3.out hm4 (fun e => hzq e.symm)
    have q4 : Blk X4 w.heap.size 88 #[.int .i64 0, .int .i64 0, .slice none 0 0] := Blk.mod Q3.out hm4 hqz
    have s4 := Sl.setz S3'.out K3.out (by decide) 0 (.slice A1 (L1 - bc.length) 0)
    rw [← hX4] at s4
    have f4 := lcom_fin hr4 s4 (M3.out.trans_ hm4) q4 hqz (Nat.le_of_lt (Nat.lt_of_le_of_lt HZ.out HWS.out)) m.ep m.num
    obtain ⟨y0, y1, y2, e0, e1, e2⟩ := ccells q4
    obtain ⟨x0, x1, x2, _⟩ := ccells b4
    obtain ⟨p0, p1, p2, _⟩ := ccells (cstored (x' := .int .i64 m.ep) (y' := .int .i64 m.num) (u' := .slice A2 m.os.length c2) q4)
    have F4 := hid f4
    clear hX4 hr4 hm4 b4 q4 s4 f4 K3 R3 S3' M3 B3 Q3 z0 g0 hC
    go_wp2_with fail
    refine bodyPost_ret (by simp [results, Tryz.results120, go_sem, p0, p1, p2]; try rfl) rfl F4.out
  · rw [if_neg hC, Nat.mul_one] at R3
    go_upto_region 8 with fail
    obtain ⟨X4, hX4⟩ : ∃ X4, X4 = X3.setCell ⟨z, 0, none⟩ (.slice (A1.map (·.add bc.length)) (L1 - bc.length) (c1 - bc.length)) := ⟨_, rfl⟩
    rw [← hX4]
    obtain ⟨hr4, hm4⟩ := lr_set K3.out (fun _ => rfl) R3.out HZ.out HL4.out (show L1 - bc.length ≤ (c1 - bc.length) by have := HC.out; omega) (show (c1 - bc.length) ≤ maxLen from by have := HCM.out; omega)
    rw [← hX4] at hr4 hm4
    have b4 : Blk X4 w2.heap.size 88 #[.int .i64 m.ep, .int .i64 m.num, .slice A2 m.os.length c2] := Blk.mod B3.out hm4 (fun e => hzq e.symm)
    have q4 : Blk X4 w.heap.size 88 #[.int .i64 0, .int .i64 0, .slice none 0 0] := Blk.mod Q3.out hm4 hqz
    have s4 := Sl.setz S3'.out K3.out (by decide) 0 (.slice (A1.map (·.add bc.length)) (L1 - bc.length) (c1 - bc.length))
    rw [← hX4] at s4
    have f4 := lcom_fin hr4 s4 (M3.out.trans_ hm4) q4 hqz (Nat.le_of_lt (Nat.lt_of_le_of_lt HZ.out HWS.out)) m.ep m.num
    obtain ⟨y0, y1, y2, e0, e1, e2⟩ := ccells q4
    obtain ⟨x0, x1, x2, _⟩ := ccells b4
    obtain ⟨p0, p1, p2, _⟩ := ccells (cstored (x' := .int .i64 m.ep) (y' := .int .i64 m.num) (u' := .slice A2 m.os.length c2) q4)
    have F4 := hid f4
    clear hX4 hr4 hm4 b4 q4 s4 f4 K3 R3 S3' M3 B3 Q3 z0 g0 hC
    go_wp2_with fail
    refine bodyPost_ret (by simp [results, Tryz.results120, go_sem, p0, p1, p2]; try rfl) rfl F4.out
end Go.Proofs.YtbpnbcjgkbpmgaaGreat
