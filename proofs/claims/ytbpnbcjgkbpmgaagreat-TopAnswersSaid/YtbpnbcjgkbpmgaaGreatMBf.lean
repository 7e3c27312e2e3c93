/- A primary answers without waiting for the other site, as many times as its leash allows: of any acts. No condition. (part 32) -/
import Derived.Test.YtbpnbcjgkbpmgaaGreatMBd
import Derived.Test.YtbpnbcjgkbpmgaaGreatMBe
namespace Go.Proofs.YtbpnbcjgkbpmgaaGreat
open Go.RowKit Go.Lg Ds St
set_option linter.unusedVariables false
set_option linter.unusedSimpArgs false
attribute [local go_sem] field190
def beh (n : Nat) (l : List Cmt) : List Cmt := l.filter fun c => decide ((n : Int) < c.num)
theorem beh_snoc {n j : Nat} {l : List Cmt} {c : Cmt} (h : l[j]? = some c) : beh n (l.take (j + 1)) = beh n (l.take j) ++ (if (n : Int) < c.num then [c] else []) := by
  rw [List.take_add_one, h]
  unfold beh
  rw [List.filter_append]
  congr 1
  by_cases h1 : (n : Int) < c.num
  · simp [h1]
  · simp [h1]
def TakeIs (cs : List Cmt) (w : World) (e : Ending) (w' : World) : Prop := ∃ v ms, e = .returned (.tuple #[v, .int .i64 0]) ∧ ms.map Cm.p = cs ∧ Cl w' (fun k => w.heap.size ≤ k) v ms ∧ Below w.heap.size w w' ∧ (ms = [] → v = .slice none 0 0)
set_option maxHeartbeats 4000000 in
set_option maxRecDepth 100000 in
theorem take135 {w : World} {A A2 : Option Addr} {n c n2 c2 fr : Nat} {ms ns : List Cm} (ep pv : Int) (hcs : CS w w.heap.size A n ms) (hns : CS w w.heap.size A2 n2 ns) (hfo : fol 0 0 0 ms = (0, 0)) (hn : n ≤ 100000) (hok : Mok w w.heap.size (msgc 2 ep 0 0 nils fr pv (.slice A2 n2 c2)))
    (hn2 : n2 ≤ 4) (f1 : 1 ≤ fr) (f2 : fr ≤ 1048576) (hf : Fits ms ns fr pv) (hgap : fr - 1 ≤ n) (hcap : ∀ m ∈ ns, m.n ≤ m.c ∧ m.n ≤ 1000000) :
    Calls Tryz.prog 135 #[.int .i64 ep, .slice A n c, .agg (msgc 2 ep 0 0 nils fr pv (.slice A2 n2 c2))] w (TakeIs (beh n (ns.map Cm.p)) w) := by
  obtain ⟨W, hW⟩ : ∃ W, W = w.alloc (.cells (msgc 2 ep 0 0 nils fr pv (.slice A2 n2 c2)) 147) := ⟨_, rfl⟩
  have lW : Lat w W := by rw [hW]; exact (Lat.refl w).alloc _
  have kW : Blk W w.heap.size 147 (msgc 2 ep 0 0 nils fr pv (.slice A2 n2 c2)) := by rw [hW]; exact Blk.new _ _ _
  have hfl : ∀ X, Lat w X → Calls Tryz.prog 112 #[.int .i64 0, .int .i64 0, .slice A n c] X (Folds (0, 0) X) := fun X l => by
    have := follows37 A n c ms 0 0 X ((hcs.keep l.b).more l.size) (by omega)
    rwa [hfo] at this
  have hck : ∀ X, Lat w X → Calls Tryz.prog 121 #[.agg (msgc 2 ep 0 0 nils fr pv (.slice A2 n2 c2))] X fun e w' => e = .returned (.int .i64 0) ∧ Below X.heap.size X w' := fun X l => lcheck121 ((hok.keep l.b).more l.size)
  have hfi : ∀ X, Lat w X → Calls Tryz.prog 171 #[.slice A n c, .agg (msgc 2 ep 0 0 nils fr pv (.slice A2 n2 c2))] X (Yea X) := fun X l => fits171 ep pv ((hcs.keep l.b).more l.size) ((hns.keep l.b).more l.size) hn hn2 f1 f2 hf
  have hg : ¬((n : Int) < (fr : Int) - 1) := by omega
  have HFL := hid hfl
  have HCK := hid hck
  have HFI := hid hfi
  have HNS := hid hns
  have HL := hid lW
  have HK := hid kW
  have HCP := hid hcap
  clear lW kW hcs hns hfo hok hf hfl hck hfi hcap hgap
  go_enter Tryz.func135, Tryz.ntmps135
  go_upto_region 1 with fail
  rw [← hW]
  clear hW
  go_upto_region 2 with (go_at_call 112; (with_reducible refine (HFL.out _ HL.out).mono ?_); rintro e' w1 ⟨rfl, hb1⟩)
  obtain ⟨w2, hw2⟩ : ∃ w2, w2 = w1.alloc (.cells #[.int .i64 0, .int .i64 0] 190) := ⟨_, rfl⟩
  have l2 : Lat W w2 := by rw [hw2]; exact (Lat.mk hb1).alloc _
  have k2 : Blk w2 w1.heap.size 190 #[.int .i64 0, .int .i64 0] := by rw [hw2]; exact Blk.new w1 190 #[.int .i64 0, .int .i64 0]
  have g0 : w2.cell? ⟨w1.heap.size, 0, none⟩ = some (.int .i64 0) := k2.cell 0
  obtain ⟨c0, c1, c2', c3, c4, c5, c6, c7⟩ := mcells (l2.blk HK.out)
  have HL2 := hid l2
  first | rw [← hw2] | skip
  clear hw2 hb1 l2 k2
  go_wp2_with (first
    | (go_at_call 121; (with_reducible refine (HCK.out _ (HL.out.trans HL2.out)).mono ?_); rintro e' w3 ⟨rfl, hb3⟩; obtain ⟨d0, d1, d2, d3, d4, d5, d6, d7⟩ := mcells ((HL2.out.below hb3).blk HK.out))
    | (go_at_call 171; refine stop_ (fun Ps hPs => ?_)))
  refine hPs ?_
  clear hPs Ps d0 d1 d2 d3 d4 d5 d6 d7 c0 c1 c2' c3 c4 c5 c6 c7 g0
  refine (HFI.out _ ((HL.out.trans HL2.out).below hb3)).mono ?_
  rintro e' w4 ⟨rfl, hb4⟩
  have l4 : Lat W w4 := (HL2.out.below hb3).below hb4
  have e7 : w4.cell? ⟨w.heap.size, 7, none⟩ = some (.slice A2 n2 c2) := (l4.blk HK.out).cell 7
  have HB4 := hid (HL.out.trans l4).b
  clear hb3 hb4 l4 HFL HCK HFI HK HL2 HL hg
  go_upto_region 16 with fail
  have HML := hid HNS.out.2.1
  go_loopg [9, 53] n2 (fun g o i wr => ∃ (j : Nat) (ms' : List Cm), j ≤ n2 ∧ g = n2 - j ∧ i = .int .i64 j ∧ Hid (ms'.map Cm.p = beh n ((ns.map Cm.p).take j) ∧ ms'.length ≤ j) ∧ Hid (Cl wr (fun k => w.heap.size ≤ k) o ms' ∧ (ms' = [] → o = .slice none 0 0)) ∧ Hid (Below w.heap.size w wr))
  case atStart => exact ⟨0, [], by omega, rfl, rfl, hid ⟨by simp [beh], by simp⟩, hid ⟨Cl.nil_ _ _, fun _ => rfl⟩, HB4⟩
  case round =>
    obtain ⟨j, ms', hj, rfl, rfl, hms', hcl', hb⟩ := hrel
    obtain ⟨Ao, co, rfl, r1, r2⟩ := hcl'.out.1.row.slice_
    by_cases hlt : j < n2
    · obtain ⟨b, off, epc, num, A1, n1, k1, os, rfl, hbB, hm, hos, hn1, x0, x1, x2⟩ := (HNS.out.keep hb.out).at_ hlt
      have hji : (j : Int) < (n2 : Int) := by omega
      have hsz := hb.out.size
      have hcp1 := HCP.out _ (List.mem_of_getElem? hm)
      have hmp : (ns.map Cm.p)[j]? = some ⟨epc, num, os⟩ := by rw [List.getElem?_map, hm]; rfl
      have hbs := beh_snoc (n := n) hmp
      obtain ⟨ln, hln⟩ : ∃ ln, ln = ms'.length := ⟨_, rfl⟩
      have HLN := hid hln
      have HROW : Hid (Sl wr (fun k => w.heap.size ≤ k) 88 3 (.slice Ao ln co) ln (cmc ms')) := hid (by rw [hln]; exact hcl'.out.1.row)
      have HNI : Hid (ms' = [] → Value.slice Ao ln co = .slice none 0 0) := hid (by rw [hln]; exact hcl'.out.2)
      have HCL1 : Hid (Cl wr (fun k => w.heap.size ≤ k) (.slice Ao ln co) ms') := hid (by rw [hln]; exact hcl'.out.1)
      have hl4 : ln ≤ 4 := by have := hms'.out.2; omega
      rw [← hln]
      have HCC := hid (copy91 (w := wr.alloc (.cells (cmcs epc num A1 n1 k1) 88)) (ep := epc) (num := num) (c := k1) ((hos.keep ((Below.refl _ _).mono hsz |>.alloc hsz _)).more (by simp; omega)) hcp1.2 hcp1.1)
      have HM := hid hm
      have HOS := hid hos.2
      have HBS := hid hbs
      clear hm hos hmp hbs hcp1 hln hcl'
      by_cases hnum : (n : Int) < num
      · have HNU := hid hnum
        go_wp2_with (go_at_call 91; refine stop_ (fun Ps hPs => ?_))
        refine hPs ?_
        clear hPs Ps x0 x1 x2
        refine HCC.out.mono ?_
        rintro e' w5 ⟨A5, c5, rfl, ho5, hb5⟩
        have hl5 : Lat wr w5 := (Lat.refl wr).alloc _ |>.below hb5
        have HL5 := hid hl5
        have HO5 := hid ho5
        clear ho5 hb5 hl5 HCC hnum
        go_wp2_with (at_builtin; refine stop_ (fun Ps hPs => ?_))
        refine hPs ?_
        clear hPs Ps
        refine wpList_appS1 (c := 1) T46 (.tmp 62) (.tmp 65) rfl rfl (HROW.out.later HL5.out.b) rfl rfl rfl (by simp [Value.oneCell']) (by omega) fun v6 w6 hv6 hg6 hat6 => ?_
        have hcl6 : Cl w6 (fun k => w.heap.size ≤ k) v6 (ms' ++ [⟨epc, num, A5, n1, c5, os⟩]) := by
          have := Cl.snoc (k := n1) (v4 := v6) HCL1.out HL5.out.b (owned_less HO5.out (by simp)) HOS.out (by rw [← HLN.out]; exact hv6.to fun i hi => hi) hg6
          exact this.to fun i hi => by
            rcases hi with h | h
            · exact h
            · omega
        have hb6 : Below w.heap.size w w6 := by
          have h5 := bl_trans hb.out HL5.out.b hsz
          exact h5.grown hg6 (Nat.le_trans hsz HL5.out.size) fun g hg => (HROW.out.lt g hg).1
        have HCL6 := hid (And.intro hcl6 (show (ms' ++ [⟨epc, num, A5, n1, c5, os⟩]) = [] → v6 = .slice none 0 0 from fun h => by simp at h))
        have HB6 := hid hb6
        clear hcl6 hb6 hv6 hg6 hat6
        go_wp2_with fail
        go_roundg (n2 - (j + 1))
        case measure => omega
        case rel =>
          refine ⟨j + 1, _, by omega, rfl, by go_num, hid ⟨?_, ?_⟩, HCL6, HB6⟩
          · rw [List.map_append, hms'.out.1, HBS.out, if_pos HNU.out]; rfl
          · rw [List.length_append]; have := hms'.out.2; simp; omega
      · have HNU := hid hnum
        have l6 : Lat wr (wr.alloc (.cells (cmcs epc num A1 n1 k1) 88)) := (Lat.refl wr).alloc _
        have HCL6 := hid (And.intro (HCL1.out.later l6.b) HNI.out)
        have HB6 := hid (bl_trans hb.out l6.b hsz)
        clear l6 HCC
        go_wp2_with fail
        go_roundg (n2 - (j + 1))
        case measure => omega
        case rel =>
          refine ⟨j + 1, ms', by omega, rfl, by go_num, hid ⟨?_, ?_⟩, HCL6, HB6⟩
          · rw [hms'.out.1, HBS.out, if_neg (by have := HNU.out; omega)]; simp
          · have := hms'.out.2; omega
    · obtain rfl : j = n2 := by omega
      have HE := hid hms'.out.1
      have HC := hcl'
      go_wp2_with fail
      go_ret2
      refine ⟨_, ms', rfl, ?_, HC.out.1, hb.out, HC.out.2⟩
      rw [HE.out, List.take_of_length_le]
      rw [List.length_map]
      have := HML.out; omega
end Go.Proofs.YtbpnbcjgkbpmgaaGreat
namespace Go.Proofs.YtbpnbcjgkbpmgaaGreat
open Go.RowKit Go.Lg Ds St
set_option linter.unusedVariables false
set_option linter.unusedSimpArgs false
attribute [local go_sem] field190
def ends4 {α β γ δ : Type} (A : α → β → γ → δ → Act) (R : α → β → γ → δ → World → Prop) : Exit → Act → World → Prop
  | .normal, a, W => ∃ x1 x2 x3 x4, a = A x1 x2 x3 x4 ∧ R x1 x2 x3 x4 W
  | _, _, _ => False
theorem merge4 {α β γ δ : Type} {c : Code} {P : Program} {Q : Exit → Act → World → Prop} {a : Act} {w : World} (R : α → β → γ → δ → World → Prop) {A : α → β → γ → δ → Act} (h1 : c.wp P (ends4 A R) a w)
    (h2 : ∀ x1 x2 x3 x4 W, R x1 x2 x3 x4 W → Q .normal (A x1 x2 x3 x4) W) : c.wp P Q a w :=
  Go.wp_mono h1 fun e a W h => by
    cases e <;> first | exact h.elim | (obtain ⟨x1, x2, x3, x4, rfl, h⟩ := h; exact h2 x1 x2 x3 x4 W h)
theorem Tryz.info80 : (Tryz.prog.info? 80).map (fun i => (i.zero, i.size, i.bytes)) = some (some (.slice none 0 0), 1, 24) := by kernel_rfl
theorem T105 : SlT Tryz.prog 105 80 1 24 := SlT.mk' _ Tryz.underlying105 Tryz.info80 rfl (by decide) (by decide)
inductive Bb (w : World) (F : Fp) (v : Value) (bs : List Bys) : Prop
  | mk (vs : List Value) (row : Sl w F 80 1 v bs.length vs) (el : ∀ (j : Nat) (b : Bys), bs[j]? = some b → ∃ A c, vs[j]? = some (Value.slice A b.length c) ∧ Sl w F 5 1 (.slice A b.length c) b.length (bts b))
section
variable {w w' : World} {F G : Fp} {v : Value} {bs : List Bys}
theorem Bb.mv (h : Bb w F v bs) (m : Mv w w' F G) : Bb w' G v bs := by
  obtain ⟨vs, row, el⟩ := h
  exact ⟨vs, row.mv m, fun j b hj => by obtain ⟨A, c, h1, h2⟩ := el j b hj; exact ⟨A, c, h1, h2.mv m⟩⟩
theorem Bb.later (h : Bb w F v bs) (l : Below w.heap.size w w') : Bb w' F v bs := h.mv (bmv l F)
theorem Bb.to (h : Bb w F v bs) (m : ∀ k, F k → G k) : Bb w G v bs := h.mv (Mv.same fun k _ hk => m k hk)
theorem Bb.nil_ (w : World) (F : Fp) : Bb w F (.slice none 0 0) [] := ⟨[], Sl.nil_ _ _ _ _, fun j b h => by simp at h⟩
theorem Bb.len (h : Bb w F v bs) : ∃ A c, v = .slice A bs.length c ∧ bs.length ≤ c ∧ c ≤ maxLen := by obtain ⟨vs, row, el⟩ := h; exact row.slice_
theorem Bb.one {A : Option Addr} {b : Bys} {c : Nat} (h : Sl w F 5 1 (.slice A b.length c) b.length (bts b)) (hF : ∀ k, w.heap.size ≤ k → F k) : Bb (w.alloc (.cells #[.slice A b.length c] 80)) F (.slice (some ⟨w.heap.size, 0, none⟩) 1 1) [b] := by
  refine ⟨[.slice A b.length c], ⟨rfl, .inr ⟨w.heap.size, 0, 1, #[.slice A b.length c], rfl, hF _ (Nat.le_refl _), Blk.new _ _ _, Nat.le_refl _, by decide, by simp, by simp⟩⟩, fun j b' hj => ?_⟩
  have : j = 0 := by have := (List.getElem?_eq_some_iff.1 hj).1; simp at this; exact this
  subst this
  simp at hj
  subst hj
  exact ⟨A, c, rfl, h.alloc _⟩
theorem Bb.snoc {v8 : Value} {w8 : World} {A : Option Addr} {b : Bys} {c : Nat} {vs : List Value} (row : Sl w F 80 1 v bs.length vs) (el : ∀ (j : Nat) (b : Bys), bs[j]? = some b → ∃ A c, vs[j]? = some (Value.slice A b.length c) ∧ Sl w F 5 1 (.slice A b.length c) b.length (bts b)) (hb : Sl w F 5 1 (.slice A b.length c) b.length (bts b))
    (hv : Sl w8 (fun k => F k ∨ w.heap.size ≤ k) 80 1 v8 (bs.length + 1) (vs ++ [.slice A b.length c])) (hg : w.grownBy w8 v.ownBlock) (hF : ∀ k, w.heap.size ≤ k → F k) : Bb w8 F v8 (bs ++ [b]) := by
  have keep : ∀ {A : Option Addr} {b : Bys} {c : Nat}, Sl w F 5 1 (.slice A b.length c) b.length (bts b) → Sl w8 F 5 1 (.slice A b.length c) b.length (bts b) := fun h => by
    exact h.gb hg fun g h2 e => h.ne_sl row (by decide) g h2 e.symm
  refine ⟨vs ++ [.slice A b.length c], ?_, fun j b' hj => ?_⟩
  · rw [List.length_append, List.length_singleton]
    exact hv.to fun k hk => by
      rcases hk with h1 | h1
      · exact h1
      · exact hF k h1
  · have hl : vs.length = bs.length := by have := row.len; omega
    by_cases hj2 : j < bs.length
    · rw [List.getElem?_append_left hj2] at hj
      obtain ⟨A', c', h1, h2⟩ := el j b' hj
      exact ⟨A', c', by rw [List.getElem?_append_left (by omega)]; exact h1, keep h2⟩
    · rw [List.getElem?_append_right (by omega)] at hj
      have : j - bs.length = 0 := by have := (List.getElem?_eq_some_iff.1 hj).1; simp at this; exact this
      rw [this] at hj
      simp at hj
      subst hj
      exact ⟨A, c, by rw [List.getElem?_append_right (by omega), hl, this]; rfl, keep hb⟩
end
def hloM (ro : Nat) (cs : List Cmt) : Msg := .hello 1 ro cs.length (st1 cs.length)
def shpM (cs : List Cmt) (k : Nat) : Msg := .ship 1 (k + 1) (if k = 0 then 0 else 1) ((cs.drop k).take 4)
def dueM (ro : Nat) (cs : List Cmt) (kn : Int) : List Msg := hloM ro cs :: (if ro = 1 ∧ 0 ≤ kn then [shpM cs (min kn.toNat cs.length)] else [])
def DueIs (bs : List Bys) (w : World) (e : Ending) (w' : World) : Prop := ∃ v, e = .returned v ∧ Bb w' (fun k => w.heap.size ≤ k) v bs ∧ Below w.heap.size w w'
theorem due_alloc {w W X w2 : World} {A : Option Addr} {m c : Nat} {ms : List Cm} (hw : w.heap.size ≤ W.heap.size) (l : Lat W X) (hb : Below X.heap.size X w2) (hc : Cl w2 (fun k => X.heap.size ≤ k) (.slice A m c) ms) (cs : Array Value) :
    Lat W (w2.alloc (.cells cs 147)) ∧ Blk (w2.alloc (.cells cs 147)) w2.heap.size 147 cs ∧ Cl (w2.alloc (.cells cs 147)) (fun k => w.heap.size ≤ k) (.slice A m c) ms :=
  ⟨(l.below hb).alloc _, Blk.new _ _ _, (hc.later ((Lat.refl w2).alloc _).b).to fun k hk => Nat.le_trans hw (Nat.le_trans l.size hk)⟩
theorem due_set {w W X w2 : World} {A : Option Addr} {m c : Nat} {ms : List Cm} (hw : w.heap.size ≤ W.heap.size) (l : Lat W X) (hb : Below X.heap.size X w2) (hc : Cl w2 (fun k => X.heap.size ≤ k) (.slice A m c) ms) (kb : Blk w2 W.heap.size 147 (msgc 0 0 0 0 nils 0 0 nils)) (k ep ro en fr pv : Int) :
    Lat W (setm w2 W.heap.size k ep ro en nils fr pv (.slice A m c)) ∧ Blk (setm w2 W.heap.size k ep ro en nils fr pv (.slice A m c)) W.heap.size 147 (msgc k ep ro en nils fr pv (.slice A m c)) ∧ Cl (setm w2 W.heap.size k ep ro en nils fr pv (.slice A m c)) (fun k => w.heap.size ≤ k) (.slice A m c) ms := by
  obtain ⟨h1, h2, h3⟩ := res_set k ep ro en fr pv nils (.slice A m c) kb (l.below hb).b
  exact ⟨⟨h2⟩, h1, ((Cl.mod hc h3 (fun g hg e => hc.row.ne_blk kb (by decide) g hg e) (fun x hx g hg e => (hc.ops x hx).1.ne_blk kb (by decide) g hg e))).to fun k hk => Nat.le_trans hw (Nat.le_trans l.size hk)⟩
set_option maxHeartbeats 4000000 in
set_option maxRecDepth 100000 in
theorem nddue143 {w : World} {F : Fp} {nz dz z wz rz sz ro : Nat} {num most ac kn : Int} {cs : List Cmt} (hsb : Sb w F z dz wz rz sz ⟨1, ro, 0, 0, 0, 0⟩ cs) (hbk : Blk w nz 149 (ndc num most dz z ac kn)) (h1 : One 0 cs) (hcs : cs.length ≤ 1000) (hro : ro = 1 ∨ ro = 2) :
    Calls Tryz.prog 143 #[P nz, P z] w (DueIs ((dueM ro cs kn).map Msg.enc) w) := by
  have hop : ∀ c ∈ cs, c.os.length ≤ 8 := fun c hc => (Cmt.oks (h1.mem hc).1).2.1
  have hPG : ∀ X, Lat w X → Calls Tryz.prog 78 #[P z] X fun e w' => e = .returned (.agg #[.int .i64 1, .int .u8 (ro : Int), .int .i64 0, .int .u8 0, .int .i64 0, .int .i64 0]) ∧ Below X.heap.size X w' := fun X l => stpage78 (hsb.mv (bmv l.b _))
  have hLG : ∀ X, Lat w X → Calls Tryz.prog 136 #[P z] X (LogIs cs X) := fun X l => stlog136 (hsb.mv (bmv l.b _)) (by omega) (fun c hc => by have := hop c hc; omega)
  have HPG := hid hPG
  have HLG := hid hLG
  have HBK := hid hbk
  have H1 := hid h1
  clear hPG hLG hsb hbk hop h1
  go_enter Tryz.func143, Tryz.ntmps143
  go_upto_region 2 with (first | (go_at_call 78; (with_reducible refine (HPG.out _ (Lat.refl _)).mono ?_); rintro e' w1 ⟨rfl, hb1⟩; have l1 : Lat w w1 := ⟨hb1⟩; have HL1 := hid l1; clear l1 hb1) | (go_at_call 136; (with_reducible refine (HLG.out _ HL1.out).mono ?_); rintro e' w2 ⟨v2, ms, rfl, hms, hcl, hb2⟩; have l2 := HL1.out.below hb2; obtain ⟨A2, c2, rfl, q1, q2⟩ := hcl.row.slice_))
  obtain ⟨n, hn⟩ : ∃ n, n = ms.length := ⟨_, rfl⟩
  have hnc : n = cs.length := by rw [hn, ← hms]; simp
  rw [← hn] at hcl q1 ⊢
  obtain ⟨V, hV⟩ : ∃ V, V = w2.alloc (.cells #[.int .i64 1, .int .u8 (ro : Int), .int .i64 0, .int .u8 0, .int .i64 0, .int .i64 0] 43) := ⟨_, rfl⟩
  have lV : Lat w V := by rw [hV]; exact l2.alloc _
  have kV : Blk V w2.heap.size 43 #[.int .i64 1, .int .u8 (ro : Int), .int .i64 0, .int .u8 0, .int .i64 0, .int .i64 0] := by rw [hV]; exact Blk.new _ _ _
  have hclV : Cl V (fun k => w.heap.size ≤ k) (.slice A2 n c2) ms := by
    rw [hV]
    exact (hcl.later ((Lat.refl w2).alloc _).b).to fun k hk => Nat.le_trans HL1.out.size hk
  obtain ⟨g, hg⟩ : ∃ g, g = w2.heap.size := ⟨_, rfl⟩
  rw [← hg] at kV ⊢
  rw [← hV]
  have g0 : V.cell? ⟨g, 0, none⟩ = some (.int .i64 1) := kV.cell 0
  have g1 : V.cell? ⟨g, 1, none⟩ = some (.int .u8 (ro : Int)) := kV.cell 1
  have hmo : One 0 (ms.map Cm.p) := by rw [hms]; exact H1.out
  have htl := tl_one hmo
  rw [← hn] at htl
  have hfo := One.fol_ (i := 0) (ep := 0) hmo (by omega)
  have hep : ∀ m ∈ ms, m.ep ≤ 1 := fun m hm => by have := (hmo.mem (List.mem_map.2 ⟨m, hm, rfl⟩)).2; have e : m.ep = 1 := this; omega
  have hcsV := hclV.cs hn.symm
  have hHE := shello178 (c := c2) 1 (ro : Int) hcsV hfo (by omega) (by omega) (by omega) hep (by omega) (by omega)
  have HMS := hid (And.intro hms (And.intro hn hnc))
  have HLV := hid lV
  have HKV := hid kV
  have HCV := hid hclV
  have HFO := hid (And.intro hfo hep)
  have HMO := hid hmo
  clear hV lV kV hclV hg hmo hfo hep hcsV hcl hms hn hnc hb2 l2 HL1 HLG HPG
  rw [htl] at hHE
  have hlen : (si (st1 n)).length = (st1 n).length := by simp [si]
  rw [hlen] at hHE
  have HTL := hid htl
  clear htl hlen
  go_upto_region 3 with (go_at_call 178; (with_reducible refine hHE.mono ?_); rintro e' w3 ⟨A3, c3, rfl, ho3, hb3⟩)
  have hn9 : n ≤ 1000 := by have := HMS.out.2.2; omega
  obtain ⟨w4, hw4⟩ : ∃ w4, w4 = w3.alloc (.cells (msgc 1 1 (ro : Int) (n : Int) (.slice A3 (st1 n).length c3) 0 0 nils) 147) := ⟨_, rfl⟩
  have l34 : Lat w3 w4 := by rw [hw4]; exact (Lat.refl w3).alloc _
  have k4 : Blk w4 w3.heap.size 147 (msgc 1 1 (ro : Int) (n : Int) (.slice A3 (st1 n).length c3) 0 0 nils) := by rw [hw4]; exact Blk.new _ _ _
  have lV4 : Lat V w4 := (Lat.mk hb3).trans l34
  have hss : SS w4 w4.heap.size A3 (st1 n).length (si (st1 n)) := ⟨Rd.of_own (owned_later ho3 l34.b), by simp [si]⟩
  have hen := encode_hello (w := w4) 1 ro n (c := c3) hss (st1_ok n (by omega)) (by omega) (by omega) (fun h => st1_last n h) (by have := st1_len n; omega) (by omega) (by omega) (by omega) (st1_sm n)
  rw [← hw4]
  obtain ⟨c0, c1, c2', c3', c4, c5, c6, c7⟩ := mcells k4
  have HV4 := hid lV4
  clear hw4 l34 k4 lV4 hss hb3 ho3 hHE g0 g1
  go_wp2_with (go_at_call 139; refine stop_ (fun Ps hPs => ?_))
  refine hPs ?_
  clear hPs Ps c0 c1 c2' c3' c4 c5 c6 c7
  refine hen.mono ?_
  rintro e' w5 ⟨A5, c5, rfl, hs5, hb5⟩
  obtain ⟨bh, hbh⟩ : ∃ bh, bh = (Msg.hello 1 ro n (st1 n)).enc := ⟨_, rfl⟩
  rw [← hbh] at hs5 ⊢
  have HBH : Hid (bh = (hloM ro cs).enc) := hid (by rw [hbh]; unfold hloM; rw [HMS.out.2.2])
  have hw5 : w.heap.size ≤ w4.heap.size := (HLV.out.trans HV4.out).size
  have hs5w : Sl w5 (fun k => w.heap.size ≤ k) 5 1 (.slice A5 bh.length c5) bh.length (bts bh) := hs5.to fun k hk => Nat.le_trans hw5 hk
  have hone := Bb.one hs5w (fun k hk => Nat.le_trans (Nat.le_trans hw5 hb5.size) hk)
  have l5 : Lat V w5 := HV4.out.below hb5
  obtain ⟨W, hW⟩ : ∃ W, W = w5.alloc (.cells #[.slice A5 bh.length c5] 80) := ⟨_, rfl⟩
  have lW : Lat V W := by rw [hW]; exact l5.alloc _
  rw [← hW] at hone
  have kgW := lW.blk HKV.out
  have g1 : W.cell? ⟨g, 1, none⟩ = some (.int .u8 (ro : Int)) := kgW.cell 1
  have g0 : W.cell? ⟨g, 0, none⟩ = some (.int .i64 1) := kgW.cell 0
  obtain ⟨n0, n1, n2, n3, n4, n5⟩ := ndcells ((HLV.out.trans lW).blk HBK.out)
  have HLW := hid lW
  have HONE := hid hone
  have HKG := hid kgW
  clear hbh hs5 hs5w hone lW kgW hw5 l5 hb5 HV4 hen
  go_upto_region 5 with fail
  rw [← hW]
  clear hW
  by_cases hdo : ro = 1 ∧ 0 ≤ kn
  case neg =>
    have HDO := hid hdo
    rcases hro with rfl | rfl
    case inl =>
      have hk0 : ¬(0 ≤ kn) := fun h => hdo ⟨rfl, h⟩
      clear hdo
      go_wp2_with fail
      all_goals try omega
      go_ret
      refine ⟨_, rfl, ?_, (HLV.out.trans HLW.out).b⟩
      rw [show (dueM 1 cs kn).map Msg.enc = [bh] by rw [HBH.out]; unfold dueM; rw [if_neg (fun h => HDO.out (by first | exact h | exact h.2 | exact ⟨trivial, h.2⟩))]; rfl]
      exact HONE.out
    case inr =>
      clear hdo
      go_wp2_with fail
      go_ret
      refine ⟨_, rfl, ?_, (HLV.out.trans HLW.out).b⟩
      rw [show (dueM 2 cs kn).map Msg.enc = [bh] by rw [HBH.out]; unfold dueM; rw [if_neg (fun h => HDO.out (by first | exact h | exact h.2 | exact ⟨trivial, h.2⟩))]; rfl]
      exact HONE.out
  case pos =>
    obtain ⟨rfl, hk0⟩ := hdo
    obtain ⟨k0, rfl⟩ : ∃ k0 : Nat, kn = k0 := ⟨kn.toNat, by omega⟩
    clear hro hk0
    obtain ⟨km, hkm⟩ : ∃ km, km = min k0 n := ⟨_, rfl⟩
    have hkn : km ≤ n := by omega
    have hNX : ∀ X, Lat W X → Calls Tryz.prog 179 #[.int .i64 1, .slice A2 n c2, .int .i64 (km : Int)] X (NextIs 1 km ms X) := fun X l =>
      have hc := HCV.out.later (HLW.out.trans l).b
      have hrow : Sl X (fun k => w.heap.size ≤ k) 88 3 (.slice A2 n c2) n (cmc ms) := by have := hc.row; rwa [← HMS.out.2.1] at this
      snext179 (c := c2) 1 (hc.cs HMS.out.2.1.symm) hrow.cap.1 hrow.cap.2 (fun m hm => (hc.ops m hm).1.cap.1) HFO.out.1 (by omega) (by omega) (by omega) HFO.out.2 hkn (fun m hm => by
        have h8 := (Cmt.oks (HMO.out.mem (List.mem_map.2 ⟨m, hm, rfl⟩)).1).2.1
        have e : m.os.length = m.n := (hc.ops m hm).2
        have e2 : m.p.os = m.os := rfl
        rw [e2] at h8
        omega)
    have HNX := hid hNX
    have HKM := hid hkm
    have hif : (if n < k0 then (n : Int) else (k0 : Int)) = (km : Int) := by split <;> omega
    clear hNX hkm
    go_upto_region 6 with fail
    refine' merge4 (fun (Y : World) (A : Option Addr) (m c : Nat) X => ∃ ms2, ms2.length = m ∧ Lat W X ∧ Blk X Y.heap.size 147 (msgc 2 1 0 0 nils ((km : Int) + 1) (pvOf ms km) (.slice A m c)) ∧ ms2.map Cm.p = ((ms.map Cm.p).drop km).take 4 ∧ Cl X (fun k => w.heap.size ≤ k) (.slice A m c) ms2) ?h1 (fun Y A m c w6 h6 => ?h2)
    case h1 =>
      obtain ⟨W', hW'⟩ : ∃ W', W' = W := ⟨_, rfl⟩
      rw [← hW'] at HNX HKG HLW g0 g1 n0 n1 n2 n3 n4 n5 ⊢
      clear hW'
      have kz1 : Blk (W'.alloc (.cells (msgc 0 0 0 0 nils 0 0 nils) 147)) W'.heap.size 147 (msgc 0 0 0 0 nils 0 0 nils) := Blk.new _ _ _
      have KZ := hid kz1
      have hwW := (HLV.out.trans HLW.out).size
      have n5z : (W'.alloc (.cells (msgc 0 0 0 0 nils 0 0 nils) 147)).cell? ⟨nz, 5, none⟩ = some (.int .i64 (k0 : Int)) := (ndcells (((HLV.out.trans HLW.out).alloc _).blk HBK.out)).2.2.2.2.2
      have g0z : (W'.alloc (.cells (msgc 0 0 0 0 nils 0 0 nils) 147)).cell? ⟨g, 0, none⟩ = some (.int .i64 1) := (HKG.out.alloc _).cell 0
      clear kz1
      go_region_law ((go_simp; go_at_call 179; (with_reducible refine (HNX.out _ (by repeat (first | exact Lat.refl _ | refine Lat.drew ?_ | refine Lat.drewN ?_ _ | refine Lat.alloc ?_ _))).mono ?_); rintro e2 w2 ⟨v2, ms2, rfl, hms2, hcl2, hb2⟩; obtain ⟨A6, m6, c6, hv2, hm6⟩ : ∃ A m c, v2 = .slice A m c ∧ ms2.length = m := (by obtain ⟨A, c, h, _⟩ := hcl2.row.slice_; exact ⟨A, _, c, h, rfl⟩); subst hv2; (try (first | have kb := (KZ.out.later (below_drew _)).later hb2 | have kb := KZ.out.later hb2 | have kb := (Blk.new W'.drew 147 (msgc 0 0 0 0 nils 0 0 nils)).later hb2 | have kb := ((Blk.new W'.drew 147 (msgc 0 0 0 0 nils 0 0 nils)).later (below_drew _)).later hb2); have kb' : Blk w2 W'.heap.size 147 (msgc 0 0 0 0 nils 0 0 nils) := kb; obtain ⟨b0, b1, b2, b3, b4, b5, b6, b7⟩ := mcells kb'; obtain ⟨f0, f1, f2, f3, f4, f5, f6, f7⟩ := mfroz kb')))
      all_goals
        first
        | (have hz := due_alloc hwW (by repeat (first | exact Lat.refl _ | refine Lat.drew ?_ | refine Lat.drewN ?_ _ | refine Lat.alloc ?_ _)) hb2 hcl2 (msgc 2 1 0 0 nils ((km : Int) + 1) (pvOf ms km) (.slice A6 m6 c6)); refine ⟨w2, A6, m6, c6, rfl, ms2, hm6, ?_, ?_, hms2, ?_⟩; with_reducible exact hz.1; with_reducible exact hz.2.1; with_reducible exact hz.2.2)
        | (have hz := due_set hwW (by repeat (first | exact Lat.refl _ | refine Lat.drew ?_ | refine Lat.drewN ?_ _ | refine Lat.alloc ?_ _)) hb2 hcl2 kb' 2 1 0 0 ((km : Int) + 1) (pvOf ms km); refine ⟨W', A6, m6, c6, rfl, ms2, hm6, ?_, ?_, hms2, ?_⟩; with_reducible exact hz.1; with_reducible exact hz.2.1; with_reducible exact hz.2.2)
    case h2 =>
      obtain ⟨ms2, hm2, l6, k6, hms2, hcl6⟩ := h6
      obtain ⟨y, hy⟩ : ∃ y, y = Y.heap.size := ⟨_, rfl⟩
      rw [← hy] at k6 ⊢
      have ho2 : One km (ms2.map Cm.p) := by
        rw [hms2]
        have := (HMO.out.drop km).take 4
        rwa [Nat.zero_add] at this
      have hml : m ≤ 4 := by rw [← hm2, ← List.length_map (f := Cm.p), hms2, List.length_take]; omega
      have hpv : pvOf ms km = (((if km = 0 then 0 else 1 : Nat)) : Int) := by
        unfold pvOf
        by_cases h0 : km = 0
        · rw [if_pos h0, if_pos h0]; rfl
        · rw [if_neg h0, if_neg h0]
          have hl : km - 1 < ms.length := by have := HMS.out.2.1; omega
          rw [List.getElem?_eq_getElem hl]
          have := (HMO.out.mem (List.mem_map.2 ⟨ms[km - 1], List.getElem_mem hl, rfl⟩)).2
          have e : (ms[km - 1]).ep = 1 := this
          simp [e]
      obtain ⟨pv, hpv2⟩ : ∃ pv : Nat, pv = (if km = 0 then 0 else 1) := ⟨_, rfl⟩
      rw [← hpv2] at hpv
      rw [hpv] at k6
      have hpc : pv ≤ 1 ∧ (pv = 0 ↔ km = 0) := by rw [hpv2]; split <;> omega
      have hen2 : ∀ X, Lat w6 X → Calls Tryz.prog 139 #[.agg (msgc 2 1 0 0 nils ((km : Int) + 1) (pv : Int) (.slice A m c))] X (EncM (Msg.ship 1 (km + 1) pv (ms2.map Cm.p)).enc X) := fun X l => by
        have hc := hcl6.later l.b
        have := encode_ship (w := X) 1 (km + 1) pv (c := c) (hc.cs hm2) (fun m hm => (hc.ops m hm).1.cap.1) (by omega) (by omega) hpc.1 (by omega) hml (by have h9 := One.fol_ (i := 0) (ep := (pv : Int)) ho2 (by omega); rw [show ((km + 1 : Nat) : Int) - 1 = (km : Int) by omega]; exact h9) (fun m hm => by have e := (ho2.mem (List.mem_map.2 ⟨m, hm, rfl⟩)).2; have e' : m.ep = 1 := e; omega) (by omega) (by omega)
        rw [show ((km + 1 : Nat) : Int) = (km : Int) + 1 from rfl] at this
        exact this
      obtain ⟨c0, c1, c2', c3', c4, c5', c6, c7⟩ := mcells k6
      have HEN := hid hen2
      have HL6 := hid l6
      have HM2 := hid (And.intro hms2 (And.intro hpv2 HKM.out))
      have hB6 := HONE.out.later l6.b
      have HB6 := hid hB6
      clear hy ho2 hpv hpc hen2 l6 k6 hcl6 hms2 hm2 hml hpv2 hB6 HONE g0 g1 n0 n1 n2 n3 n4 n5 hif
      go_upto_region 9 with (go_at_call 139; (with_reducible refine (HEN.out _ (Lat.refl _)).mono ?_); rintro e' w7 ⟨A7, c7', rfl, hs7, hb7⟩)
      clear c0 c1 c2' c3' c4 c5' c6 c7
      obtain ⟨b7, hb7'⟩ : ∃ b7, b7 = (Msg.ship 1 (km + 1) pv (ms2.map Cm.p)).enc := ⟨_, rfl⟩
      rw [← hb7'] at hs7 ⊢
      have hws : w.heap.size ≤ w6.heap.size := (HLV.out.trans (HLW.out.trans HL6.out)).size
      have hs7w : Sl w7 (fun k => w.heap.size ≤ k) 5 1 (.slice A7 b7.length c7') b7.length (bts b7) := hs7.to fun k hk => Nat.le_trans hws hk
      obtain ⟨vs, row, el⟩ := HB6.out.later hb7
      have row' : Sl w7 (fun k => w.heap.size ≤ k) 80 1 (.slice (some ⟨w5.heap.size, 0, none⟩) 1 1) 1 vs := row
      have HROW := hid row'
      have HRW := hid row
      have HEL := hid el
      have HS7 := hid hs7w
      have HB7 := hid (And.intro hb7 hws)
      have HBB := hid hb7'
      clear row row' el hs7 hs7w hb7 hb7' hws HB6
      go_wp2_with (at_builtin; refine stop_ (fun Ps hPs => ?_))
      refine hPs ?_
      clear hPs Ps
      refine wpList_appS1 (c := 1) T105 (.tmp 67) (.tmp 69) rfl rfl HROW.out rfl rfl rfl (by simp [Value.oneCell']) (by omega) fun v8 w8 hv8 hg8 hat8 => ?_
      have hlw7 : w.heap.size ≤ w7.heap.size := Nat.le_trans HB7.out.2 HB7.out.1.size
      have hbb := Bb.snoc (bs := [bh]) (v8 := v8) HRW.out HEL.out HS7.out hv8 hg8 (fun k hk => Nat.le_trans hlw7 hk)
      have h8 : Below w.heap.size w w8 := ((HLV.out.trans (HLW.out.trans HL6.out)).below HB7.out.1).b.grown hg8 hlw7 fun g hg => (HROW.out.lt g hg).1
      have HBF := hid hbb
      have H8 := hid h8
      clear hbb h8 hv8 hg8 hat8
      go_wp2_with fail
      go_ret
      refine ⟨_, rfl, ?_, H8.out⟩
      rw [show (dueM 1 cs (k0 : Int)).map Msg.enc = [bh] ++ [b7] by
        rw [HBH.out, HBB.out, HM2.out.1, HM2.out.2.1, HMS.out.1]
        have hk := HM2.out.2.2
        rw [HMS.out.2.2] at hk
        unfold dueM
        rw [if_pos ⟨rfl, by omega⟩, Int.toNat_natCast, ← hk]
        rfl]
      exact HBF.out
end Go.Proofs.YtbpnbcjgkbpmgaaGreat
