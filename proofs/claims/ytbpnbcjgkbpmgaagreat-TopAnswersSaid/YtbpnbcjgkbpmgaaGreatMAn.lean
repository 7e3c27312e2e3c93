/- A primary answers without waiting for the other site, as many times as its leash allows: of any acts. No condition. (part 14) -/
import Derived.Deep.RegionLaw
import Derived.Deep.RegionHeld3
import Derived.Test.YtbpnbcjgkbpmgaaGreatMAj
import Derived.Test.YtbpnbcjgkbpmgaaGreatMAm
namespace Go.Proofs.YtbpnbcjgkbpmgaaGreat
open Go.RowKit Go.Lg Ds St
set_option linter.unusedVariables false
set_option linter.unusedSimpArgs false
theorem sl_at {w : World} {F : Fp} {e : TypeId} {sz n : Nat} {v : Value} {xs : List Value} (h : Sl w F e sz v n xs) (k : Nat) (hk : v.ownBlock = some k) : ∃ c, w.heap[k]? = some (.cells c e) := by
  rcases h.2 with ⟨rfl, _⟩ | ⟨g, off, cap, cur, rfl, _, hg, _⟩
  · cases hk
  · simp only [Value.ownBlock, Option.some.injEq] at hk
    subst hk
    exact ⟨_, hg⟩
theorem Tb.gb {w w' : World} {F : Fp} {z n : Nat} {f : Tab} {row : Option Nat} (h : Tb w F z n f) (hg : w.grownBy w' row) (hr : ∀ g, row = some g → ∃ c e, w.heap[g]? = some (.cells c e) ∧ e ≠ 134) : Tb w' F z n f := by
  obtain ⟨b, D, inz, inb, blk, own, hD⟩ := h
  refine ⟨b, D, inz, inb, blk.gb hg fun e => ?_, own.kept hg fun e => ?_, hD⟩
  · obtain ⟨c, e, h1, h2⟩ := hr z e.symm
    unfold Blk at blk
    rw [h1] at blk
    injection blk with blk
    injection blk with _ blk
    exact h2 blk
  · obtain ⟨c, e, h1, _⟩ := hr b e.symm
    obtain ⟨es, clock, h3, _⟩ := own
    rw [h1] at h3
    cases h3
def TF (w : World) (F : Fp) (z : Nat) : Fp := fun k => F k ∧ (k = z ∨ ∃ es clock, w.heap[k]? = some (.map es clock))
theorem Tb.narrow {w : World} {F : Fp} {z n : Nat} {f : Tab} (h : Tb w F z n f) : Tb w (TF w F z) z n f := by
  obtain ⟨b, D, inz, inb, blk, own, hD⟩ := h
  refine ⟨b, D, ⟨inz, .inl rfl⟩, ⟨inb, .inr ?_⟩, blk, own, hD⟩
  obtain ⟨es, clock, h3, _⟩ := own
  exact ⟨es, clock, h3⟩
theorem Tb.to {w : World} {F G : Fp} {z n : Nat} {f : Tab} (h : Tb w F z n f) (hG : ∀ k, F k → G k) : Tb w G z n f := h.mv (Mv.same fun k _ hk => hG k hk)
theorem tf_blk {w : World} {F : Fp} {z g : Nat} {t : TypeId} {cs cz : Array Value} (hz : Blk w z 134 cz) (h : Blk w g t cs) (ht : t ≠ 134) : ¬TF w F z g := by
  rintro ⟨_, rfl | ⟨es, clock, h3⟩⟩
  · unfold Blk at hz h
    rw [h] at hz
    injection hz with hz
    injection hz with _ hz
    exact ht hz
  · unfold Blk at h
    rw [h] at h3
    cases h3
theorem tf_sl {w : World} {F G : Fp} {z sz n : Nat} {e : TypeId} {v : Value} {xs : List Value} {cz : Array Value} (hz : Blk w z 134 cz) (h : Sl w G e sz v n xs) (ht : e ≠ 134) : ∀ g, v.ownBlock = some g → ¬TF w F z g := fun g hg => by
  obtain ⟨c, hc⟩ := sl_at h g hg
  exact tf_blk hz (t := e) (cs := c) hc ht
theorem Cl.mod {w w' : World} {F R : Fp} {v : Value} {ms : List Cm} (h : Cl w F v ms) (m : Mod R w w') (h1 : ∀ g, v.ownBlock = some g → ¬R g) (h2 : ∀ x ∈ ms, ∀ g, (Value.slice x.A x.n x.c).ownBlock = some g → ¬R g) : Cl w' F v ms :=
  ⟨h.row.mod m h1, fun x hx => ⟨(h.ops x hx).1.mod m (h2 x hx), (h.ops x hx).2⟩⟩
theorem Cl.tf {w w' : World} {F G : Fp} {z : Nat} {v : Value} {ms : List Cm} {cz : Array Value} (h : Cl w G v ms) (hz : Blk w z 134 cz) (m : Mod (TF w F z) w w') : Cl w' G v ms :=
  h.mod m (tf_sl hz h.row (by decide)) fun x hx => tf_sl hz (h.ops x hx).1 (by decide)
theorem stake_mid {w w6 w8 : World} {F : Fp} {z rz tz n B : Nat} {cs : List Cmt} {ms : List Cm} {v v8 : Value} {ep num : Int} {A6 : Option Addr} {k c6 : Nat} {os : List Op3} {o : Obj} (inz : F z) (blk : Blk w z 256 #[P tz, P rz, v]) (tb : Tb w F tz n (tabOf cs)) (cl : Cl w F v ms)
    (lX : Lat w w6) (hB : w.heap.size ≤ B) (ho6 : w6.ownsRow B 77 3 (.slice A6 k c6) k (opc os)) (hl : os.length = k) (hv8 : Sl w8 (fun i => F i ∨ (w6.alloc o).heap.size ≤ i) 88 3 v8 (ms.length + 1) (cmc ms ++ [.int .i64 ep, .int .i64 num, .slice A6 k c6]))
    (hg8 : (w6.alloc o).grownBy w8 v.ownBlock) : Blk (w8.setCell ⟨z, 2, none⟩ v8) z 256 #[P tz, P rz, v8] ∧ Cl (w8.setCell ⟨z, 2, none⟩ v8) (fun i => F i ∨ w.heap.size ≤ i) v8 (ms ++ [⟨ep, num, A6, k, c6, os⟩]) ∧ Tb (w8.setCell ⟨z, 2, none⟩ v8) F tz n (tabOf cs) ∧ Mod F w (w8.setCell ⟨z, 2, none⟩ v8) := by
  have lY : Lat w (w6.alloc o) := lX.alloc o
  have hz : Blk (w6.alloc o) z 256 #[P tz, P rz, v] := lY.blk blk
  have hne : ∀ g, v.ownBlock = some g → g ≠ z := cl.row.ne_blk blk (by decide)
  have k8 : Blk w8 z 256 #[P tz, P rz, v] := hz.gb hg8 fun e => hne z e.symm rfl
  have clY : Cl (w6.alloc o) F v ms := cl.later lY.b
  have tY : Tb (w6.alloc o) F tz n (tabOf cs) := tb.mv (bmv lY.b F)
  have t8 : Tb w8 F tz n (tabOf cs) := tY.gb hg8 fun g hg => by
    obtain ⟨c, hc⟩ := sl_at clY.row g hg
    exact ⟨c, 88, hc, by decide⟩
  have cl8 := Cl.snoc (k := k) cl lY.b (owned_less (ho6.alloc o) hB) hl hv8 hg8
  refine ⟨k8.set_ 2 v8, cl8.setz k8 (by decide) (by decide) 2 v8, ?_, field_mod (t := 256) (cs := #[]) cl.row inz lY hg8⟩
  exact t8.gb (gb_setCell (p := ⟨z, 2, none⟩) v8 (World.grownBy.refl w8 (some z))) fun g hg => by
    injection hg with hg
    subst hg
    exact ⟨_, 256, k8, by decide⟩
theorem stake_end {w w7 : World} {F : Fp} {z rz tz n n' : Nat} {cs' : List Cmt} {ms : List Cm} {v : Value} {f : Tab} (inz : F z) (blk : Blk w z 256 #[P tz, P rz, v]) (tb : Tb w F tz n f) (cl : Cl w F v ms) (hms : ms.map Cm.p = cs')
    (ht : Tb w7 (TF w F tz) tz n' (tabOf cs')) (hm : Mod (TF w F tz) w w7) : Sr w7 F z rz n' cs' := by
  obtain ⟨b, D, inz', inb, blk', own, hD⟩ := tb
  exact ⟨tz, v, ms, inz, hm.blk blk (tf_blk blk' blk (by decide)), ht.to fun k hk => hk.1, hms, cl.tf blk' hm⟩
def STook (F : Fp) (z rz n : Nat) (cs : List Cmt) (w : World) (e : Ending) (w' : World) : Prop :=
  (∃ v, e = .returned v) ∧ ∃ F', Sr w' F' z rz n cs ∧ Mod F w w' ∧ Sub w F F'
set_option maxHeartbeats 2000000 in
set_option maxRecDepth 100000 in
theorem stake187 {w : World} {F G : Fp} {z rz n : Nat} {cs : List Cmt} (h : Sr w F z rz n cs) {ep num : Int} {A : Option Addr} {k c : Nat} {os : List Op3} (ho : RdF w G 3 A k (opc os)) (hl : os.length = k) (hd : Dj G F) (hok : ∀ o ∈ os, o.ok)
    (hk : k ≤ 8) (hkc : k ≤ c) (hn : n ≤ 1000000) (hcs : cs.length ≤ 100000) : Calls Tryz.prog 187 #[P z, cmv ep num A k c] w (STook F z rz (n + k) (cs ++ [⟨ep, num, os⟩]) w) := by
  obtain ⟨tz, v, ms, inz, blk, tb, hms, cl⟩ := h
  obtain ⟨Ar, cr, rfl, q1, q2⟩ := cl.row.slice_
  have hml : ms.length ≤ 100000 := by have : ms.length = cs.length := by rw [← hms]; simp
                                      omega
  obtain ⟨W, hW⟩ : ∃ W, W = w.alloc (.cells (cmcs ep num A k c) 88) := ⟨_, rfl⟩
  have lW : Lat w W := by rw [hW]; exact (Lat.refl w).alloc _
  have kW : Blk W w.heap.size 88 (cmcs ep num A k c) := by rw [hW]; exact Blk.new _ _ _
  have blkW := lW.blk blk
  obtain ⟨c0, c1, c2⟩ := scells blkW
  have b0 : W.cell? ⟨w.heap.size, 0, none⟩ = some (.int .i64 ep) := kW.cell 0
  have b1 : W.cell? ⟨w.heap.size, 1, none⟩ = some (.int .i64 num) := kW.cell 1
  have b2 : W.cell? ⟨w.heap.size, 2, none⟩ = some (.slice A k c) := kW.cell 2
  have HCP := hid (copy91 (w := W.drew) (ep := ep) (num := num) (c := c) (os := os) (A := A) (k := k) ⟨((ho.mv (bmv lW.b G)).rd (by decide)), hl⟩ (by omega) hkc)
  have HBL := hid blkW
  have HCL := hid (cl.later lW.b)
  have HLW := hid lW
  have HKW := hid kW
  have hrow : Sl W F 88 3 (.slice Ar ms.length cr) ms.length (cmc ms) := (cl.later lW.b).row
  have hlt : ∀ g, (Value.slice Ar ms.length cr).ownBlock = some g → g < w.heap.size := fun g hg => (cl.row.lt g hg).2
  have hwz : w.heap.size ≠ z := by have := blk.lt; omega
  have HIN := hid inz
  have HB0 := hid blk
  have HTB := hid tb
  have HC0 := hid cl
  have HL := hid hl
  have HRD := hid ho
  have HD := hid hd
  have HOK := hid hok
  have HMS := hid hms
  have hnez : ∀ g, (Value.slice Ar ms.length cr).ownBlock = some g → g ≠ z := cl.row.ne_blk blk (by decide)
  clear cl lW kW blkW tb blk ho hl hd hok hms
  go_enter Tryz.func187, Tryz.ntmps187
  go_upto_region 1 with fail
  rw [← hW]
  clear hW
  go_region_law
    (first
    | (go_simp; go_at_call 91; (with_reducible refine HCP.out.mono ?_); rintro e6 w6 ⟨A6, c6, rfl, ho6, hb6⟩; have z26 : w6.cell? ⟨z, 2, none⟩ = some (.slice Ar ms.length cr) := ((HBL.out.later (w' := W.drew) (below_drew W)).later hb6).cell 2; have z26a : (w6.alloc (.cells (cmcs ep num A6 k c6) 88)).cell? ⟨z, 2, none⟩ = some (.slice Ar ms.length cr) := (((HBL.out.later (w' := W.drew) (below_drew W)).later hb6).alloc _).cell 2; have hsl6 : Sl w6 F 88 3 (.slice Ar ms.length cr) ms.length (cmc ms) := (hrow.later (below_drew W)).later hb6)
    | (refine step_appS (c := 1) T46 (.tmp 8) (.tmp 11) rfl (by rfl) (hsl6.alloc _) (by go_simp) (RdF.lit w6 (cmcs ep num A6 k c6) 88 1 3 rfl) (by go_simp) (by simp [Value.oneCell']) (by omega) ?_; intro v8 w8 hv8 hg8 hat8; obtain ⟨A8, c8, rfl, _, _⟩ := hv8.slice_; have k8 : Blk w8 z 256 #[P tz, P rz, .slice Ar ms.length cr] := ((((HBL.out.later (w' := W.drew) (below_drew W)).later hb6).alloc _).gb hg8 fun e => hnez z e.symm rfl); have z28 : w8.cell? ⟨z, 2, none⟩ = some (.slice Ar ms.length cr) := k8.cell 2; have f28 : w8.frozen? ⟨z, 2, none⟩ = false := k8.frozen 2))
  all_goals
    have hmid := stake_mid (k := k) (o := .cells (cmcs ep num A6 k c6) 88) HIN.out HB0.out HTB.out HC0.out (HLW.out.drew.below hb6) HLW.out.drew.size ho6 HL.out hv8 hg8
    have kb9 := ((((HKW.out.later (w' := W.drew) (below_drew W)).later hb6).alloc (.cells (cmcs ep num A6 k c6) 88)).gb hg8 fun e => (Nat.ne_of_lt (hlt _ e.symm)) rfl).far (p := ⟨z, 2, none⟩) hwz (.slice A8 (ms.length + 1) c8)
    obtain ⟨W9, hW9⟩ : ∃ W9, W9 = w8.setCell ⟨z, 2, none⟩ (.slice A8 (ms.length + 1) c8) := ⟨_, rfl⟩
    rw [← hW9] at hmid kb9 ⊢
    clear hW9 hv8 hg8 hat8 z26 z26a hsl6 z28 f28 k8 ho6 hb6
    obtain ⟨k9, cl9, tb9, m9⟩ := hmid
    obtain ⟨y0, y1, y2⟩ := scells k9
    have yb : W9.cell? ⟨w.heap.size, 2, none⟩ = some (.slice A k c) := kb9.cell 2
    have tbD : Tb W9.drew (fun i => F i ∨ w.heap.size ≤ i) tz n (tabOf cs) := (tb9.to (G := fun i => F i ∨ w.heap.size ≤ i) fun i hi => .inl hi).mv (bmv (below_drew W9) _)
    have rdD : RdF W9.drew (fun i => G i ∧ i < w.heap.size) 3 A k (opc os) := HRD.out.mv fun i hi hg => ⟨⟨hg, hi⟩, m9.block i hi fun hf => HD.out i hg hf⟩
    have HAP := hid (tapply33 (c := c) tbD.narrow rdD HL.out (fun i a b => by
      rcases b.1 with h | h
      · exact HD.out i a.1 h
      · have := a.2; omega) HOK.out (by omega))
    have HTD := hid tbD
    have HCD := hid (cl9.later (w' := W9.drew) (below_drew W9))
    have HKD := hid k9
    have HM9 := hid m9
    clear tbD rdD cl9 k9 m9 tb9 kb9
    go_wp2_with fail
    go_region_law
      (go_simp; go_at_call 33; (with_reducible refine HAP.out.mono ?_); rintro e7 w7 ⟨rfl, ht7, hm7⟩)
    all_goals go_wp2_with fail
    all_goals
      refine bodyPost_ret (results_none rfl _ _ _) rfl ?_
      refine ⟨⟨_, rfl⟩, _, stake_end (w := W9.drew) (.inl HIN.out) HKD.out HTD.out HCD.out (by simp [HMS.out, Cm.p]) (by rw [tabOf_snoc]; exact ht7) hm7, ?_, fun i hi => hi⟩
      exact (HM9.out.trans_ (Mod.drewN F W9 1)).trans hm7 fun i hi => by
        rcases hi.1 with h | h
        · exact .inl h
        · exact .inr h
end Go.Proofs.YtbpnbcjgkbpmgaaGreat
namespace Go.Proofs.YtbpnbcjgkbpmgaaGreat
open Go.RowKit Go.Lg Ds St
set_option linter.unusedVariables false
structure Ro (w : World) (F : Fp) (A : Option Addr) (n c : Nat) (xs : List Value) : Prop where
  rdf : RdF w F 3 A n xs
  cap : n ≤ c ∧ c ≤ maxLen
section
variable {w w' : World} {F G : Fp} {A : Option Addr} {n c : Nat} {xs : List Value}
theorem Ro.mv (h : Ro w F A n c xs) (m : Mv w w' F G) : Ro w' G A n c xs := ⟨h.rdf.mv m, h.cap⟩
theorem Ro.later (h : Ro w F A n c xs) (l : Below w.heap.size w w') : Ro w' F A n c xs := h.mv (bmv l F)
theorem Ro.to (h : Ro w F A n c xs) (m : ∀ k, F k → G k) : Ro w G A n c xs := h.mv (Mv.same fun k _ hk => m k hk)
theorem Sl.ro (h : Sl w F 77 3 (.slice A n c) n xs) : Ro w F A n c xs := ⟨h.rdf, h.cap⟩
end
theorem rcheck {W : World} {F : Fp} {A : Option Addr} {c : Nat} {l : List Op3} (x1 x2 : Int) (h : Ro W F A l.length c (opc l)) (hn : l.length ≤ 9223372036854775807) : Calls Tryz.prog 161 #[.agg #[.int .i64 x1, .int .i64 x2, .slice A l.length c]] W fun e w' => e = .returned (.int .i64 (Cmt.mk x1 x2 l).k) ∧ Below W.heap.size W w' := by
  exact commit41 ⟨x1, x2, A, l.length, c, l⟩ W ⟨h.rdf.rd (by decide), rfl⟩ hn
end Go.Proofs.YtbpnbcjgkbpmgaaGreat
namespace Go.Proofs.YtbpnbcjgkbpmgaaGreat
open Go.RowKit Go.Lg St Ea
set_option linter.unusedVariables false
set_option linter.unusedSimpArgs false
def NotCells (W : World) (row : Option Nat) : Prop := ∀ r, row = some r → ∃ o : Obj, W.heap[r]? = some o ∧ o.isCells = false
theorem Blk.notc {W W' : World} {row : Option Nat} {g : Nat} {t : TypeId} {cs : Array Value} (h : Blk W g t cs) (hg : W.grownBy W' row) (hr : NotCells W row) : Blk W' g t cs :=
  h.gb hg fun e => by
    obtain ⟨o, h1, h2⟩ := hr g e.symm
    rw [show W.heap[g]? = _ from h] at h1
    cases h1
    cases h2
theorem Sl.notc {W W' : World} {row : Option Nat} {F : Fp} {e : TypeId} {sz n : Nat} {v : Value} {xs : List Value} (h : Sl W F e sz v n xs) (hg : W.grownBy W' row) (hr : NotCells W row) : Sl W' F e sz v n xs :=
  h.gb hg fun g hv he => by
    obtain ⟨o, h1, h2⟩ := hr g he.symm
    rcases h.2 with ⟨rfl, _⟩ | ⟨g', off, cap, cur, rfl, _, h3, _⟩
    · simp [Value.ownBlock] at hv
    · simp [Value.ownBlock] at hv
      subst hv
      rw [h3] at h1
      cases h1
      cases h2
theorem Cl.notc {W W' : World} {row : Option Nat} {F : Fp} {v : Value} {ms : List Cm} (h : Cl W F v ms) (hg : W.grownBy W' row) (hr : NotCells W row) : Cl W' F v ms :=
  ⟨Sl.notc h.row hg hr, fun m hm => ⟨Sl.notc (h.ops m hm).1 hg hr, (h.ops m hm).2⟩⟩
structure SI (w : World) (L : Nat) (A : Option Addr) (n c : Nat) (s : List Cmt × List Nat) (vC vE : Value) (ms : List Cm) (W : World) : Prop where
  hms : ms.map Cm.p = s.1
  b0 : Blk W w.heap.size 80 #[.slice A n c]
  b1 : Blk W (w.heap.size + 1) 46 #[vC]
  b2 : Blk W (w.heap.size + 2) 32 #[vE]
  b3 : Blk W (w.heap.size + 3) 3 #[.int .i64 (lastEp s.1)]
  cl : Cl W (fun k => L ≤ k) vC ms
  en : Sl W (fun k => L ≤ k) 3 1 vE s.2.length (ic s.2)
  bl : Below w.heap.size w W
  sz : L ≤ W.heap.size
theorem keeps_below {W W' : World} (h : Below W.heap.size W W') : KeepsOthers W W' := ⟨h.size, fun k o hk ho => (h.block k (Array.getElem?_eq_some_iff.1 hk).1).trans hk⟩
theorem decC_k {b : Bys} {m : Cmt} (h : decC b = some m) : m.k = 0 := by
  unfold decC at h
  generalize hx : Vi.small 1048576 b = x at h
  generalize hy : Vi.small 1048576 (b.drop x.2.1) = y at h
  generalize hr : readB (b.drop (x.2.1 + y.2.1)) = r at h
  split at h
  · exact absurd h (by simp)
  · split at h
    · exact absurd h (by simp)
    · cases r with
      | none => exact absurd h (by simp)
      | some r =>
        obtain ⟨os, n⟩ := r
        simp only at h
        split at h
        · rename_i h1
          obtain rfl := Option.some.inj h
          exact h1.2
        · exact absurd h (by simp)
theorem fol_one {x : Cm} {ep num : Int} (h : x.k = 0) : fol ep num 0 [x] = if x.num - 1 ≠ num ∨ x.ep < ep then (15, 0) else (0, 0) := by
  unfold fol
  rw [if_neg (by simp [h])]
  rfl
def SJ (w : World) (L : Nat) (A : Option Addr) (n c : Nat) (s : List Cmt × List Nat) (W : World) : Prop := ∃ vC vE ms, SI w L A n c s vC vE ms W
theorem SI.notc {w : World} {L : Nat} {A : Option Addr} {n c : Nat} {s : List Cmt × List Nat} {vC vE : Value} {ms : List Cm} {W W' : World} {row : Option Nat} (h : SI w L A n c s vC vE ms W) (hg : W.grownBy W' row) (hr : NotCells W row) (hB : ∀ r, row = some r → w.heap.size ≤ r) : SI w L A n c s vC vE ms W' :=
  ⟨h.hms, Blk.notc h.b0 hg hr, Blk.notc h.b1 hg hr, Blk.notc h.b2 hg hr, Blk.notc h.b3 hg hr, Cl.notc h.cl hg hr, Sl.notc h.en hg hr, h.bl.grown hg h.bl.size hB, Nat.le_trans h.sz hg.size⟩
theorem SI.later {w : World} {L : Nat} {A : Option Addr} {n c : Nat} {s : List Cmt × List Nat} {vC vE : Value} {ms : List Cm} {W W' : World} (h : SI w L A n c s vC vE ms W) (hb : Below W.heap.size W W') : SI w L A n c s vC vE ms W' :=
  h.notc (gb_below hb none) (fun r e => by cases e) (fun r e => by cases e)
def wall (b : Bys) : List Cmt × List Nat → List (Nat × Bys) → Option (List Cmt × List Nat)
  | s, [] => some s
  | s, x :: r => match wstep b s x with
    | none => none
    | some t => wall b t r
theorem wall_snoc {b : Bys} : ∀ {s : List Cmt × List Nat} {l : List (Nat × Bys)} {t : List Cmt × List Nat} {x : Nat × Bys}, wall b s l = some t → wall b s (l ++ [x]) = wstep b t x
  | s, [], t, x, h => by
    cases h
    show (match wstep b s x with | none => none | some t => wall b t []) = _
    cases wstep b s x <;> rfl
  | s, y :: l, t, x, h => by
    rw [List.cons_append]
    unfold wall at h ⊢
    cases hy : wstep b s y with
    | none => rw [hy] at h; cases h
    | some u =>
      rw [hy] at h
      exact wall_snoc h
theorem wgo_all {b : Bys} : ∀ {s : List Cmt × List Nat} {l r : List (Nat × Bys)} {t : List Cmt × List Nat}, wall b s l = some t → wgo b s (l ++ r) = wgo b t r
  | s, [], r, t, h => by cases h; rfl
  | s, y :: l, r, t, h => by
    unfold wall at h
    cases hy : wstep b s y with
    | none => rw [hy] at h; cases h
    | some u =>
      rw [hy] at h
      rw [List.cons_append, wgo, hy]
      exact wgo_all h
theorem own_sj {w : World} {L : Nat} {A : Option Addr} {n c B : Nat} (b : Bys) (hB : w.heap.size ≤ B) : OwnFrom B (fun (pre : List El) W => ∃ s, wall b ([], []) (pre.map El.p) = some s ∧ SJ w L A n c s W) := fun pre W W' row hs hg hr => by
  obtain ⟨s, h1, vC, vE, ms, h2⟩ := hs
  exact ⟨s, h1, vC, vE, ms, h2.notc hg (fun r e => (hr r e).2) (fun r e => Nat.le_trans hB (hr r e).1)⟩
theorem own_sx {w : World} {L : Nat} {A : Option Addr} {n c B : Nat} (b : Bys) (hB : w.heap.size ≤ B) (c' : Code) : OwnFrom B (fun (pre : List El) W => c' = .exit 0 ∧ ∃ ini x s, pre = ini ++ [x] ∧ wall b ([], []) (ini.map El.p) = some s ∧ wstep b s x.p = none ∧ SJ w L A n c s W) := fun pre W W' row hs hg hr => by
  obtain ⟨h0, ini, x, s, h1, h2, h3, vC, vE, ms, h4⟩ := hs
  exact ⟨h0, ini, x, s, h1, h2, h3, vC, vE, ms, h4.notc hg (fun r e => (hr r e).2) (fun r e => Nat.le_trans hB (hr r e).1)⟩
theorem sq_mem (f : Nat) : ∀ a b, b.length < f → ∀ x ∈ Vi.sq a b, ∃ i m, x.1 = a + i ∧ Vi.fread (b.drop i) = some (x.2, m) ∧ i + m ≤ b.length := by
  induction f with
  | zero => intro a b h; omega
  | succ f ih =>
    intro a b h x hx
    cases hb : Vi.fread b with
    | none => rw [Vi.sq_none hb] at hx; cases hx
    | some y =>
      obtain ⟨r, m⟩ := y
      have hf := Vi.fread_fits hb
      rw [Vi.sq_some hb] at hx
      rcases List.mem_cons.1 hx with rfl | hx
      · exact ⟨0, m, by simp, by simpa using hb, by omega⟩
      · obtain ⟨i, m', h1, h2, h3⟩ := ih (a + m) (b.drop m) (by simp; omega) x hx
        rw [List.drop_drop] at h2
        simp at h3
        exact ⟨m + i, m', by omega, h2, by omega⟩
end Go.Proofs.YtbpnbcjgkbpmgaaGreat
namespace Go.Lg
open Go Go.RowKit
set_option linter.unusedVariables false
theorem rows_round {l n : Nat} {P : Program} {row : String} {args : Array Value} {w : World} {R : Value → World → Prop} (h : Rows P row args w R) : RowsIn (Fence.wide.inRound l) n P row args w R :=
  (fun c cs _ => let ⟨v, w', r, s⟩ := h c cs; ⟨v, w', r, stepsIn_wide.2 s⟩ : RowsIn Fence.wide n P row args w R)
def noOut (Q : Exit → Act → World → Prop) : Exit → Act → World → Prop
  | .outgrown, _, _ => False
  | e, a, w => Q e a w
theorem noOut_not (Q : Exit → Act → World → Prop) : ¬LetsOut (noOut Q) := fun ⟨_, _, h⟩ => h
theorem oper_round {l n : Nat} {P : Program} {o : Oper} {a : Act} {w : World} {K K' : Act → World → Prop} {Q : Exit → Act → World → Prop} (hd : ∀ c, o.op ≠ .defer c) (hK : ∀ a w, K a w → K' a w)
    (h : o.wp P a w K (noOut Q)) : o.wpIn (Fence.wide.inRound l) n P a w K' Q := by
  refine ⟨fun _ _ => trivial, ?_⟩
  rw [Oper.semAt_eq _ _ _ hd]
  unfold Oper.wp at h
  generalize (execOp a.eval o).run P w = r at h ⊢
  cases r with
  | ok nx w' =>
    cases nx with
    | value v => exact hK _ _ h
    | skip => exact hK _ _ h
    | defer d => exact hK _ _ h
    | enter f args =>
      refine ⟨fun hh => (by cases hh), CallsIn.inRound l ((callsIn_wide.2 h).mono ?_)⟩
      intro e w'' he
      cases e with
      | returned v => exact hK _ _ he
      | panicked c => exact he
      | outgrown => exact absurd he (noOut_not Q)
    | row row args => exact ⟨fun hh => (by cases hh), rows_round (h.mono fun v w'' hv => hK _ _ hv)⟩
    | _ => exact h.elim
  | halt hh w' =>
    cases hh with
    | panic v => exact h
    | _ => exact h.elim
theorem any_round {l n : Nat} {P : Program} {md : Region.Mode} {ops : Array Oper} {Q : Exit → Act → World → Prop} (hd : ∀ o ∈ ops, ∀ c, o.op ≠ .defer c) :
    ∀ (fuel : Nat) (listed : Array Bool) (a : Act) (w : World), wpAny P md ops (noOut Q) fuel listed a w → wpAnyIn (Fence.wide.inRound l) n P md ops Q fuel listed a w := by
  intro fuel
  induction fuel with
  | zero => exact fun listed a w h => h
  | succ fuel ih =>
    intro listed a w h
    refine ⟨h.1, fun i hi => ?_⟩
    have h2 := h.2 i hi
    unfold wpOp at h2
    unfold wpOpIn
    cases ho : ops[i]? with
    | none => rw [ho] at h2; exact ih _ _ _ h2
    | some o =>
      rw [ho] at h2
      simp only at h2 ⊢
      split at h2
      · rename_i hw
        rw [if_pos hw]
        rcases h2 with h2 | h2
        · exact oper_round (hd o (Array.mem_of_getElem? ho)) (fun a w => ih _ a w) h2
        · exact absurd h2.2 (noOut_not Q)
      · rename_i hw
        rw [if_neg hw]
        exact ⟨fun _ _ => trivial, ih _ _ _ h2⟩
theorem region_round {l n id : Nat} {P : Program} {ops : Array Oper} {Q : Exit → Act → World → Prop} {a : Act} {w : World} (hm : P.follows .mixedOrders = true) (hd : ∀ o ∈ ops, ∀ c, o.op ≠ .defer c) 
    (h : wpAny P .any ops (noOut Q) ops.size (Array.replicate ops.size false) a w.drew) : (Code.region id ops true).wpIn (Fence.wide.inRound l) n P Q a w :=
  wpIn_region_any hm (any_round hd _ _ _ _ h)
section
variable {P : Program} {ops : Array Oper} {Q : Exit → Act → World → Prop} {md : Region.Mode} {S : Array Bool → World → Prop}
def anyT (P : Program) (md : Region.Mode) (ops : Array Oper) (Q : Exit → Act → World → Prop) (S : Array Bool → World → Prop) : Nat → Array Bool → Act → World → Prop
  | 0, L, a, w => Region.ready md ops L = [] ∧ Q .normal a w
  | f + 1, L, a, w => (Region.ready md ops L = [] → Q .normal a w) ∧ ∀ j ∈ Region.ready md ops L, wpOp P ops Q j (fun a' w' => S (L.setIfInBounds j true) w' ∧ anyT P md ops Q S f (L.setIfInBounds j true) a' w') a w
theorem anyT_wp : ∀ (f : Nat) (L : Array Bool) (a : Act) (w : World), anyT P md ops Q S f L a w → wpAny P md ops Q f L a w := by
  intro f
  induction f with
  | zero => exact fun L a w h => h
  | succ f ih => exact fun L a w h => ⟨h.1, fun j hj => wpOp_mono (fun a w h => ih _ a w h.2) (h.2 j hj)⟩
def ClosedL (md : Region.Mode) (ops : Array Oper) (L : Array Bool) : Prop := ∀ (j : Nat) (o : Oper), ops[j]? = some o → L.getD j false = true → ∀ e ∈ o.after, Region.binds md e = true → L.getD e.on false = true
def waits (md : Region.Mode) (ops : Array Oper) (k i : Nat) : Bool := match ops[k]? with
  | none => false
  | some o => o.after.any fun e => decide (e.on = i) && Region.binds md e
theorem getD_flip {L : Array Bool} {i : Nat} (h : L.getD i true = false) : L.getD i false = false := by
  simp only [Array.getD_eq_getD_getElem?] at h ⊢
  cases hx : L[i]? with
  | none => rfl
  | some b => rw [hx] at h; exact h
theorem ClosedL.un {L : Array Bool} (h : ClosedL md ops L) {k i : Nat} (hw : waits md ops k i = true) (hi : L.getD i true = false) : L.getD k false = false := by
  unfold waits at hw
  cases ho : ops[k]? with
  | none => rw [ho] at hw; cases hw
  | some o =>
    rw [ho] at hw
    simp only [Array.any_eq_true, Bool.and_eq_true, decide_eq_true_eq] at hw
    obtain ⟨m, hm, h1, h2⟩ := hw
    cases hk : L.getD k false with
    | false => rfl
    | true =>
      have := h k o ho hk _ (Array.getElem_mem hm) h2
      rw [h1, getD_flip hi] at this
      cases this
theorem ClosedL.start (n : Nat) : ClosedL md ops (Array.replicate n false) := by
  intro j o ho hj
  exfalso
  simp only [Array.getD_eq_getD_getElem?, Array.getElem?_replicate] at hj
  split at hj <;> cases hj
theorem ClosedL.set {L : Array Bool} (h : ClosedL md ops L) {j : Nat} (hj : j ∈ Region.ready md ops L) : ClosedL md ops (L.setIfInBounds j true) := by
  intro k o ho hk e he hb
  by_cases hkj : j = k
  · subst hkj
    obtain ⟨_, o', ho', hall⟩ := mem_ready.1 hj
    rw [ho] at ho'
    cases ho'
    exact getD_set_true (hall e he hb)
  · rw [getD_set_ne false hkj] at hk
    exact getD_set_true (h k o ho hk e he hb)
theorem anyT_first {i : Nat} {oi : Oper} {v : Value} {C : World → Prop} (hi : ops[i]? = some oi) (hsel : ∀ (j : Nat) (o : Oper) cs b, ops[j]? = some o → o.op ≠ .select cs b)
    (hQ : ∀ c a w, Q (.panic c) (a.put oi.dst v) w → Q (.panic c) a w) (hSi : ∀ L w, S (L.setIfInBounds i true) w ↔ S L w) (hC : ∀ L w, ClosedL md ops L → L.getD i true = false → S L w → C w) (f : Nat) :
    ∀ (L : Array Bool) (a : Act) (w : World), (∀ (j : Nat) (oj : Oper), ops[j]? = some oj → j ≠ i → L.getD j true = false → (∀ e ∈ oj.after, Region.binds md e = true → e.on ≠ i) → oi.apart ops oj = true) →
      ClosedL md ops L → i ∈ Region.ready md ops L → YieldsIf P ops C oi v a → S L w → anyT P md ops Q S f (L.setIfInBounds i true) (a.put oi.dst v) w → anyT P md ops Q S (f + 1) L a w := by
  induction f with
  | zero =>
    intro L a w _ hcl hr hy hS H
    refine ⟨fun h => absurd (h ▸ hr) List.not_mem_nil, fun j hj => ?_⟩
    rcases Decidable.em (j = i) with rfl | hji
    · exact hy.wpOp hi (hC L w hcl (mem_ready.1 hr).1 hS) ⟨(hSi L w).2 hS, H⟩
    · exact absurd (H.1 ▸ ready_mono hj hji) List.not_mem_nil
  | succ f ih =>
    intro L a w hfree hcl hr hy hS H
    have hun := (mem_ready.1 hr).1
    refine ⟨fun h => absurd (h ▸ hr) List.not_mem_nil, fun j hj => ?_⟩
    rcases Decidable.em (j = i) with rfl | hji
    · exact hy.wpOp hi (hC L w hcl hun hS) ⟨(hSi L w).2 hS, H⟩
    · obtain ⟨hjun, oj, hoj, hall⟩ := mem_ready.1 hj
      have hnot : ∀ e ∈ oj.after, Region.binds md e = true → e.on ≠ i := by
        intro e he hb heq
        have h1 := hall e he hb
        rw [heq, getD_flip hun] at h1
        cases h1
      have hij : i ≠ j := fun e => hji e.symm
      have h2 := wpOp_putIf hoj (hfree j oj hoj hji hjun hnot) (fun cs b => hsel i oi cs b hi) (fun cs b => hsel j oj cs b hoj) hQ hy (H.2 j (ready_mono hj hji))
      refine wpOp_mono (fun a' w' h3 => ?_) h2
      obtain ⟨hy', hS', hW'⟩ := h3
      rw [Array.setIfInBounds_comm _ _ hij] at hS' hW'
      have hSj := (hSi _ _).1 hS'
      refine ⟨hSj, ih _ a' w' (fun k ok hk hki hkun hno => hfree k ok hk hki ?_ hno) (hcl.set hj) (ready_mono hr hij) hy' hSj hW'⟩
      rcases Decidable.em (j = k) with rfl | hjk
      · exact hjun
      · rwa [getD_set_ne true hjk] at hkun
theorem anyT_take (i : Nat) (v : Value) (C : World → Prop) {oi : Oper} {f : Nat} {L : Array Bool} {a : Act} {w : World} (hi : ops[i]? = some oi) (hs : Region.noSelect ops = true) (hf : Region.free md ops L i = true)
    (hr : (Region.ready md ops L).contains i = true) (hQ : ∀ c a w, Q (.panic c) (a.put oi.dst v) w → Q (.panic c) a w) (hSi : ∀ L w, S (L.setIfInBounds i true) w ↔ S L w) (hC : ∀ L w, ClosedL md ops L → L.getD i true = false → S L w → C w)
    (hcl : ClosedL md ops L) (hS : S L w) (hg : oi.guard = none) (hy : ∀ w, C w → (execOp a.eval oi).run P w = .ok (.value v) w)
    (h : ClosedL md ops (L.setIfInBounds i true) → S (L.setIfInBounds i true) w → anyT P md ops Q S f (L.setIfInBounds i true) (a.put oi.dst v) w) : anyT P md ops Q S (f + 1) L a w :=
  have hr' : i ∈ Region.ready md ops L := by simpa using hr
  anyT_first hi (Region.noSelect_spec hs) hQ hSi hC f L a w (Region.free_spec hi hf) hcl hr' (.inl ⟨by unfold Region.wanted; rw [hg], hy⟩) hS (h (hcl.set hr') ((hSi _ _).2 hS))
theorem anyT_ready (rs : List Nat) {f : Nat} {L : Array Bool} {a : Act} {w : World} (hr : Region.ready md ops L = rs) (hne : rs ≠ []) (h : ∀ i ∈ rs, wpOp P ops Q i (fun a' w' => S (L.setIfInBounds i true) w' ∧ anyT P md ops Q S f (L.setIfInBounds i true) a' w') a w) : anyT P md ops Q S (f + 1) L a w :=
  ⟨fun h0 => absurd (hr ▸ h0) hne, hr ▸ h⟩
theorem op_run {i : Nat} {o : Oper} {K : Act → World → Prop} {a : Act} {w : World} (hi : ops[i]? = some o) (hg : o.guard = none) (h : o.wp P a w K Q) : wpOp P ops Q i K a w := by
  unfold wpOp
  rw [hi]
  simp only [Region.wanted, hg, if_true]
  exact .inl h
theorem anyT_done {f : Nat} {L : Array Bool} {a : Act} {w : World} (hr : Region.ready md ops L = []) (h : Q .normal a w) : anyT P md ops Q S f L a w := by
  cases f with
  | zero => exact ⟨hr, h⟩
  | succ f => exact ⟨fun _ => h, by rw [hr]; simp⟩
theorem op_step {i : Nat} {o : Oper} {K : Act → World → Prop} {a : Act} {w : World} (hi : ops[i]? = some o) (hg : o.guard = none) (h : ∀ K' : Act → World → Prop, Hid (∀ a w, K a w → K' a w) → o.wp P a w K' Q) : wpOp P ops Q i K a w :=
  op_run hi hg (h K (hid fun _ _ h => h))
end
end Go.Lg
