/- A primary answers without waiting for the other site, as many times as its leash allows: of any acts. No condition. (part 43) -/
import Derived.Defers
import Derived.Test.YtbpnbcjgkbpmgaaGreatMAn
import Derived.Test.YtbpnbcjgkbpmgaaGreatMBp
namespace Go.Proofs.YtbpnbcjgkbpmgaaGreat
open Go.RowKit Go.Lg Go.Shelf Ds St
set_option linter.unusedVariables false
set_option linter.unusedSimpArgs false
theorem field34_4 (a b c d e : Value) (w : World) : Sem.run Tryz.prog (Instr.field 34 (.agg #[a, b, c, d, e]) 4) w = .ok e w := by kernel_rfl
attribute [local go_sem] field34_4 Oper.semAt_some
structure PW where
  (s0 s1 : Ps)
  last : Int
  ks : List Lk.Key
abbrev WMp (w : World) (tag : Nat → Nat) (zw : Nat) (most : Int) (q : Wz) (S : PW) : Prop := WM w tag zw most q S.s0 S.s1 S.last S.ks
def Turns (f : Nat) (x : Int) (zw : Nat) (most : Int) (q : Wz) (S S' : PW) : Prop :=
  ∀ W tag, Tidy W tag → WMp W tag zw most q S → Calls Tryz.prog f #[P zw, .int .i64 x] W (ADid tag zw most q 0 0 noStr false 2 S'.s0 S'.s1 S'.last S'.ks W)
inductive RI (NB : Nat → Prop) (w : World) (tag : Nat → Nat) (zw : Nat) (most : Int) (q : Wz) (S : PW) (N : Nat) (W : World) (tg : Nat → Nat) : Prop
  | mk (A : Option Addr) (n c : Nat) (xs : List Value) (ht : Turn Wp w tag W tg) (hw : WMp W tg zw most q S) (kb : Blk W (w.heap.size + 2) 34 #[.int .i64 0, .int .i64 0, .string noStr, .bool false, .slice A n c]) (hs : Sl W (Own0 w.heap.size tg) 3 1 (.slice A n c) n xs) (hn : n ≤ N) (h1c : ∀ u ∈ xs, u.oneCell' = true) (k1 : Blk W w.heap.size 24 #[P zw]) (k2 : Blk W (w.heap.size + 1) 34 did0) (hz : tg w.heap.size = 0 ∧ tg (w.heap.size + 1) = 0 ∧ tg (w.heap.size + 2) = 0) (hnb : ∀ g, (Value.slice A n c).ownBlock = some g → ¬NB g)
section
variable {NB : Nat → Prop} {w W W' : World} {tag tg : Nat → Nat} {zw : Nat} {most : Int} {q : Wz} {S S' : PW} {N : Nat}
theorem ri_app {tg' : Nat → Nat} {A A2 A8 : Option Addr} {n c n2 c2 c8 : Nat} {xs xs2 : List Value} {X X' w8 : World} (hz : tg w.heap.size = 0 ∧ tg (w.heap.size + 1) = 0 ∧ tg (w.heap.size + 2) = 0) (ht : Turn Wp w tag W tg) (kb : Blk W (w.heap.size + 2) 34 #[.int .i64 0, .int .i64 0, .string noStr, .bool false, .slice A n c]) (hs : Sl W (Own0 w.heap.size tg) 3 1 (.slice A n c) n xs) (hn : n ≤ N) (h1c : ∀ u ∈ xs, u.oneCell' = true) (k1 : Blk W w.heap.size 24 #[P zw]) (k2 : Blk W (w.heap.size + 1) 34 did0) (hnb : ∀ g, (Value.slice A n c).ownBlock = some g → ¬NB g) (hlt : ∀ k, NB k → k < W.heap.size)
    (l : Lat W X) (ht2 : Turn Wp X tg X' tg') (hw2 : WMp X' tg' zw most q S') (hs2 : Sl X' (Own0 X.heap.size tg') 3 1 (.slice A2 n2 c2) n2 xs2) (hn2 : n2 ≤ 2) (h2c : ∀ u ∈ xs2, u.oneCell' = true) (hv8 : Sl w8 (fun k => Own0 w.heap.size tg' k ∨ X'.heap.size ≤ k) 3 1 (.slice A8 (n + n2) c8) (n + n2) (xs ++ xs2)) (hg : X'.grownBy w8 (Value.slice A n c).ownBlock) (hat : ∀ g, (Value.slice A8 (n + n2) c8).ownBlock = some g → (Value.slice A n c).ownBlock = some g ∨ X'.heap.size ≤ g) :
    RI NB w tag zw most q S' (N + 2) (w8.setCell ⟨w.heap.size + 2, 4, none⟩ (.slice A8 (n + n2) c8)) tg' := by
  have htX : Turn Wp w tag X' tg' := (ht.lat l).trans ht2
  have kX := ht2.blk (l.blk kb) (by rw [hz.2.2]; exact wp_0)
  have k1X := ht2.blk (l.blk k1) (by rw [hz.1]; exact wp_0)
  have k2X := ht2.blk (l.blk k2) (by rw [hz.2.1]; exact wp_0)
  have hsX : Sl X' (Own0 w.heap.size tg') 3 1 (.slice A n c) n xs := ((hs.later l.b).mv (ht2.mv0 wp_0 w.heap.size))
  have hz' : tg' w.heap.size = 0 ∧ tg' (w.heap.size + 1) = 0 ∧ tg' (w.heap.size + 2) = 0 := ⟨(ht2.old _ (l.blk k1).lt).trans hz.1, (ht2.old _ (l.blk k2).lt).trans hz.2.1, (ht2.old _ (l.blk kb).lt).trans hz.2.2⟩
  have hm8 : Mod (Own0 w.heap.size tg') X' w8 := Mod.grown hg fun g hg => (hsX.lt g hg).1
  have k8 : Blk w8 (w.heap.size + 2) 34 #[.int .i64 0, .int .i64 0, .string noStr, .bool false, .slice A n c] := kX.gb hg fun e => hsX.ne_blk kX (by decide) _ e.symm rfl
  have k18 : Blk w8 w.heap.size 24 #[P zw] := k1X.gb hg fun e => hsX.ne_blk k1X (by decide) _ e.symm rfl
  have k28 : Blk w8 (w.heap.size + 1) 34 did0 := k2X.gb hg fun e => hsX.ne_blk k2X (by decide) _ e.symm rfl
  have hm9 := mod_set w8 (w.heap.size + 2) 4 (.slice A8 (n + n2) c8)
  have hmm : Mod (Own0 w.heap.size tg') X' (w8.setCell ⟨w.heap.size + 2, 4, none⟩ (.slice A8 (n + n2) c8)) := hm8.trans_ (hm9.more fun k hk => by subst hk; exact ⟨by omega, hz'.2.2⟩)
  refine ⟨A8, n + n2, c8, xs ++ xs2, htX.box hmm fun k hk => hk.1, hw2.box hmm fun k hk => hk.2, k8.set_ 4 _, ?_, by omega, (fun u hu => (List.mem_append.1 hu).elim (h1c u) (h2c u)), k18.far (p := ⟨w.heap.size + 2, 4, none⟩) (by show w.heap.size ≠ w.heap.size + 2; omega) _, k28.far (p := ⟨w.heap.size + 2, 4, none⟩) (by show w.heap.size + 1 ≠ w.heap.size + 2; omega) _, hz', fun g hg9 hn9 => (hat g hg9).elim (fun h => hnb g h hn9) (fun h => by have := hlt g hn9; have := l.size; have := ht2.size; omega)⟩
  exact (Sl.setz hv8 k8 (by decide) 4 _).to fun k hk => by
    rcases hk with h | h
    · exact h
    · exact ⟨Nat.le_trans htX.size h, htX.td k h⟩
theorem ri_keep {tg' : Nat → Nat} {A A8 : Option Addr} {n c n2 c8 k : Nat} {xs : List Value} {X X' w8 : World} (hnb : ∀ g, (Value.slice A n c).ownBlock = some g → ¬NB g) (hk : NB k) (hlt : k < W.heap.size) (h0 : tg k = 0) (hne : k ≠ w.heap.size + 2) (l : Lat W X) (ht2 : Turn Wp X tg X' tg') (hg : X'.grownBy w8 (Value.slice A n c).ownBlock) :
    (w8.setCell ⟨w.heap.size + 2, 4, none⟩ (.slice A8 (n + n2) c8)).heap[k]? = W.heap[k]? ∧ tg' k = 0 := by
  have h1 : k < X.heap.size := Nat.lt_of_lt_of_le hlt l.size
  refine ⟨?_, (ht2.old k h1).trans h0⟩
  rw [Below.heap_setCell _ ⟨w.heap.size + 2, 4, none⟩ _ k hne, hg.block k (Nat.lt_of_lt_of_le h1 ht2.size) (fun e => hnb k e.symm hk), ht2.keep h1 (by rw [h0]; exact wp_0), l.b.block k hlt]
theorem blk_put {g k : Nat} {t : TypeId} {cs : Array Value} {o : Obj} (h : Blk W g t cs) (hr : ∃ o, W.heap[k]? = some o ∧ o.isCells = false) : Blk (W.putObj k o) g t cs := by
  obtain ⟨o', hr, hc⟩ := hr
  have hne : g ≠ k := fun e => by rw [e] at h; have h1 : W.heap[k]? = _ := h; rw [hr] at h1; cases h1; cases hc
  exact (World.putObj_heap_other hne).trans h
theorem mod_put (W : World) (k : Nat) (o : Obj) : Mod (fun j => j = k) W (W.putObj k o) := by
  have hsz : (W.putObj k o).heap.size = W.heap.size := by simp [World.putObj]
  exact ⟨rfl, rfl, rfl, by omega, fun j _ hj => World.putObj_heap_other hj⟩
theorem row_put {k : Nat} {F : Fp} {e : TypeId} {sz n c : Nat} {A : Option Addr} {xs : List Value} (hs : Sl W F e sz (.slice A n c) n xs) (hr : ∃ o, W.heap[k]? = some o ∧ o.isCells = false) : ∀ g, (Value.slice A n c).ownBlock = some g → ¬(g = k) := fun g hg e => by
  obtain ⟨o', hr, hc⟩ := hr
  rcases hs.2 with ⟨h0, _⟩ | ⟨g', off, cap, cur, h1, h2, h3, _⟩
  · rw [h0] at hg; simp [Value.ownBlock] at hg
  · injection h1 with h1 _ _
    subst h1
    simp [Value.ownBlock] at hg
    subst hg
    rw [e, hr] at h3
    cases h3
    cases hc
theorem RI.putObj {k : Nat} {o : Obj} (h : RI NB w tag zw most q S N W tg) (hk : tg k = 0) (hk2 : w.heap.size ≤ k) (hr : ∃ o, W.heap[k]? = some o ∧ o.isCells = false) : RI NB w tag zw most q S N (W.putObj k o) tg := by
  obtain ⟨A, n, c, xs, ht, hw, kb, hs, hn, h1c, k1, k2, hz, hnb⟩ := h
  exact ⟨A, n, c, xs, ht.box (mod_put W k o) fun j hj => by subst hj; exact hk2, hw.box (mod_put W k o) fun j hj => by subst hj; exact hk, blk_put kb hr, hs.mod (mod_put W k o) (row_put hs hr), hn, h1c, blk_put k1 hr, blk_put k2 hr, hz, hnb⟩
theorem ri_done {L : Nat} {M : Nat} (h : RI NB w tag zw most q S N W tg) (h0 : tg L = 0) (hL : w.heap.size + 3 ≤ L) (hr : W.heap[L]? = some (.deferred (some []))) (hM : N ≤ M) :
    ∃ A n c, Blk W (w.heap.size + 2) 34 #[.int .i64 0, .int .i64 0, .string noStr, .bool false, .slice A n c] ∧ Blk W (w.heap.size + 1) 34 did0 ∧ Blk (setd W (w.heap.size + 1) 0 0 noStr false (.slice A n c)) (w.heap.size + 1) 34 #[.int .i64 0, .int .i64 0, .string noStr, .bool false, .slice A n c] ∧
      (setd W (w.heap.size + 1) 0 0 noStr false (.slice A n c)).heap[L]? = some (.deferred (some [])) ∧ Blk ((setd W (w.heap.size + 1) 0 0 noStr false (.slice A n c)).putObj L (.deferred none)) (w.heap.size + 1) 34 #[.int .i64 0, .int .i64 0, .string noStr, .bool false, .slice A n c] ∧
      ADid tag zw most q 0 0 noStr false M S.s0 S.s1 S.last S.ks w (.returned (didv 0 0 noStr false (.slice A n c))) ((setd W (w.heap.size + 1) 0 0 noStr false (.slice A n c)).putObj L (.deferred none)) := by
  obtain ⟨A, n, c, xs, ht, hw, kb, hs, hn, h1c, k1, k2, hz, hnb⟩ := h
  obtain ⟨hk, hm⟩ := did_set 0 0 noStr false (.slice A n c) k2
  have hvs : Sl (setd W (w.heap.size + 1) 0 0 noStr false (.slice A n c)) (Own0 w.heap.size tg) 3 1 (.slice A n c) n xs := by
    have b0 := k2
    have c0 := Sl.setz hs b0 (by decide) 0 (.int .i64 0)
    have b1 := b0.set_ 0 (.int .i64 0)
    have c1 := Sl.setz c0 b1 (by decide) 1 (.int .i64 0)
    have b2 := b1.set_ 1 (.int .i64 0)
    have c2 := Sl.setz c1 b2 (by decide) 2 (.string noStr)
    have b3 := b2.set_ 2 (.string noStr)
    have c3 := Sl.setz c2 b3 (by decide) 3 (.bool false)
    have b4 := b3.set_ 3 (.bool false)
    exact Sl.setz c3 b4 (by decide) 4 (.slice A n c)
  have hLW : L < W.heap.size := (Array.getElem?_eq_some_iff.1 hr).1
  have hrL : (setd W (w.heap.size + 1) 0 0 noStr false (.slice A n c)).heap[L]? = some (.deferred (some [])) := (hm.block L hLW (by omega)).trans hr
  have hm2 := mod_put (setd W (w.heap.size + 1) 0 0 noStr false (.slice A n c)) L (.deferred none)
  refine ⟨A, n, c, kb, k2, hk, hrL, blk_put hk ⟨_, hrL, rfl⟩, _, n, xs, tg, rfl, (ht.box hm fun k hk => by subst hk; omega).box hm2 fun k hk => by subst hk; omega, (hw.box hm fun k hk => by subst hk; exact hz.2.1).box hm2 fun k hk => by subst hk; exact h0, hvs.mod hm2 (row_put hvs ⟨_, hrL, rfl⟩), by omega, h1c⟩
theorem RI.later (h : RI NB w tag zw most q S N W tg) (l : Lat W W') : RI NB w tag zw most q S N W' tg := by
  obtain ⟨A, n, c, xs, ht, hw, kb, hs, hn, h1c, k1, k2, hz, hnb⟩ := h
  exact ⟨A, n, c, xs, ht.lat l, hw.later l, l.blk kb, hs.later l.b, hn, h1c, l.blk k1, l.blk k2, hz, hnb⟩
end
theorem ri_nb {NB NB2 : Nat → Prop} {w W : World} {tag tg : Nat → Nat} {zw : Nat} {most : Int} {q : Wz} {S : PW} {N : Nat} (h : RI NB w tag zw most q S N W tg) (hn : ∀ k, NB2 k → W.heap.size ≤ k) : RI NB2 w tag zw most q S N W tg := by
  obtain ⟨A, n, c, xs, ht, hw, kb, hs, hn', h1c, k1, k2, hz, hnb⟩ := h
  exact ⟨A, n, c, xs, ht, hw, kb, hs, hn', h1c, k1, k2, hz, fun g hg hk => by
    have h1 := hn g hk
    have h2 := (hs.lt g hg).2
    omega⟩
structure RW (w5 : World) (Bs b : Nat) (w : World) (tag : Nat → Nat) (zw : Nat) (most : Int) (q : Wz) (S : PW) (N : Nat) (W : World) (tg : Nat → Nat) : Prop where
  ri : RI (fun k => k = Bs ∨ k = b ∨ k = w5.heap.size ∨ k = w5.heap.size + 1) w tag zw most q S N W tg
  t0 : tg w5.heap.size = 0
  t1 : tg (w5.heap.size + 1) = 0
  tb : tg Bs = 0
  tc : tg b = 0
  sz : w5.heap.size ≤ W.heap.size
theorem RW.alloc {w5 : World} {Bs b : Nat} {w : World} {tag : Nat → Nat} {zw : Nat} {most : Int} {q : Wz} {S : PW} {N : Nat} {W : World} {tg : Nat → Nat} (h : RW w5 Bs b w tag zw most q S N W tg) (o : Obj) : RW w5 Bs b w tag zw most q S N (W.alloc o) tg :=
  ⟨h.ri.later ((Lat.refl W).alloc o), h.t0, h.t1, h.tb, h.tc, by have := h.sz; simp; omega⟩
theorem RW.putObj {w5 : World} {Bs b : Nat} {w : World} {tag : Nat → Nat} {zw : Nat} {most : Int} {q : Wz} {S : PW} {N : Nat} {W : World} {tg : Nat → Nat} (h : RW w5 Bs b w tag zw most q S N W tg) (hw : w.heap.size ≤ w5.heap.size) {r : Loop} (r' : Loop) (hr : W.heap[w5.heap.size + 1]? = some (.loop r)) : RW w5 Bs b w tag zw most q S N (W.putObj (w5.heap.size + 1) (.loop r')) tg :=
  ⟨h.ri.putObj h.t1 (by omega) ⟨_, hr, rfl⟩, h.t0, h.t1, h.tb, h.tc, by have := h.sz; simpa [World.putObj] using this⟩
theorem rd_at {w : World} {B : Nat} {A : Option Addr} {n : Nat} {xs : List Value} (h : Rd w B 1 A n xs) (lo d : Nat) (hA : ∀ b off, A = some ⟨b, off, none⟩ → lo ≤ b) (hd : lo ≤ d) (hdB : d < B) :
    ∃ b off, (0 < n → A = some ⟨b, off, none⟩) ∧ lo ≤ b ∧ b < B ∧ ∀ j u, xs[j]? = some u → w.cell? ⟨b, off + j, none⟩ = some u := by
  by_cases hn : 0 < n
  · obtain ⟨b, off, hA2, hb, hc⟩ := h.2 hn
    exact ⟨b, off, fun _ => hA2, hA _ _ hA2, hb, hc⟩
  · refine ⟨d, 0, fun h => absurd h hn, hd, hdB, fun j u hu => ?_⟩
    have := h.1
    have h0 : xs = [] := List.eq_nil_of_length_eq_zero (by omega)
    rw [h0] at hu
    cases hu
structure S26 (b3 b1 : Nat) (v pz : Value) (L : Array Bool) (w : World) : Prop where
  a : L.getD 8 false = false → w.cell? ⟨b3, 4, none⟩ = some v
  b : w.cell? ⟨b1, 0, none⟩ = some pz
theorem S26.set {b3 b1 i : Nat} {v pz : Value} (h1 : i ≠ 8) : ∀ (L : Array Bool) (w : World), S26 b3 b1 v pz (L.setIfInBounds i true) w ↔ S26 b3 b1 v pz L w := fun L w =>
  ⟨fun h => ⟨fun q => h.a (by rw [getD_set_ne false h1]; exact q), h.b⟩, fun h => ⟨fun q => h.a (by rw [getD_set_ne false h1] at q; exact q), h.b⟩⟩
def noPanic (Q : Exit → Act → World → Prop) : Exit → Act → World → Prop
  | .panic _, _, _ => False
  | e, a, w => Q e a w
theorem still_panic {P : Program} {c : Code} {Q : Exit → Act → World → Prop} {a : Act} {w : World} (h : c.wp P (noPanic Q) a w) : c.wp P Q a w :=
  Code.wp_mono (fun e a w hq => by
    cases e <;> first | exact hq | exact hq.elim) h
theorem noPanic_n {Q : Exit → Act → World → Prop} {a : Act} {w : World} (h : Q .normal a w) : noPanic Q .normal a w := h
set_option maxHeartbeats 4000000 in
set_option maxRecDepth 100000 in
theorem wround26 {w : World} {tag : Nat → Nat} {zw : Nat} {most : Int} {q : Wz} {S S1 S2 : PW} (st : Nat → PW) (hT : Tidy w tag) (h : WMp w tag zw most q S) (t0 : Turns 51 0 zw most q S S1) (t1 : Turns 51 1 zw most q S1 S2) (hst0 : st 0 = S2)
    (hst : ∀ j num, (S2.ks.map (·.1))[j]? = some num → Turns 23 num zw most q (st j) (st (j + 1))) :
    Calls Tryz.prog 26 #[P zw] w (ADid tag zw most q 0 0 noStr false 2000 (st S2.ks.length).s0 (st S2.ks.length).s1 (st S2.ks.length).last (st S2.ks.length).ks w) := by
  refine (callsIn_wide (n := 3)).1 ?_
  have hro : Fence.wide.round = none := rfl
  have hn3 : 1 ≤ 3 := by omega
  obtain ⟨W, hW⟩ : ∃ W, W = ((w.alloc (.cells #[P zw] 24)).alloc (.cells did0 34)).alloc (.cells did0 34) := ⟨_, rfl⟩
  have lW : Lat w W := by rw [hW]; exact (((Lat.refl w).alloc _).alloc _).alloc _
  have k1 : Blk W w.heap.size 24 #[P zw] := by rw [hW]; exact ((Blk.new w 24 _).alloc _).alloc _
  have k2 : Blk W (w.heap.size + 1) 34 did0 := by
    rw [hW]
    have := (Blk.new (w.alloc (.cells #[P zw] 24)) 34 did0).alloc (.cells did0 34)
    simpa using this
  have k3 : Blk W (w.heap.size + 2) 34 did0 := by
    rw [hW]
    have := Blk.new ((w.alloc (.cells #[P zw] 24)).alloc (.cells did0 34)) 34 did0
    simpa using this
  have hWs : W.heap.size = w.heap.size + 3 := by rw [hW]; simp
  have hri : RI (fun _ => False) w tag zw most q S 0 W tag := ⟨none, 0, 0, [], lW.turn hT Wp, h.later lW, k3, Sl.nil_ _ _ _ _, Nat.le_refl _, (fun u hu => by cases hu), k1, k2, ⟨hT _ (Nat.le_refl _), hT _ (by omega), hT _ (by omega)⟩, fun g hg h => h⟩
  have HRI := hid hri
  have HS := hid hWs
  have HT := hid hT
  have HT0 := hid t0
  have HT1 := hid t1
  have HST := hid (And.intro hst0 hst)
  clear hri k1 k2 k3 lW hT h t0 t1 hst0 hst hWs
  refine callsIn_of_wp_marks Tryz.func26 rfl trivial ?_ hro
  simp only [Tryz.ntmps26, List.size_toArray, List.length_cons, List.length_nil, Nat.reduceAdd, Nat.reduceSub, Array.replicate_succ, Array.replicate_zero, List.push_toArray, List.append_toArray, List.nil_append, List.cons_append]
  refine wpIn_wide.2 ?_
  go_upto_region 3 with fail
  rw [← hW]
  clear hW
  go_loopg [6] 2 (fun g i wr => ∃ (j : Nat) (tgj : Nat → Nat), j ≤ 2 ∧ g = 2 - j ∧ i = .int .i64 j ∧ Hid (RI (fun _ => False) w tag zw most q (if j = 0 then S else if j = 1 then S1 else S2) (j * 2) wr tgj))
  case atStart => exact ⟨0, tag, by omega, rfl, rfl, HRI⟩
  case round =>
    obtain ⟨j, tgj, hj, rfl, rfl, hri⟩ := hrel
    have hri' := hri.out
    obtain ⟨A, n, c, xs, ht, hw, kb, hs, hn, h1c, k1, k2, hz, hnb⟩ := hri'
    have hw' := hw
    obtain ⟨vA, ms, blk, hzz, mm0, mm1, lk, an, hA⟩ := hw'
    obtain ⟨c0, c1, c2, c3, c4, c5, c6⟩ := wdcells blk
    have hup0 := ndup44 mm0.blk.1
    have hup1 := ndup44 mm1.blk.1
    have q1 : wr.cell? ⟨w.heap.size, 0, none⟩ = some (P zw) := k1.cell 0
    have q4 : wr.cell? ⟨w.heap.size + 1 + 1, 4, none⟩ = some (.slice A n c) := kb.cell 4
    have HRI2 := hid hri.out
    have HH := hid (And.intro ht (And.intro kb (And.intro hs (And.intro hn (And.intro h1c (And.intro k1 (And.intro k2 hz)))))))
    have HWM := hid hw
    have htd : ∀ X, Lat wr X → Tidy X tgj := fun X l => ht.td.below l.size
    have hne : ∀ g, (Value.slice A n c).ownBlock = some g → g ≠ w.heap.size + 2 := hs.ne_blk kb (by decide)
    have HTD := hid htd
    clear ht hw kb hs k1 k2 hz blk mm0 mm1 lk an hri hn h1c htd hnb
    rcases (show j = 0 ∨ j = 1 ∨ j = 2 by omega) with rfl | rfl | rfl
    case inr.inr =>
      have hw2 : WMp wr tgj zw most q S2 := HWM.out
      obtain ⟨vA', ms', blk', hzz', mm0, mm1, lk, an, hA'⟩ := hw2
      obtain ⟨sv, ls, hx, hlz, hls, hlk⟩ := lk
      have hal := Lk.all52_of hx
      rw [hlk] at hal
      have hle : S2.ks.length ≤ 512 := by rw [← hlk]; simpa using hx.le
      have HAL := hid hal
      clear blk' hzz' mm0 mm1 an hA' hx hlz hls hlk hal hup0 hup1 hA
      obtain ⟨ns, hns⟩ : ∃ ns, ns = S2.ks.map (·.1) := ⟨_, rfl⟩
      rw [← hns] at HAL HST
      have hnl : ns.length = S2.ks.length := by rw [hns]; simp
      have HNL := hid hnl
      clear hns hnl
      go_wp2_with (go_at_call 52; refine stop_ (fun Ps hPs => ?_))
      refine hPs ?_
      clear hPs Ps
      refine HAL.out.mono ?_
      rintro e' w5 ⟨Bs, A5, cap, rfl, hBs1, hBs2, hcell, hrd, hlc, hcm, hb5, hAb⟩
      have HB5 := hid (And.intro hBs1 (And.intro hBs2 (And.intro hcell (And.intro hrd (And.intro hlc (And.intro hcm (And.intro hb5 hAb)))))))
      clear hBs1 hBs2 hcell hrd hlc hcm hb5 hAb HAL
      go_wp2_with fail
      obtain ⟨hBs1, hBs2, hcell, hrd, hlc, hcm, hb5, hAb⟩ := HB5.out
      obtain ⟨b, off, hA5, hb1, hb2, hos⟩ := rd_at hrd wr.heap.size Bs hAb hBs1 hBs2
      have hri := HRI2.out
      have hw5 : wr.heap.size ≤ w5.heap.size := hb5.size
      have hww : w.heap.size + 3 ≤ wr.heap.size := HH.out.2.1.lt
      have htd5 : Tidy wr tgj := HTD.out _ (Lat.refl _)
      have hW5 : RW w5 Bs b w tag zw most q (st 0) 4 w5 tgj := by
        refine ⟨RI.later (ri_nb (by rw [HST.out.1]; exact hri) (fun k hk => ?_)) ⟨hb5⟩, htd5 _ hw5, htd5 _ (by omega), htd5 _ hBs1, htd5 _ hb1, Nat.le_refl _⟩
        rcases hk with rfl | rfl | rfl | rfl <;> omega
      refine (wpIn_wide (n := 3)).1 ?_
      refine name_tmps (fun T hT => ?_)
      have HTT := hid hT
      have HOS := hid (And.intro hA5 (And.intro hb1 (And.intro hb2 hos)))
      clear hT hos hrd hri
      refine Ea.range_own hro hn3 (gf := 145) (lb := #[P Bs]) (by have hT := HTT.out; subst hT; rfl) trivial (enters_of Tryz.func145 (by kernel_rfl) rfl)
        (Ea.values_seqs Fence.wide 2 trivial hro (by omega) Bs b off cap ns A5 (by have := HNL.out; omega) w5 hcell hBs2 HOS.out.1 (fun _ => hb2) HOS.out.2.2.2 hlc) Lk.Kp2.trans
        (fun W k o o' hk ho hc hwk => ⟨World.putObj_heap_other (by omega), World.putObj_heap_other (by omega)⟩) (fun _ => rfl)
        (fun pre W => ∃ tg', RW w5 Bs b w tag zw most q (st pre.length) (4 + pre.length * 2) W tg')
        (fun pre W o ⟨tg', h⟩ => ⟨tg', h.alloc o⟩)
        (fun pre W r r' ⟨tg', h⟩ hr => ⟨tg', h.putObj (by omega) r' hr⟩)
        ⟨tgj, hW5⟩
        (fun x => { tmps := (T.setIfInBounds 31 (.int .i64 x)).setIfInBounds 5 (.int .i64 x), defers := [] })
        ?assign1 ?body1 ?done1
      case assign1 =>
        intro l x W K hK
        have hT := HTT.out
        subst hT
        simp only [List.setIfInBounds_toArray, List.set_cons_succ, List.set_cons_zero] at hK
        gi_wp2
        exact hK
      case body1 =>
        rintro l pre x W ⟨tg', hrw⟩ hsz hlt hx
        have hT := HTT.out
        subst hT
        simp only [List.setIfInBounds_toArray, List.set_cons_succ, List.set_cons_zero]
        gi_wp2
        -- WALK
        have HX := hid (HST.out.2 _ _ hx)
        obtain ⟨hri, q0, qL1, qb, qc, qs⟩ := hrw
        obtain ⟨A2, n2, c2, xs2, ht2, hw2, kb2, hs2, hn2, h1c2, kk1, kk2, hz2, hnb2⟩ := hri
        have hCALL : ∀ X, Lat W X → Calls Tryz.prog 23 #[P zw, .int .i64 x] X (ADid tg' zw most q 0 0 noStr false 2 (st (pre.length + 1)).s0 (st (pre.length + 1)).s1 (st (pre.length + 1)).last (st (pre.length + 1)).ks X) := fun X l => HX.out X tg' (ht2.td.below l.size) (hw2.later l)
        have HC := hid hCALL
        have c0 : W.drew.cell? ⟨w.heap.size, 0, none⟩ = some (P zw) := kk1.cell 0
        have c3 : W.drew.cell? ⟨w.heap.size + 1 + 1, 4, none⟩ = some (.slice A2 n2 c2) := kb2.cell 4
        have hS0 : S26 (w.heap.size + 1 + 1) w.heap.size (.slice A2 n2 c2) (P zw) (Array.replicate 9 false) W.drew := ⟨fun _ => c3, c0⟩
        have hcl0 : ClosedL .any _ (Array.replicate 9 false) := ClosedL.start (ops := #[{ dst := some 32, op := Op.fieldAddr 34 (Operand.tmp 3) 4, type := 0, pos := "world.go:102", after := #[], guard := none }, { dst := some 33, op := Op.load 32 (Operand.tmp 32), type := 32, pos := "world.go:102", after := #[{ on := 0, ground := Ground.data }], guard := none }, { dst := some 34, op := Op.load 24 (Operand.tmp 1), type := 24, pos := "world.go:102", after := #[], guard := none }, { dst := some 35, op := Op.move (Operand.tmp 5), type := 3, pos := "world.go:102", after := #[], guard := none }, { dst := some 36, op := Op.call { callee := Callee.value (Operand.func 23), args := #[Operand.tmp 34, Operand.tmp 35], argTypes := #[24, 3] }, type := 34, pos := "world.go:102", after := #[{ on := 2, ground := Ground.data }, { on := 3, ground := Ground.data }], guard := none }, { dst := some 37, op := Op.field 34 (Operand.tmp 36) 4, type := 32, pos := "world.go:102", after := #[{ on := 4, ground := Ground.data }], guard := none }, { dst := some 38, op := Op.call { callee := Callee.builtin Builtin.append, args := #[Operand.tmp 33, Operand.tmp 37], argTypes := #[32, 32] }, type := 32, pos := "world.go:102", after := #[{ on := 1, ground := Ground.data }, { on := 5, ground := Ground.data }, { on := 4, ground := Ground.chain }], guard := none }, { dst := some 39, op := Op.fieldAddr 34 (Operand.tmp 3) 4, type := 0, pos := "world.go:102", after := #[{ on := 0, ground := Ground.phase }, { on := 1, ground := Ground.phase }, { on := 2, ground := Ground.phase }, { on := 3, ground := Ground.phase }, { on := 4, ground := Ground.phase }, { on := 5, ground := Ground.phase }, { on := 6, ground := Ground.phase }], guard := none }, { dst := none, op := Op.store 32 (Operand.tmp 39) (Operand.tmp 38), type := 0, pos := "world.go:102", after := #[{ on := 7, ground := Ground.data }, { on := 6, ground := Ground.data }, { on := 6, ground := Ground.chain }, { on := 0, ground := Ground.phase }, { on := 1, ground := Ground.phase }, { on := 2, ground := Ground.phase }, { on := 3, ground := Ground.phase }, { on := 4, ground := Ground.phase }, { on := 5, ground := Ground.phase }, { on := 6, ground := Ground.phase }], guard := none }]) 9
        have HR := hid (And.intro ht2 (And.intro kb2 (And.intro hs2 (And.intro hn2 (And.intro h1c2 (And.intro kk1 (And.intro kk2 (And.intro hz2 hnb2))))))))
        have HQ := hid (And.intro q0 (And.intro qL1 (And.intro qb (And.intro qc (And.intro qs (And.intro hsz (And.intro hlt hx)))))))
        clear ht2 hw2 kb2 hs2 hn2 h1c2 kk1 kk2 hz2 hnb2 q0 qL1 qb qc qs hCALL hx hlt hsz
        refine region_round (by kernel_rfl) (by simp) ?_
        refine anyT_wp (S := S26 (w.heap.size + 1 + 1) w.heap.size (.slice A2 n2 c2) (P zw)) _ _ _ _ ?_
        refine anyT_take 0 (.pointer (some ⟨w.heap.size + 1 + 1, 4, none⟩)) (fun _ => True) (oi := { dst := some 32, op := Op.fieldAddr 34 (Operand.tmp 3) 4, type := 0, pos := "world.go:102", after := #[], guard := none }) rfl (by kernel_rfl) (by kernel_rfl) (by kernel_rfl) (fun _ _ _ h => h) (S26.set (by decide)) (fun _ _ _ _ _ => trivial) hcl0 hS0 rfl ?_ (fun hcl1 hS1 => ?_)
        · intro w' hC
          go_simp
        try simp only [Act.put, List.setIfInBounds_toArray, List.set_cons_zero, List.set_cons_succ]
        refine anyT_take 1 (.slice A2 n2 c2) (fun w' => w'.cell? ⟨w.heap.size + 1 + 1, 4, none⟩ = some (.slice A2 n2 c2)) (oi := { dst := some 33, op := Op.load 32 (Operand.tmp 32), type := 32, pos := "world.go:102", after := #[{ on := 0, ground := Ground.data }], guard := none }) rfl (by kernel_rfl) (by kernel_rfl) (by kernel_rfl) (fun _ _ _ h => h) (S26.set (by decide)) (fun L w hcl h hS => hS.a (hcl.un (by kernel_rfl) h)) hcl1 hS1 rfl ?_ (fun hcl2 hS2 => ?_)
        · intro w' hC
          go_simp
        try simp only [Act.put, List.setIfInBounds_toArray, List.set_cons_zero, List.set_cons_succ]
        refine anyT_take 2 (P zw) (fun w' => w'.cell? ⟨w.heap.size, 0, none⟩ = some (P zw)) (oi := { dst := some 34, op := Op.load 24 (Operand.tmp 1), type := 24, pos := "world.go:102", after := #[], guard := none }) rfl (by kernel_rfl) (by kernel_rfl) (by kernel_rfl) (fun _ _ _ h => h) (S26.set (by decide)) (fun L w hcl h hS => hS.b) hcl2 hS2 rfl ?_ (fun hcl3 hS3 => ?_)
        · intro w' hC
          go_simp
        try simp only [Act.put, List.setIfInBounds_toArray, List.set_cons_zero, List.set_cons_succ]
        refine anyT_take 3 (.int .i64 x) (fun _ => True) (oi := { dst := some 35, op := Op.move (Operand.tmp 5), type := 3, pos := "world.go:102", after := #[], guard := none }) rfl (by kernel_rfl) (by kernel_rfl) (by kernel_rfl) (fun _ _ _ h => h) (S26.set (by decide)) (fun _ _ _ _ _ => trivial) hcl3 hS3 rfl ?_ (fun hcl4 hS4 => ?_)
        · intro w' hC
          go_simp
        try simp only [Act.put, List.setIfInBounds_toArray, List.set_cons_zero, List.set_cons_succ]
        refine anyT_ready [4] (by kernel_rfl) (by simp) ?_
        intro i hi
        obtain rfl := List.mem_singleton.1 hi
        clear hi
        refine op_step (i := 4) (o := { dst := some 36, op := Op.call { callee := Callee.value (Operand.func 23), args := #[Operand.tmp 34, Operand.tmp 35], argTypes := #[24, 3] }, type := 34, pos := "world.go:102", after := #[{ on := 2, ground := Ground.data }, { on := 3, ground := Ground.data }], guard := none }) rfl rfl (fun K hK => ?_)
        go_simp
        go_at_call 23
        (with_reducible refine (HC.out _ ((Lat.refl _).drew)).mono ?_)
        rintro e2 w2 ⟨v2, n3, xs3, tg2, rfl, ht3, hw3, hs3, hn3, h3c⟩
        obtain ⟨A3, c3, hv2, _⟩ := hs3.slice_
        subst hv2
        obtain ⟨ht2, kb2, hs2, hn2, h1c2, kk1, kk2, hz2, hnb2⟩ := HR.out
        have ld : Lat W W.drew := (Lat.refl _).drew
        have kb3 := ht3.blk (ld.blk kb2) (by rw [hz2.2.2]; exact wp_0)
        have kk3 := ht3.blk (ld.blk kk1) (by rw [hz2.1]; exact wp_0)
        have hrow : Sl w2 (Own0 w.heap.size tg2) 3 1 (.slice A2 n2 c2) n2 xs2 := ((hs2.later ld.b).mv (ht3.mv0 wp_0 w.heap.size))
        have c03 : w2.cell? ⟨w.heap.size, 0, none⟩ = some (P zw) := kk3.cell 0
        have c33 : w2.cell? ⟨w.heap.size + 1 + 1, 4, none⟩ = some (.slice A2 n2 c2) := kb3.cell 4
        have hne2 := hs2.ne_blk kb2 (by decide)
        have HK3 := hid (And.intro ht3 (And.intro hw3 (And.intro hs3 (And.intro hn3 (And.intro h3c (And.intro kb3 (And.intro kk3 hrow)))))))
        clear ht3 hw3 hs3 hn3 h3c kb3 kk3 hrow ht2 kb2 hs2 hn2 h1c2 kk1 kk2 hz2 hnb2 ld
        refine hK.out _ _ ⟨⟨fun _ => c33, c03⟩, ?_⟩
        clear hK K
        try simp only [Act.put, List.setIfInBounds_toArray, List.set_cons_zero, List.set_cons_succ]
        refine anyT_ready [5] (by kernel_rfl) (by simp) ?_
        intro i hi
        obtain rfl := List.mem_singleton.1 hi
        clear hi
        refine op_step (i := 5) (o := { dst := some 37, op := Op.field 34 (Operand.tmp 36) 4, type := 32, pos := "world.go:102", after := #[{ on := 4, ground := Ground.data }], guard := none }) rfl rfl (fun K hK => ?_)
        go_simp
        refine hK.out _ _ ⟨⟨fun _ => c33, c03⟩, ?_⟩
        clear hK K
        try simp only [Act.put, List.setIfInBounds_toArray, List.set_cons_zero, List.set_cons_succ]
        refine anyT_ready [6] (by kernel_rfl) (by simp) ?_
        intro i hi
        obtain rfl := List.mem_singleton.1 hi
        clear hi
        refine op_step (i := 6) (o := { dst := some 38, op := Op.call { callee := Callee.builtin Builtin.append, args := #[Operand.tmp 33, Operand.tmp 37], argTypes := #[32, 32] }, type := 32, pos := "world.go:102", after := #[{ on := 1, ground := Ground.data }, { on := 5, ground := Ground.data }, { on := 4, ground := Ground.chain }], guard := none }) rfl rfl (fun K hK => ?_)
        refine wp_append_sl _ T32 (.tmp 33) (.tmp 37) rfl (by rfl) HK3.out.2.2.2.2.2.2.2 (by rfl) HK3.out.2.2.1.rdf HK3.out.2.2.2.2.1 (by have := HR.out.2.2.2.1; have := HK3.out.2.2.2.1; have := HQ.out.2.2.2.2.2.2.1; have := HNL.out; omega) ?_
        intro v8 w8 hv8 hg8 hat8
        obtain ⟨A8, c8, rfl, _, _⟩ := hv8.slice_
        have k8 := HK3.out.2.2.2.2.2.1.gb hg8 fun e => hne2 _ e.symm rfl
        have kk8 := HK3.out.2.2.2.2.2.2.1.gb hg8 fun e => HK3.out.2.2.2.2.2.2.2.ne_blk HK3.out.2.2.2.2.2.2.1 (by decide) _ e.symm rfl
        have c08 : w8.cell? ⟨w.heap.size, 0, none⟩ = some (P zw) := kk8.cell 0
        have c38 : w8.cell? ⟨w.heap.size + 1 + 1, 4, none⟩ = some (.slice A2 n2 c2) := k8.cell 4
        have f38 : w8.frozen? ⟨w.heap.size + 1 + 1, 4, none⟩ = false := k8.frozen 4
        have HG := hid (And.intro hv8 (And.intro hg8 hat8))
        clear hv8 hg8 hat8 k8 kk8
        refine hK.out _ _ ⟨⟨fun _ => c38, c08⟩, ?_⟩
        clear hK K
        try simp only [Act.put, List.setIfInBounds_toArray, List.set_cons_zero, List.set_cons_succ]
        refine anyT_ready [7] (by kernel_rfl) (by simp) ?_
        intro i hi
        obtain rfl := List.mem_singleton.1 hi
        clear hi
        refine op_step (i := 7) (o := { dst := some 39, op := Op.fieldAddr 34 (Operand.tmp 3) 4, type := 0, pos := "world.go:102", after := #[{ on := 0, ground := Ground.phase }, { on := 1, ground := Ground.phase }, { on := 2, ground := Ground.phase }, { on := 3, ground := Ground.phase }, { on := 4, ground := Ground.phase }, { on := 5, ground := Ground.phase }, { on := 6, ground := Ground.phase }], guard := none }) rfl rfl (fun K hK => ?_)
        go_simp
        refine hK.out _ _ ⟨⟨fun _ => c38, c08⟩, ?_⟩
        clear hK K
        try simp only [Act.put, List.setIfInBounds_toArray, List.set_cons_zero, List.set_cons_succ]
        refine anyT_ready [8] (by kernel_rfl) (by simp) ?_
        intro i hi
        obtain rfl := List.mem_singleton.1 hi
        clear hi
        refine op_step (i := 8) (o := { dst := none, op := Op.store 32 (Operand.tmp 39) (Operand.tmp 38), type := 0, pos := "world.go:102", after := #[{ on := 7, ground := Ground.data }, { on := 6, ground := Ground.data }, { on := 6, ground := Ground.chain }, { on := 0, ground := Ground.phase }, { on := 1, ground := Ground.phase }, { on := 2, ground := Ground.phase }, { on := 3, ground := Ground.phase }, { on := 4, ground := Ground.phase }, { on := 5, ground := Ground.phase }, { on := 6, ground := Ground.phase }], guard := none }) rfl rfl (fun K hK => ?_)
        go_simp
        have c09 : (w8.setCell ⟨w.heap.size + 1 + 1, 4, none⟩ (.slice A8 (n2 + n3) c8)).cell? ⟨w.heap.size, 0, none⟩ = some (P zw) := by
          rw [World.cell?_of_block (a := ⟨w.heap.size, 0, none⟩) (Below.heap_setCell _ ⟨w.heap.size + 1 + 1, 4, none⟩ _ w.heap.size (by show w.heap.size ≠ w.heap.size + 1 + 1; omega))]
          exact c08
        refine hK.out _ _ ⟨⟨fun h => by simp at h, c09⟩, ?_⟩
        clear hK K
        try simp only [Act.put, List.setIfInBounds_toArray, List.set_cons_zero, List.set_cons_succ]
        refine anyT_done (by kernel_rfl) ?_
        obtain ⟨ht2, kb2, hs2, hn2, h1c2, kk1, kk2, hz2, hnb2⟩ := HR.out
        obtain ⟨ht3, hw3, hs3, hn3, h3c, kb3, kk3, hrow⟩ := HK3.out
        obtain ⟨hv8, hg8, hat8⟩ := HG.out
        obtain ⟨q0, qL1, qb, qc, qs, hsz, hlt, hx⟩ := HQ.out
        have ld : Lat W W.drew := (Lat.refl _).drew
        have keep := fun (k : Nat) (hk : k = Bs ∨ k = b ∨ k = w5.heap.size ∨ k = w5.heap.size + 1) (hlt : k < W.heap.size) (h0 : tg' k = 0) (hne : k ≠ w.heap.size + 2) => ri_keep (xs := []) (NB := (fun k => k = Bs ∨ k = b ∨ k = w5.heap.size ∨ k = w5.heap.size + 1)) (A8 := A8) (c8 := c8) (n2 := n3) hnb2 hk hlt h0 hne ld ht3 hg8
        obtain ⟨e0, z0⟩ := keep w5.heap.size (.inr (.inr (.inl rfl))) (by omega) q0 (by omega)
        obtain ⟨e1, z1⟩ := keep (w5.heap.size + 1) (.inr (.inr (.inr rfl))) (by omega) qL1 (by omega)
        obtain ⟨e2, z2⟩ := keep Bs (.inl rfl) (by omega) qb (by omega)
        obtain ⟨e3, z3⟩ := keep b (.inr (.inl rfl)) (by omega) qc (by omega)
        have hfin := ri_app (NB := (fun k => k = Bs ∨ k = b ∨ k = w5.heap.size ∨ k = w5.heap.size + 1)) (S' := st (pre.length + 1)) hz2 ht2 kb2 hs2 hn2 h1c2 kk1 kk2 hnb2 (fun k hk => by rcases hk with rfl | rfl | rfl | rfl <;> omega) ld ht3 hw3 hs3 hn3 h3c hv8 hg8 hat8
        have hlen : (pre ++ [x]).length = pre.length + 1 := by simp
        refine ⟨e0, e1, ⟨e2, e3⟩, tg2, ?_⟩
        show RW w5 Bs b w tag zw most q (st (pre ++ [x]).length) (4 + (pre ++ [x]).length * 2) (w8.setCell ⟨w.heap.size + 2, 4, none⟩ (.slice A8 (n2 + n3) c8)) tg2
        rw [hlen]
        refine ⟨?_, z0, z1, z2, z3, ?_⟩
        · have : 4 + (pre.length + 1) * 2 = 4 + pre.length * 2 + 2 := by omega
          rw [this]
          exact hfin
        · have h1 := ht3.size; have h2 := hg8.size; have h3 : W.drew.heap.size = W.heap.size := rfl
          have h4 := (mod_set w8 (w.heap.size + 2) 4 (.slice A8 (n2 + n3) c8)).size
          omega
        -- END
      case done1 =>
        rintro ys W rfl ⟨tg', hrw⟩ hK
        have hT := HTT.out
        subst hT
        obtain ⟨A9, n9, c9, kq2, kq1, kq3, hrL, kq4, hfin⟩ := ri_done (M := 2000) hrw.ri hrw.t0 (by omega) hK (by have := HNL.out; omega)
        obtain ⟨⟨x0, x1, x2, x3, x4⟩, f0, f1, f2, f3, f4⟩ := didcells kq2
        obtain ⟨⟨y0, y1, y2, y3, y4⟩, g0, g1, g2, g3, g4⟩ := didcells kq1
        obtain ⟨⟨z0, z1, z2, z3, z4⟩, _⟩ := didcells kq4
        rw [HNL.out] at hfin
        have HFN := hid hfin
        have HRL := hid hrL
        clear hfin hrL hrw hK kq1 kq2 kq3 kq4
        go_wp2_with fail
        refine ⟨by simp, .inl ⟨_, _, rfl, run_takeDeferred (by exact HRL.out), ?_⟩⟩
        refine ⟨_, ?_, HFN.out⟩
        simp [results, Tryz.results26, Tryz.f26, go_sem, z0, z1, z2, z3, z4]
    case inl =>
      have hTK : ∀ X, Lat wr X → Calls Tryz.prog 51 #[P zw, .int .i64 0] X (ADid tgj zw most q 0 0 noStr false 2 S1.s0 S1.s1 S1.last S1.ks X) := fun X l => HT0.out X tgj (HTD.out X l) (HWM.out.later l)
      have HTK := hid hTK
      clear hTK hA
      go_upto_region 6 with (go_at_call 44; (with_reducible refine hup0.mono ?_); rintro e' w1 ⟨rfl, rfl⟩)
      refine still_panic ?_
      go_region_law (first
        | (go_simp; go_at_call 51; (with_reducible refine (HTK.out _ (by repeat (first | exact Lat.refl _ | refine Lat.drew ?_ | refine Lat.drewN ?_ _ | refine Lat.alloc ?_ _))).mono ?_); rintro e2 w2 ⟨v2, n2, xs2, tg2, rfl, ht2, hw2, hs2, hn2, h2c⟩; obtain ⟨A2, c2, hv2, _⟩ := hs2.slice_; subst hv2; have kb2 := ht2.blk (Lat.blk (by repeat (first | exact Lat.refl _ | refine Lat.drew ?_ | refine Lat.drewN ?_ _ | refine Lat.alloc ?_ _)) HH.out.2.1) (by rw [HH.out.2.2.2.2.2.2.2.2.2]; exact wp_0); have q42 : w2.cell? ⟨w.heap.size + 1 + 1, 4, none⟩ = some (.slice A n c) := kb2.cell 4; have hrow : Sl w2 (Own0 w.heap.size tg2) 3 1 (.slice A n c) n xs := ((HH.out.2.2.1.later (Lat.b (by repeat (first | exact Lat.refl _ | refine Lat.drew ?_ | refine Lat.drewN ?_ _ | refine Lat.alloc ?_ _)))).mv (ht2.mv0 wp_0 w.heap.size)))
        | (refine step_appS (c := c2) T32 (.tmp 18) (.tmp 22) rfl (by rfl) hrow (by go_simp) hs2.rdf (by go_simp) h2c (by have := HH.out.2.2.2.1; omega) ?_; intro v8 w8 hv8 hg8 hat8; obtain ⟨A8, c8, rfl, _, _⟩ := hv8.slice_; have k8 : Blk w8 (w.heap.size + 2) 34 #[.int .i64 0, .int .i64 0, .string noStr, .bool false, .slice A n c] := kb2.gb hg8 fun e => hne _ e.symm rfl; have q48 : w8.cell? ⟨w.heap.size + 1 + 1, 4, none⟩ = some (.slice A n c) := k8.cell 4; have f48 : w8.frozen? ⟨w.heap.size + 1 + 1, 4, none⟩ = false := k8.frozen 4))
      all_goals
        have hfin := ri_app (S' := S1) HH.out.2.2.2.2.2.2.2 HH.out.1 HH.out.2.1 HH.out.2.2.1 HH.out.2.2.2.1 HH.out.2.2.2.2.1 HH.out.2.2.2.2.2.1 HH.out.2.2.2.2.2.2.1 (fun g _ h => h) (fun k h => h.elim) (by repeat (first | exact Lat.refl _ | refine Lat.drew ?_ | refine Lat.drewN ?_ _ | refine Lat.alloc ?_ _)) ht2 hw2 hs2 hn2 h2c hv8 hg8 hat8
        have HF := hid hfin
        obtain ⟨W9, hW9⟩ : ∃ W9, W9 = w8.setCell ⟨w.heap.size + 1 + 1, 4, none⟩ (.slice A8 (n + n2) c8) := ⟨_, rfl⟩
        have HF9 : Hid (RI (fun _ => False) w tag zw most q S1 (0 * 2 + 2) W9 tg2) := hid (by rw [hW9]; exact hfin)
        rw [← hW9]
        clear hfin hW9 q48 f48 HF
        refine noPanic_n ?_
        go_wp2_with fail
        go_roundg (2 - 1)
        case measure => omega
        case rel => exact ⟨1, tg2, by omega, rfl, by go_num, HF9⟩
    case inr.inl =>
      have hTK : ∀ X, Lat wr X → Calls Tryz.prog 51 #[P zw, .int .i64 1] X (ADid tgj zw most q 0 0 noStr false 2 S2.s0 S2.s1 S2.last S2.ks X) := fun X l => HT1.out X tgj (HTD.out X l) (HWM.out.later l)
      have HTK := hid hTK
      clear hTK hA
      go_upto_region 6 with (go_at_call 44; (with_reducible refine hup1.mono ?_); rintro e' w1 ⟨rfl, rfl⟩)
      refine still_panic ?_
      go_region_law (first
        | (go_simp; go_at_call 51; (with_reducible refine (HTK.out _ (by repeat (first | exact Lat.refl _ | refine Lat.drew ?_ | refine Lat.drewN ?_ _ | refine Lat.alloc ?_ _))).mono ?_); rintro e2 w2 ⟨v2, n2, xs2, tg2, rfl, ht2, hw2, hs2, hn2, h2c⟩; obtain ⟨A2, c2, hv2, _⟩ := hs2.slice_; subst hv2; have kb2 := ht2.blk (Lat.blk (by repeat (first | exact Lat.refl _ | refine Lat.drew ?_ | refine Lat.drewN ?_ _ | refine Lat.alloc ?_ _)) HH.out.2.1) (by rw [HH.out.2.2.2.2.2.2.2.2.2]; exact wp_0); have q42 : w2.cell? ⟨w.heap.size + 1 + 1, 4, none⟩ = some (.slice A n c) := kb2.cell 4; have hrow : Sl w2 (Own0 w.heap.size tg2) 3 1 (.slice A n c) n xs := ((HH.out.2.2.1.later (Lat.b (by repeat (first | exact Lat.refl _ | refine Lat.drew ?_ | refine Lat.drewN ?_ _ | refine Lat.alloc ?_ _)))).mv (ht2.mv0 wp_0 w.heap.size)))
        | (refine step_appS (c := c2) T32 (.tmp 18) (.tmp 22) rfl (by rfl) hrow (by go_simp) hs2.rdf (by go_simp) h2c (by have := HH.out.2.2.2.1; omega) ?_; intro v8 w8 hv8 hg8 hat8; obtain ⟨A8, c8, rfl, _, _⟩ := hv8.slice_; have k8 : Blk w8 (w.heap.size + 2) 34 #[.int .i64 0, .int .i64 0, .string noStr, .bool false, .slice A n c] := kb2.gb hg8 fun e => hne _ e.symm rfl; have q48 : w8.cell? ⟨w.heap.size + 1 + 1, 4, none⟩ = some (.slice A n c) := k8.cell 4; have f48 : w8.frozen? ⟨w.heap.size + 1 + 1, 4, none⟩ = false := k8.frozen 4))
      all_goals
        have hfin := ri_app (S' := S2) HH.out.2.2.2.2.2.2.2 HH.out.1 HH.out.2.1 HH.out.2.2.1 HH.out.2.2.2.1 HH.out.2.2.2.2.1 HH.out.2.2.2.2.2.1 HH.out.2.2.2.2.2.2.1 (fun g _ h => h) (fun k h => h.elim) (by repeat (first | exact Lat.refl _ | refine Lat.drew ?_ | refine Lat.drewN ?_ _ | refine Lat.alloc ?_ _)) ht2 hw2 hs2 hn2 h2c hv8 hg8 hat8
        have HF := hid hfin
        obtain ⟨W9, hW9⟩ : ∃ W9, W9 = w8.setCell ⟨w.heap.size + 1 + 1, 4, none⟩ (.slice A8 (n + n2) c8) := ⟨_, rfl⟩
        have HF9 : Hid (RI (fun _ => False) w tag zw most q S2 (1 * 2 + 2) W9 tg2) := hid (by rw [hW9]; exact hfin)
        rw [← hW9]
        clear hfin hW9 q48 f48 HF
        refine noPanic_n ?_
        go_wp2_with fail
        go_roundg (2 - 2)
        case measure => omega
        case rel => exact ⟨2, tg2, by omega, rfl, by go_num, HF9⟩
end Go.Proofs.YtbpnbcjgkbpmgaaGreat
