/- Ops in memory of their own lie apart. -/
import Derived.Test.YtlbekgephjlffaaDa
namespace Go.Proofs.Ytlbekgephjlffaa
open Go.RowKit Go.Lg
set_option linter.unusedVariables false
set_option linter.unusedSimpArgs false

theorem T38 : SlT Try.prog 38 33 1 24 := SlT.mk' (.slice none 0 0) Try.underlying38 (by kernel_rfl) rfl (by decide) (by decide)
/-- Two lists of the same ops; k of them are copied, m of them are written over. -/
structure Aq (base H p0 k m : Nat) (vs ws : List Value) (L : List Op3) (w wr : World) : Prop where
  was : wr.ownsRow H 33 1 (.slice (some ⟨H, 0, none⟩) 2 2) 2 ws
  cop : ∀ (i : Nat) u, i < k → ws[i]? = some u → wr.ownsRow H 43 3 u L.length (opc L)
  row : ∀ (i : Nat) v, vs[i]? = some v → wr.ownsRow base 43 3 v L.length (opc (if i < m then L.map til else L)) ∧ (∀ g, v.ownBlock = some g → g < H)
  out : Rd wr H 1 (some ⟨p0, 0, none⟩) 2 vs
  low : Below base w wr
  hz : H ≤ wr.heap.size
  hbase : base ≤ H
  apart : ∀ (i j : Nat) v v', i ≠ j → vs[i]? = some v → vs[j]? = some v' → ∀ g, v.ownBlock = some g → v'.ownBlock ≠ some g
  outne : ∀ (i : Nat) v, vs[i]? = some v → v.ownBlock ≠ some p0

section
variable {base H p0 k m : Nat} {vs ws : List Value} {L : List Op3} {w wr w1 : World}
theorem Aq.drewN (h : Aq base H p0 k m vs ws L w wr) (d : Nat) : Aq base H p0 k m vs ws L w (wr.drewN d) :=
  ⟨h.was, h.cop, h.row, h.out, below_drewN h.low d, h.hz, h.hbase, h.apart, h.outne⟩
theorem Aq.copied (h : Aq base H p0 k m vs ws L w wr) {u : Value} (hu : w1.ownsRow wr.heap.size 43 3 u L.length (opc L)) (hb : Below wr.heap.size wr w1) :
    Aq base H p0 (k + 1) m vs (ws.set k u) L w (w1.setCell ⟨H, k, none⟩ u) := by
  have hW := h.was.lt H rfl
  have hws := owned_later h.was hb
  have hst := hws.stored k u
  have hH := h.hz
  have hB := h.hbase
  have h5 : ∀ {b n : Nat} {v : Value} {ys : List Value}, w1.ownsRow b 43 3 v n ys → (w1.setCell ⟨H, k, none⟩ u).ownsRow b 43 3 v n ys := fun ho =>
    owned_gb ho hst.2 fun g hg he => ne_by_type hws ho (by decide) H rfl (by rw [hg, Option.some.inj he])
  refine ⟨hst.1, ?_, ?_, ?_, ?_, by have := hb.size; simp; omega, h.hbase, h.apart, h.outne⟩
  · intro i u' hi hu'
    rcases Nat.lt_or_ge i k with hlt | hge
    · rw [List.getElem?_set_ne (by omega)] at hu'
      exact h5 (owned_later (h.cop i u' hlt hu') hb)
    · obtain rfl : i = k := by omega
      have hk : i < ws.length := by
        rcases Nat.lt_or_ge i ws.length with q | q
        · exact q
        · rw [List.getElem?_eq_none (by simpa using q)] at hu'; cases hu'
      rw [List.getElem?_set_self hk] at hu'
      obtain rfl := Option.some.inj hu'
      exact h5 (owned_less hu h.hz)
  · intro i v hv
    obtain ⟨h1, h2⟩ := h.row i v hv
    exact ⟨h5 (owned_later h1 hb), h2⟩
  · exact (h.out.keep fun p hp => hb.cell (by omega)).setCell hW.1 u
  · exact (h.low.trans (hb.mono (by omega))).setCell (by show base ≤ H; omega) u
/-- The m-th is written over. -/
theorem Aq.overd (h : Aq base H p0 k m vs ws L w wr) {v : Value} (hv : vs[m]? = some v) (ho : w1.ownsRow base 43 3 v L.length (opc (L.map til))) (hg : wr.grownBy w1 v.ownBlock) : Aq base H p0 k (m + 1) vs ws L w w1 := by
  have hlow := (h.row m v hv).2
  refine ⟨owned_gb h.was hg fun g hg' he => ?_, ?_, ?_, ?_, ?_, Nat.le_trans h.hz hg.size, h.hbase, h.apart, h.outne⟩
  · have := hlow g he.symm
    have h2 := (h.was.lt g hg').1
    omega
  · intro i u hi hu
    have hc := h.cop i u hi hu
    refine owned_gb hc hg fun g hg' he => ?_
    have := hlow g he.symm
    have h2 := (hc.lt g hg').1
    omega
  · intro i v' hv'
    obtain ⟨h1, h2⟩ := h.row i v' hv'
    by_cases him : i = m
    · subst him
      obtain rfl := Option.some.inj (hv.symm.trans hv')
      rw [if_pos (by omega)]
      exact ⟨ho, h2⟩
    · have hio : (if i < m + 1 then L.map til else L) = (if i < m then L.map til else L) := by
        by_cases h : i < m
        · rw [if_pos h, if_pos (by omega)]
        · rw [if_neg h, if_neg (by omega)]
      rw [hio]
      exact ⟨owned_gb h1 hg fun g hg' he => h.apart i m v' v him hv' hv g hg' he.symm, h2⟩
  · refine ⟨h.out.1, fun hn => ?_⟩
    obtain ⟨b, off, hA, hb, hc⟩ := h.out.2 hn
    refine ⟨b, off, hA, hb, fun j u hu => ?_⟩
    rw [← hc j u hu]
    refine World.cell?_of_block (hg.block b (Nat.lt_of_lt_of_le hb h.hz) fun he => ?_)
    simp only [Option.some.injEq, Addr.mk.injEq, and_true] at hA
    rw [← hA.1] at he
    exact h.outne m v hv he.symm
  · exact h.low.grown hg (Nat.le_trans h.hbase h.hz) fun g he => ((h.row m v hv).1.lt g he).1
theorem Aq.at_ (h : Aq base H p0 k m vs ws L w wr) {i : Nat} (hi : i < 2) : ∃ A c, vs[i]? = some (.slice A L.length c) ∧ L.length ≤ c ∧ wr.cell? ⟨p0, i, none⟩ = some (.slice A L.length c) ∧ wr.ownsRow base 43 3 (.slice A L.length c) L.length (opc (if i < m then L.map til else L)) := by
  obtain ⟨b, off, v, hbo, hb, hv, hc⟩ := h.out.at_ hi
  simp only [Option.some.injEq, Addr.mk.injEq, and_true] at hbo
  obtain ⟨rfl, rfl⟩ := hbo
  rw [Nat.zero_add] at hc
  obtain ⟨A, c, rfl, h1, h2⟩ := owned_slice (h.row i v hv).1
  exact ⟨A, c, hv, h1, hc, (h.row i _ hv).1⟩
theorem Aq.was_at (h : Aq base H p0 k m vs ws L w wr) {i : Nat} (hi : i < 2) (hk : i < k) : ∃ A c, wr.cell? ⟨H, i, none⟩ = some (.slice A L.length c) ∧ L.length ≤ c ∧ wr.ownsRow H 43 3 (.slice A L.length c) L.length (opc L) := by
  have hwas := h.was
  obtain ⟨u, hu⟩ : ∃ u, ws[i]? = some u := ⟨ws[i]'(by rw [hwas.1]; omega), List.getElem?_eq_getElem _⟩
  have hcw := hwas.cellAt i (by omega)
  rw [hu] at hcw
  have hcp := h.cop i u hk hu
  obtain ⟨A, c, rfl, h1, h2⟩ := owned_slice hcp
  exact ⟨A, c, hcw, h1, hcp⟩
end

set_option maxHeartbeats 8000000 in
set_option maxRecDepth 100000 in
theorem apart16 (base : Nat) (vx vy : Value) (L : List Op3) (w : World) (hx : w.ownsRow base 43 3 vx L.length (opc L)) (hy : w.ownsRow base 43 3 vy L.length (opc L))
    (hxy : ∀ g, vx.ownBlock = some g → vy.ownBlock ≠ some g) (hbase : base ≤ w.heap.size) (hl : L.length ≤ 500) (hk : ∀ o ∈ L, o.key.size ≤ 1000) :
    Calls Try.prog 16 #[.slice (some ⟨w.heap.size, 0, none⟩) 2 2] (w.alloc (.cells #[vx, vy] 33)) fun e w' => e = .returned (.bool true) ∧ Below base w w' := by
  obtain ⟨i0, z0, hi, hz, hs1, hs2, hs3⟩ := T38.hi
  have hbyt : i0.bytes * 2 ≤ 281474976710656 := by rw [hs2]; omega
  have hout : Rd (w.alloc (.cells #[vx, vy] 33)) (w.alloc (.cells #[vx, vy] 33)).heap.size 1 (some ⟨w.heap.size, 0, none⟩) 2 [vx, vy] := Rd.lit0 w #[vx, vy] 33 2 rfl
  have hx0 := hx.alloc (.cells #[vx, vy] 33)
  have hy0 := hy.alloc (.cells #[vx, vy] 33)
  have hlow := (Below.refl base w).alloc hbase (.cells #[vx, vy] 33)
  have hsz : w.heap.size < (w.alloc (.cells #[vx, vy] 33)).heap.size := by simp
  have hxl : ∀ g, vx.ownBlock = some g → g < w.heap.size := fun g hg => (hx.lt g hg).2
  have hyl : ∀ g, vy.ownBlock = some g → g < w.heap.size := fun g hg => (hy.lt g hg).2
  obtain ⟨p0, hp0⟩ : ∃ p, p = w.heap.size := ⟨_, rfl⟩
  obtain ⟨V, hV⟩ : ∃ V, V = w.alloc (.cells #[vx, vy] 33) := ⟨_, rfl⟩
  rw [← hV, ← hp0] at hout hsz
  rw [← hV] at hx0 hy0 hlow
  rw [← hp0] at hxl hyl hbase
  rw [← hV, ← hp0]
  have HL := hid hl
  have HK := hid hk
  clear hV hp0 hx hy hl hk
  go_enter Try.func16, Try.ntmps16
  go_wp2_with (at_make; refine stop_ (fun Ps hPs => ?_))
  refine hPs ?_
  clear hPs Ps
  refine wpList_make_full _ rfl (.tmp 9) (.tmp 9) 38 rfl V.heap.size 33 i0 z0 1 T38.ht hi hz hs1 .i64 .i64 2 2 2 rfl rfl rfl rfl hbyt (by decide) (Nat.le_refl _) fun w1 hw1 hg1 => ?_
  have hb1 : Below V.heap.size V w1 := (Below.refl _ _).grown hg1 (Nat.le_refl _) (by intro k hk; cases hk)
  obtain ⟨ws0, hws0⟩ : ∃ ws0, ws0 = (madeCells z0.cells (2 * 1)).toList := ⟨_, rfl⟩
  rw [← hws0] at hw1
  obtain ⟨H, hH⟩ : ∃ H, H = V.heap.size := ⟨_, rfl⟩
  have hap : Aq base H p0 0 0 [vx, vy] ws0 L w w1 := by
    have hbV : base ≤ V.heap.size := by omega
    rw [hH]
    refine ⟨hw1, fun i u hi => absurd hi (by omega), ?_, hout.below hb1, hlow.trans (hb1.mono hbV), hb1.size, hbV, ?_, ?_⟩
    · intro i v hv
      rw [if_neg (by omega)]
      match i, hv with
      | 0, hv =>
        simp at hv
        subst hv
        exact ⟨owned_later hx0 hb1, fun g hg => by have := hxl g hg; omega⟩
      | 1, hv =>
        simp at hv
        subst hv
        exact ⟨owned_later hy0 hb1, fun g hg => by have := hyl g hg; omega⟩
      | i + 2, hv => simp at hv
    · intro i j v v' hij hv hv' g hg hg'
      match i, j, hv, hv' with
      | 0, 0, _, _ => exact hij rfl
      | 1, 1, _, _ => exact hij rfl
      | 0, 1, hv, hv' =>
        simp at hv hv'
        subst hv hv'
        exact hxy g hg hg'
      | 1, 0, hv, hv' =>
        simp at hv hv'
        subst hv hv'
        exact hxy g hg' hg
      | i + 2, _, hv, _ => simp at hv
      | 0, j + 2, _, hv' => simp at hv'
      | 1, j + 2, _, hv' => simp at hv'
    · intro i v hv hg
      match i, hv with
      | 0, hv =>
        simp at hv
        subst hv
        have := hxl _ hg
        omega
      | 1, hv =>
        simp at hv
        subst hv
        have := hyl _ hg
        omega
      | i + 2, hv => simp at hv
  rw [← hH]
  clear hws0 hw1 hg1 hb1 hout hH hi hz hs1 hs2 hs3 hbyt hx0 hy0 hlow hxl hyl hxy
  obtain ⟨vs, hvs⟩ : ∃ vs, vs = [vx, vy] := ⟨_, rfl⟩
  rw [← hvs] at hap
  clear hvs
  go_wp2_with fail
  go_loopg [4] 2 (fun k i wr => ∃ (j : Nat) (ws : List Value), j ≤ 2 ∧ k = 2 - j ∧ i = .int .i64 j ∧ Aq base H p0 j 0 vs ws L w wr)
  case atStart => exact ⟨0, ws0, by omega, rfl, rfl, hap⟩
  case round =>
    clear hap
    obtain ⟨j, ws, hj, rfl, rfl, hap⟩ := hrel
    by_cases hlt : j < 2
    · obtain ⟨A1, c1, hv, h3, hc, hr⟩ := hap.at_ hlt
      rw [if_neg (by omega)] at hr
      have hrd : OS wr wr.heap.size A1 L.length L := ⟨Rd.of_own hr, rfl⟩
      have hji : (j : Int) < 2 := by omega
      have hcc := copyops29 A1 L.length c1 L wr hrd (by have := HL.out; omega)
      have HAp := hid hap
      clear hv hr hap hrd
      go_wp2_with (go_at_call 29; refine stop_ (fun Ps hPs => ?_))
      refine hPs ?_
      clear hPs Ps
      refine hcc.mono ?_
      clear hcc
      rintro e w2 ⟨u, rfl, hu, hbu⟩
      have hap2 := HAp.out.copied hu hbu
      have hwas := owned_later HAp.out.was hbu
      have hcw : ∃ x, w2.cell? ⟨H, j, none⟩ = some x := by
        rw [hwas.cellAt j (by omega)]
        exact ⟨_, List.getElem?_eq_getElem (by rw [hwas.1]; omega)⟩
      obtain ⟨x, hcw⟩ := hcw
      have hfw := hwas.frozenAt j
      obtain ⟨A2, c2, rfl, h5, h6⟩ := owned_slice hu
      have HAp2 := hid hap2
      clear hap2 hwas hu hbu hc
      go_wp2_with fail
      go_roundg (2 - (j + 1))
      case measure => omega
      case rel => exact ⟨j + 1, _, by omega, rfl, by go_num, HAp2.out⟩
    · obtain rfl : j = 2 := by omega
      have HAp := hid hap
      clear hap hlt hj
      obtain ⟨w3, hw3⟩ : ∃ w3, w3 = wr := ⟨_, rfl⟩
      rw [← hw3] at HAp ⊢
      clear hw3
      go_wp2_with fail
      go_loopg [5] 2 (fun k i wr => ∃ (f : Nat), f ≤ 2 ∧ k = 2 - f ∧ i = .int .i64 f ∧ Aq base H p0 2 f vs ws L w wr)
      case atStart => exact ⟨0, by omega, rfl, rfl, HAp.out⟩
      case round =>
        clear HAp
        obtain ⟨f, hf, rfl, rfl, hap⟩ := hrel
        by_cases hlt : f < 2
        · obtain ⟨A1, c1, hv, h3, hc, hr⟩ := hap.at_ hlt
          rw [if_neg (by omega)] at hr
          obtain ⟨A2, c2, hcw, h4, hcp⟩ := hap.was_at hlt hlt
          have hrd : OS wr wr.heap.size A1 L.length L := ⟨Rd.of_own hr, rfl⟩
          have hrd2 : OS wr wr.heap.size A2 L.length L := ⟨Rd.of_own hcp, rfl⟩
          have hfi : (f : Int) < 2 := by omega
          have HC := hid (fun d => same15 A1 A2 L.length c1 c2 _ _ L (wr.drewN d) ⟨hrd.1.drewN d, rfl⟩ ⟨hrd2.1.drewN d, rfl⟩ (by have := HL.out; omega))
          have HAp := hid hap
          have HV := hid hv
          have HR := hid hr
          clear hap hv hr hcp hrd hrd2
          go_wp2_with fail
          go_quiet ((go_at_call 15; exact Calls.quiet_of (HC.out _)))
          have hov := over30 base A1 L.length c1 L (wr.drewN nq) HR.out rfl (by have := HL.out; omega) HK.out
          go_wp2_with (go_at_call 30; refine stop_ (fun Ps hPs => ?_))
          refine hPs ?_
          clear hPs Ps
          refine hov.mono ?_
          clear hov hc hcw
          rintro e w5 ⟨rfl, ho5, hg5⟩
          have HAp2 := hid ((HAp.out.drewN nq).overd HV.out ho5 hg5)
          clear ho5 hg5
          go_wp2_with fail
          go_roundg (2 - (f + 1))
          case measure => omega
          case rel => exact ⟨f + 1, by omega, rfl, by go_num, HAp2.out⟩
        · obtain rfl : f = 2 := by omega
          have HAp := hid hap
          clear hap hlt hf
          obtain ⟨w4, hw4⟩ : ∃ w4, w4 = wr := ⟨_, rfl⟩
          rw [← hw4] at HAp ⊢
          clear hw4
          go_wp2_with fail
          go_loopg [6] 2 (fun k i wr => ∃ (q d : Nat), q ≤ 2 ∧ k = 2 - q ∧ i = .int .i64 q ∧ wr = w4.drewN d)
          case atStart => exact ⟨0, 0, by omega, rfl, rfl, rfl⟩
          case round =>
            obtain ⟨q, d, hq, rfl, rfl, hwd⟩ := hrel
            have HWD := hid hwd
            clear hwd
            by_cases hlt : q < 2
            · have hqi : (q : Int) < 2 := by omega
              go_wp2_with fail
              go_loopg [7] L.length (fun k i wr => ∃ (p d : Nat), p ≤ L.length ∧ k = L.length - p ∧ i = .int .i64 p ∧ wr = w4.drewN d)
              case atStart => exact ⟨0, d, by omega, rfl, rfl, HWD.out⟩
              case round =>
                clear HWD
                obtain ⟨p, d, hp, rfl, rfl, hwd⟩ := hrel
                have hap : Aq base H p0 2 2 vs ws L w wr := by rw [hwd]; exact HAp.out.drewN d
                have HWD := hid hwd
                obtain ⟨A1, c1, hv, h3, hc, hr⟩ := hap.at_ hlt
                rw [if_pos hlt] at hr
                clear hwd
                by_cases hplt : p < L.length
                · obtain ⟨A2, c2, hcw, h4, hcp⟩ := hap.was_at hlt hlt
                  have hrd : OS wr wr.heap.size A1 L.length (L.map til) := ⟨Rd.of_own hr, by simp⟩
                  have hrd2 : OS wr wr.heap.size A2 L.length L := ⟨Rd.of_own hcp, rfl⟩
                  obtain ⟨b, off, pp, kk, vv, rfl, hbB, ho, x0, x1, x2⟩ := hrd.at_ hplt
                  obtain ⟨b2, off2, pp2, kk2, vv2, rfl, hbB2, ho2, y0, y1, y2⟩ := hrd2.at_ hplt
                  rw [List.getElem?_map, ho2] at ho
                  simp only [Option.map_some, Option.some.injEq, til, Op3.mk.injEq] at ho
                  obtain ⟨_, rfl, _⟩ := ho
                  have hsz9 : ¬9223372036854775807 < kk2.size + 1 := by have := HK.out _ (List.mem_of_getElem? ho2); simp only at this; omega
                  have hpi : (p : Int) < (L.length : Int) := by omega
                  have hqq : ((kk2 ++ ⟨#[126]⟩ : ByteArray).toList == (kk2 ++ ⟨#[126]⟩ : ByteArray).toList) = true := by simp
                  have hL5 := HL.out
                  clear hap hv hr hcp hrd hrd2 ho2
                  go_wp2_with fail
                  go_quiet (fail)
                  go_wp2_with fail
                  go_roundg (L.length - (p + 1))
                  case measure => omega
                  case rel => exact ⟨p + 1, d + nq, by omega, rfl, by go_num, by rw [HWD.out, World.drewN_drewN]⟩
                · obtain rfl : p = L.length := by omega
                  have hpi : ¬(L.length : Int) < (L.length : Int) := by omega
                  clear hap hv hr
                  go_wp2_with fail
                  go_roundg (2 - (q + 1))
                  case measure => omega
                  case rel => exact ⟨q + 1, d, by omega, rfl, by go_num, HWD.out⟩
            · obtain rfl : q = 2 := by omega
              have hlw : Below base w wr := by rw [HWD.out]; exact below_drewN HAp.out.low d
              clear HAp HWD
              go_wp2_with fail
              go_ret
              exact ⟨rfl, hlw⟩
end Go.Proofs.Ytlbekgephjlffaa
