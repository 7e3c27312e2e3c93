/- Starts in memory of their own stay apart. -/
import Derived.Test.YtmlfbjcgmbdafaaSj
namespace Go.Proofs.Ytmlfbjcgmbdafaa
open Go.RowKit Go.Lg
set_option linter.unusedVariables false
set_option linter.unusedSimpArgs false

theorem ne_by_type {w : World} {b b' : Nat} {e e' : TypeId} {sz sz' n n' : Nat} {v v' : Value} {xs xs' : List Value} (h : w.ownsRow b e sz v n xs) (h' : w.ownsRow b' e' sz' v' n' xs') (hne : e ≠ e') :
    ∀ g, v.ownBlock = some g → v'.ownBlock ≠ some g := by
  intro g hg hg'
  rcases h.2 with ⟨rfl, _⟩ | ⟨g1, c1, cur1, rfl, _, h1, _⟩
  · simp [Value.ownBlock] at hg
  rcases h'.2 with ⟨rfl, _⟩ | ⟨g2, c2, cur2, rfl, _, h2, _⟩
  · simp [Value.ownBlock] at hg'
  simp [Value.ownBlock] at hg hg'
  subst hg hg'
  rw [h1] at h2
  injection h2 with h2
  injection h2 with _ h2
  exact hne h2

theorem own_some {w : World} {b : Nat} {e : TypeId} {sz n c : Nat} {A : Option Addr} {xs : List Value} (h : w.ownsRow b e sz (.slice A n c) n xs) (hn : 0 < n ∨ 0 < c) : ∃ g, A = some ⟨g, 0, none⟩ := by
  rcases h.2 with ⟨q, _⟩ | ⟨g1, c1, cur1, q, _⟩
  · simp only [Value.slice.injEq] at q
    omega
  · simp only [Value.slice.injEq] at q
    exact ⟨g1, q.1⟩
structure As (base H k : Nat) (A : Option Addr) (vs ws : List Value) (ls : List (List (Int × Int))) (va : Value) (na : Nat) (xs : List Value) (w wr : World) : Prop where
  was : wr.ownsRow H 22 1 (.slice (some ⟨H, 0, none⟩) 2 2) 2 ws
  cop : ∀ (i : Nat) u l, i < k → ws[i]? = some u → ls[i]? = some l → wr.ownsRow H 58 2 u l.length (sts l)
  row : ∀ (i : Nat) v l, vs[i]? = some v → ls[i]? = some l → wr.ownsRow base 58 2 v l.length (sts l) ∧ (∀ g, v.ownBlock = some g → g < H)
  out : Rd wr H 1 A 2 vs
  low : Below base w wr
  hz : H ≤ wr.heap.size
  hbase : base ≤ H
  len : ls.length = 2
  mine : wr.ownsRow base 58 2 va na xs
  mlow : ∀ g, va.ownBlock = some g → g < H
  apart : ∀ v, v ∈ vs → ∀ g, va.ownBlock = some g → v.ownBlock ≠ some g
  outne : ∀ b off, A = some ⟨b, off, none⟩ → va.ownBlock ≠ some b

section
variable {base H k na : Nat} {A : Option Addr} {va : Value} {vs ws xs : List Value} {ls : List (List (Int × Int))} {w wr w1 : World}

theorem As.drewN (h : As base H k A vs ws ls va na xs w wr) (d : Nat) : As base H k A vs ws ls va na xs w (wr.drewN d) :=
  ⟨h.was, h.cop, h.row, h.out, below_drewN h.low d, h.hz, h.hbase, h.len, h.mine, h.mlow, h.apart, h.outne⟩
/-- The k-th is copied. -/
theorem As.copied (h : As base H k A vs ws ls va na xs w wr) {u : Value} {l : List (Int × Int)} (hl : ls[k]? = some l) (hu : w1.ownsRow wr.heap.size 58 2 u l.length (sts l)) (hb : Below wr.heap.size wr w1) :
    As base H (k + 1) A vs (ws.set k u) ls va na xs w (w1.setCell ⟨H, k, none⟩ u) := by
  have hW := h.was.lt H rfl
  have hws := owned_later h.was hb
  have hst := hws.stored k u
  have hH := h.hz
  have hB := h.hbase
  have h5 : ∀ {b n : Nat} {v : Value} {ys : List Value}, w1.ownsRow b 58 2 v n ys → (w1.setCell ⟨H, k, none⟩ u).ownsRow b 58 2 v n ys := fun ho =>
    owned_gb ho hst.2 fun g hg he => ne_by_type hws ho (by decide) H rfl (by rw [hg, Option.some.inj he])
  refine ⟨hst.1, ?_, ?_, ?_, ?_, by have := hb.size; simp; omega, h.hbase, h.len, h5 (owned_later h.mine hb), h.mlow, h.apart, h.outne⟩
  · intro i u' l' hi hu' hl'
    rcases Nat.lt_or_ge i k with hlt | hge
    · rw [List.getElem?_set_ne (by omega)] at hu'
      exact h5 (owned_later (h.cop i u' l' hlt hu' hl') hb)
    · obtain rfl : i = k := by omega
      have hk : i < ws.length := by
        rcases Nat.lt_or_ge i ws.length with q | q
        · exact q
        · rw [List.getElem?_eq_none (by simpa using q)] at hu'; cases hu'
      rw [List.getElem?_set_self hk] at hu'
      obtain rfl := Option.some.inj hu'
      obtain rfl := Option.some.inj (hl.symm.trans hl')
      exact h5 (owned_less hu h.hz)
  · intro i v l' hv hl'
    obtain ⟨h1, h2⟩ := h.row i v l' hv hl'
    exact ⟨h5 (owned_later h1 hb), h2⟩
  · exact (h.out.keep fun p hp => hb.cell (by omega)).setCell hW.1 u
  · exact (h.low.trans (hb.mono (by omega))).setCell (by show base ≤ H; omega) u
/-- What is written over lies apart. -/
theorem As.over (h : As base H k A vs ws ls va na xs w wr) {va' : Value} {na' : Nat} {xs' : List Value} (ho : w1.ownsRow base 58 2 va' na' xs') (hg : wr.grownBy w1 va.ownBlock) (hv : va'.ownBlock = va.ownBlock) :
    As base H k A vs ws ls va' na' xs' w w1 := by
  refine ⟨owned_gb h.was hg fun g hg' he => ?_, ?_, ?_, ?_, ?_, Nat.le_trans h.hz hg.size, h.hbase, h.len, ho, by rw [hv]; exact h.mlow, by rw [hv]; exact h.apart, by rw [hv]; exact h.outne⟩
  · have := h.mlow g he.symm
    have h2 := (h.was.lt g hg').1
    omega
  · intro i u l' hi hu hl'
    have hc := h.cop i u l' hi hu hl'
    refine owned_gb hc hg fun g hg' he => ?_
    have := h.mlow g he.symm
    have h2 := (hc.lt g hg').1
    omega
  · intro i v' l' hv' hl'
    obtain ⟨h1, h2⟩ := h.row i v' l' hv' hl'
    exact ⟨owned_gb h1 hg fun g hg' he => h.apart v' (List.mem_of_getElem? hv') g he.symm hg', h2⟩
  · refine ⟨h.out.1, fun hn => ?_⟩
    obtain ⟨b, off, hA, hb, hc⟩ := h.out.2 hn
    refine ⟨b, off, hA, hb, fun j u hu => ?_⟩
    rw [← hc j u hu]
    refine World.cell?_of_block (hg.block b (Nat.lt_of_lt_of_le hb h.hz) fun he => ?_)
    exact h.outne b off hA he.symm
  · refine h.low.grown hg (Nat.le_trans h.hbase h.hz) fun g he => ?_
    exact (h.mine.lt g he).1
end

theorem same14_self (A A' : Option Addr) (n c n' c' B B' : Nat) (l : List (Int × Int)) (w : World) (h : SS w B A n l) (h' : SS w B' A' n' l) (hn : n ≤ 140737488355328) (hn' : n' ≤ 140737488355328) :
    Calls Try.prog 14 #[.slice A n c, .slice A' n' c'] w fun e w' => e = .returned (.bool true) ∧ ∃ d, w' = w.drewN d :=
  (same14 A A' n c n' c' B B' l l w h h' hn hn').mono fun e w' ⟨h1, h2⟩ => ⟨by rw [h1, decide_eq_true rfl], h2⟩
theorem T35 : SlT Try.prog 35 22 1 24 := SlT.mk' (.slice none 0 0) Try.underlying35 (by kernel_rfl) rfl (by decide) (by decide)

set_option maxHeartbeats 8000000 in
set_option maxRecDepth 100000 in
theorem apart21 (base : Nat) (va vx vu : Value) (lt lx lu : List (Int × Int)) (w : World) (ha : w.ownsRow base 58 2 va lt.length (sts lt)) (hx : w.ownsRow base 58 2 vx lx.length (sts lx)) (hu : w.ownsRow base 58 2 vu lu.length (sts lu))
    (hax : ∀ g, va.ownBlock = some g → vx.ownBlock ≠ some g) (hau : ∀ g, va.ownBlock = some g → vu.ownBlock ≠ some g) (hbase : base ≤ w.heap.size) (h1 : lt.length ≤ 500) (h2 : lx.length ≤ 500) (h3 : lu.length ≤ 500) :
    Calls Try.prog 21 #[va, .slice (some ⟨w.heap.size, 0, none⟩) 2 2] (w.alloc (.cells #[vx, vu] 22)) fun e w' => e = .returned (.bool true) ∧ Below base w w' := by
  obtain ⟨i0, z0, hi, hz, hs1, hs2, hs3⟩ := T35.hi
  have hbyt : i0.bytes * 2 ≤ 281474976710656 := by rw [hs2]; omega
  obtain ⟨Aa, ca, rfl, ga1, ga2⟩ := owned_slice ha
  have hout : Rd (w.alloc (.cells #[vx, vu] 22)) (w.alloc (.cells #[vx, vu] 22)).heap.size 1 (some ⟨w.heap.size, 0, none⟩) 2 [vx, vu] := Rd.lit0 w #[vx, vu] 22 2 rfl
  have ha0 := ha.alloc (.cells #[vx, vu] 22)
  have hx0 := hx.alloc (.cells #[vx, vu] 22)
  have hu0 := hu.alloc (.cells #[vx, vu] 22)
  have hlow := (Below.refl base w).alloc hbase (.cells #[vx, vu] 22)
  have hsz : w.heap.size < (w.alloc (.cells #[vx, vu] 22)).heap.size := by simp
  have hal : ∀ g, (Value.slice Aa lt.length ca).ownBlock = some g → g < w.heap.size := fun g hg => (ha.lt g hg).2
  have hxl : ∀ g, vx.ownBlock = some g → g < w.heap.size := fun g hg => (hx.lt g hg).2
  have hul : ∀ g, vu.ownBlock = some g → g < w.heap.size := fun g hg => (hu.lt g hg).2
  obtain ⟨p0, hp0⟩ : ∃ p, p = w.heap.size := ⟨_, rfl⟩
  obtain ⟨V, hV⟩ : ∃ V, V = w.alloc (.cells #[vx, vu] 22) := ⟨_, rfl⟩
  rw [← hV, ← hp0] at hout hsz
  rw [← hV] at ha0 hx0 hu0 hlow
  rw [← hp0] at hal hxl hul hbase
  rw [← hV, ← hp0]
  obtain ⟨na, hna⟩ : ∃ n, n = lt.length := ⟨_, rfl⟩
  rw [← hna] at ha0 ha hal hax hau ga1 h1 ⊢
  clear hV hp0 ha hx hu hna
  go_enter Try.func21, Try.ntmps21
  go_wp2_with (at_make; refine stop_ (fun Ps hPs => ?_))
  refine hPs ?_
  clear hPs Ps
  refine wpList_make_full _ rfl (.tmp 11) (.tmp 11) 35 rfl V.heap.size 22 i0 z0 1 T35.ht hi hz hs1 .i64 .i64 2 2 2 rfl rfl rfl rfl hbyt (by decide) (Nat.le_refl _) fun w1 hw1 hg1 => ?_
  have hb1 : Below V.heap.size V w1 := (Below.refl _ _).grown hg1 (Nat.le_refl _) (by intro k hk; cases hk)
  obtain ⟨ws0, hws0⟩ : ∃ ws0, ws0 = (madeCells z0.cells (2 * 1)).toList := ⟨_, rfl⟩
  rw [← hws0] at hw1
  obtain ⟨H, hH⟩ : ∃ H, H = V.heap.size := ⟨_, rfl⟩
  have hap : As base H 0 (some ⟨p0, 0, none⟩) [vx, vu] ws0 [lx, lu] (.slice Aa na ca) na (sts lt) w w1 := by
    have hbV : base ≤ V.heap.size := by omega
    rw [hH]
    refine ⟨hw1, fun i u l hi => absurd hi (by omega), ?_, hout.below hb1, hlow.trans (hb1.mono hbV), hb1.size, hbV, rfl, owned_later ha0 hb1, fun g hg => by have := hal g hg; omega, ?_, ?_⟩
    · intro i v l hv hl
      match i, hv, hl with
      | 0, hv, hl =>
        simp at hv hl
        subst hv hl
        exact ⟨owned_later hx0 hb1, fun g hg => by have := hxl g hg; omega⟩
      | 1, hv, hl =>
        simp at hv hl
        subst hv hl
        exact ⟨owned_later hu0 hb1, fun g hg => by have := hul g hg; omega⟩
      | i + 2, hv, _ => simp at hv
    · intro v hv g hg
      simp at hv
      rcases hv with rfl | rfl
      · exact hax g hg
      · exact hau g hg
    · intro b off hq hv
      simp at hq
      have := hal b hv
      omega
  have HL : Hid (∀ l ∈ [lx, lu], l.length ≤ 500) := by
    intro l hl
    simp at hl
    rcases hl with rfl | rfl <;> omega
  rw [← hH]
  clear hws0 hw1 hg1 hb1 hout hH hi hz hs1 hs2 hs3 hbyt ha0 hx0 hu0 hlow hal hxl hul hax hau
  obtain ⟨vs, hvs⟩ : ∃ vs, vs = [vx, vu] := ⟨_, rfl⟩
  obtain ⟨ls, hls⟩ : ∃ ls, ls = [lx, lu] := ⟨_, rfl⟩
  rw [← hvs, ← hls] at hap
  rw [← hls] at HL
  clear hvs hls
  go_wp2_with fail
  go_loopg [6] 2 (fun k i wr => ∃ (j : Nat) (ws : List Value), j ≤ 2 ∧ k = 2 - j ∧ i = .int .i64 j ∧ As base H j (some ⟨p0, 0, none⟩) vs ws ls (.slice Aa na ca) na (sts lt) w wr)
  case atStart => exact ⟨0, ws0, by omega, rfl, rfl, hap⟩
  case round =>
    clear hap
    obtain ⟨j, ws, hj, rfl, rfl, hap⟩ := hrel
    by_cases hlt : j < 2
    · obtain ⟨b, off, v, hbo, hb, hv, hc⟩ := hap.out.at_ hlt
      simp only [Option.some.injEq, Addr.mk.injEq, and_true] at hbo
      obtain ⟨rfl, rfl⟩ := hbo
      rw [Nat.zero_add] at hc
      obtain ⟨l, hl⟩ : ∃ l, ls[j]? = some l := ⟨ls[j]'(by rw [hap.len]; exact hlt), List.getElem?_eq_getElem _⟩
      have hr := (hap.row j v l hv hl).1
      obtain ⟨A1, c1, rfl, h3, h4⟩ := owned_slice hr
      have hrd : SS wr wr.heap.size A1 l.length l := ⟨Rd.of_own hr, rfl⟩
      have hll := HL.out l (List.mem_of_getElem? hl)
      have hji : (j : Int) < 2 := by omega
      have HLL := hid hl
      have HAp := hid hap
      clear hv hl hr hap
      go_wp2_with (go_at_call 34; refine stop_ (fun Ps hPs => ?_))
      refine hPs ?_
      clear hPs Ps
      refine (copy34 A1 l.length c1 l wr hrd (by omega)).mono ?_
      rintro e w2 ⟨u, rfl, hu, hbu⟩
      have hap2 := HAp.out.copied HLL.out hu hbu
      have hwas := owned_later HAp.out.was hbu
      have hcw : ∃ x, w2.cell? ⟨H, j, none⟩ = some x := by
        rw [hwas.cellAt j (by omega)]
        exact ⟨_, List.getElem?_eq_getElem (by rw [hwas.1]; omega)⟩
      obtain ⟨x, hcw⟩ := hcw
      have hfw := hwas.frozenAt j
      obtain ⟨A2, c2, rfl, h5, h6⟩ := owned_slice hu
      have HAp2 := hid hap2
      clear hap2 hwas hu hbu hrd hc
      go_wp2_with fail
      go_roundg (2 - (j + 1))
      case measure => omega
      case rel => exact ⟨j + 1, _, by omega, rfl, by go_num, HAp2.out⟩
    · obtain rfl : j = 2 := by omega
      have HAp := hid hap
      clear hap hlt hj
      have hxs : ∀ i, 0 ≤ i → i < na → ∃ z, (sts lt)[i * 2]? = some (.int .i64 z) := fun i _ hi => by
        have hln : lt.length = na := by have := HAp.out.mine.1; rw [sts_length] at this; omega
        exact ⟨_, (sts_get lt i (by omega)).1⟩
      obtain ⟨w3, hw3⟩ : ∃ w3, w3 = wr := ⟨_, rfl⟩
      rw [← hw3] at HAp ⊢
      clear hw3
      have HXS := hid hxs
      clear hxs
      go_wp2_with fail
      go_loopg [7] na (fun k i wr => ∃ (f : Nat) (xs : List Value), f ≤ na ∧ k = na - f ∧ i = .int .i64 f ∧ As base H 2 (some ⟨p0, 0, none⟩) vs ws ls (.slice Aa na ca) na xs w wr ∧ Hid (∀ i, f ≤ i → i < na → ∃ z, xs[i * 2]? = some (.int .i64 z)))
      case atStart => exact ⟨0, sts lt, by omega, rfl, rfl, HAp.out, HXS⟩
      case round =>
        clear HAp HXS
        obtain ⟨f, xs, hf, rfl, rfl, hap, hxs⟩ := hrel
        by_cases hlt : f < na
        · obtain ⟨g, rfl⟩ := own_some hap.mine (Or.inl (by omega))
          obtain ⟨z, hzz⟩ := hxs.out f (Nat.le_refl _) hlt
          have hcf := hap.mine.cellAt (f * 2) (by omega)
          rw [hzz] at hcf
          have hff := hap.mine.frozenAt (f * 2)
          have hfi : (f : Int) < (na : Int) := by omega
          have HAp := hid hap
          clear hap hzz
          go_wp2_with fail
          go_roundg (na - (f + 1))
          case measure => omega
          case rel =>
            refine ⟨f + 1, _, by omega, rfl, by go_num, HAp.out.over (HAp.out.mine.stored (f * 2) _).1 (HAp.out.mine.stored (f * 2) _).2 rfl, hid ?_⟩
            intro i hi hi2
            obtain ⟨z', hz'⟩ := hxs.out i (by omega) hi2
            exact ⟨z', by rw [List.getElem?_set_ne (by omega)]; exact hz'⟩
        · obtain rfl : f = na := by omega
          have HAp := hid hap
          clear hap hxs hlt hf
          obtain ⟨w4, hw4⟩ : ∃ w4, w4 = wr := ⟨_, rfl⟩
          rw [← hw4] at HAp ⊢
          clear hw4
          go_wp2_with fail
          go_loopg [0] (ca - f) (fun k v wr => ∃ (q : Nat) (xs : List Value), v = .slice Aa q ca ∧ q ≤ ca ∧ k = ca - q ∧ As base H 2 (some ⟨p0, 0, none⟩) vs ws ls (.slice Aa q ca) q xs w wr)
          case atStart => exact ⟨f, xs, rfl, ga1, rfl, HAp.out⟩
          case round =>
            clear HAp
            obtain ⟨q, xs, rfl, hq, rfl, hap⟩ := hrel
            by_cases hlt : q < ca
            · obtain ⟨g, rfl⟩ := own_some hap.mine (Or.inr (by omega))
              have hqi : (q : Int) < (ca : Int) := by omega
              have HAp := hid hap
              have HM := hid hap.mine
              clear hap
              go_wp2_with (at_builtin; refine stop_ (fun Ps hPs => ?_))
              refine hPs ?_
              clear hPs Ps
              refine wpList_app1_fits T22 (.tmp 49) (.tmp 51) rfl rfl HM.out rfl rfl rfl (by simp [Value.oneCell']) (by omega) fun w5 ho5 hg5 => ?_
              have HAp2 := hid (HAp.out.over ho5 hg5 rfl)
              clear ho5 hg5
              go_wp2_with fail
              go_roundg (ca - (q + 1))
              case measure => omega
              case rel => exact ⟨q + 1, _, by go_num, by omega, rfl, HAp2.out⟩
            · obtain rfl : q = ca := by omega
              have HAp := hid hap
              clear hap hlt
              obtain ⟨wo, hwo⟩ : ∃ wo, wo = wr := ⟨_, rfl⟩
              rw [← hwo] at HAp ⊢
              clear hwo
              go_wp2_with fail
              go_loopg [9] 2 (fun k i wr => ∃ p : Nat, p ≤ 2 ∧ k = 2 - p ∧ i = .int .i64 p ∧ ∃ d, wr = wo.drewN d)
              case atStart => exact ⟨0, by omega, rfl, rfl, 0, rfl⟩
              case round =>
                obtain ⟨p, hp, rfl, rfl, d, hwd⟩ := hrel
                have hap : As base H 2 (some ⟨p0, 0, none⟩) vs ws ls (.slice Aa q q) q xs w wr := by rw [hwd]; exact HAp.out.drewN d
                by_cases hplt : p < 2
                · obtain ⟨b, off, v, hbo, hb, hv, hc⟩ := hap.out.at_ hplt
                  simp only [Option.some.injEq, Addr.mk.injEq, and_true] at hbo
                  obtain ⟨rfl, rfl⟩ := hbo
                  rw [Nat.zero_add] at hc
                  obtain ⟨l, hl⟩ : ∃ l, ls[p]? = some l := ⟨ls[p]'(by rw [hap.len]; exact hplt), List.getElem?_eq_getElem _⟩
                  have hwas := hap.was
                  obtain ⟨u, hu⟩ : ∃ u, ws[p]? = some u := ⟨ws[p]'(by rw [hwas.1]; omega), List.getElem?_eq_getElem _⟩
                  have hcw := hwas.cellAt p (by omega)
                  rw [hu] at hcw
                  have hcp := hap.cop p u l hplt hu hl
                  have hr := (hap.row p v l hv hl).1
                  obtain ⟨A1, c1, rfl, h3, h4⟩ := owned_slice hr
                  obtain ⟨A2, c2, rfl, h5, h6⟩ := owned_slice hcp
                  have hrd : SS wr wr.heap.size A1 l.length l := ⟨Rd.of_own hr, rfl⟩
                  have hrd2 : SS wr wr.heap.size A2 l.length l := ⟨Rd.of_own hcp, rfl⟩
                  have hll := HL.out l (List.mem_of_getElem? hl)
                  have hpi : (p : Int) < 2 := by omega
                  have HW := hid hwd
                  have HC := hid (fun d => same14_self A1 A2 l.length c1 l.length c2 _ _ l (wr.drewN d) ⟨hrd.1.drewN d, rfl⟩ ⟨hrd2.1.drewN d, rfl⟩ (by omega) (by omega))
                  clear hap hv hl hu hr hcp hwas hrd hrd2 hwd
                  go_wp2_with fail
                  go_quiet ((go_at_call 14; exact Calls.quiet_of (HC.out _)))
                  go_wp2_with fail
                  go_roundg (2 - (p + 1))
                  case measure => omega
                  case rel => exact ⟨p + 1, by omega, rfl, by go_num, d + nq, by rw [HW.out, World.drewN_drewN]⟩
                · obtain rfl : p = 2 := by omega
                  have HLW := hid hap.low
                  clear hap hwd
                  go_wp2_with fail
                  go_ret
                  exact ⟨rfl, HLW.out⟩
end Go.Proofs.Ytmlfbjcgmbdafaa
