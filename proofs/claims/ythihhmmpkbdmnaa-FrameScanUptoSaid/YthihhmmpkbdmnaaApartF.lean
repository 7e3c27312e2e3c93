/- ApartBytes: lists of bytes in memory of their own, each apart from the others, stay apart. -/
import Derived.Test.YthihhmmpkbdmnaaApart
namespace Go.Proofs.Ythihhmmpkbdmnaa
open Go.RowKit Go.Lg
set_option linter.unusedVariables false
set_option linter.unusedSimpArgs false

structure ApO (base H W m k f : Nat) (A : Option Addr) (vs ws : List Value) (ls : List (List UInt8)) (w wr : World) : Prop where
  was : wr.ownsRow H 22 1 (.slice (some ⟨W, 0, none⟩) m m) m ws
  cop : ∀ (i : Nat) u l, i < k → ws[i]? = some u → ls[i]? = some l → wr.ownsRow H 5 1 u l.length (bts l)
  row : ∀ (i : Nat) v l, vs[i]? = some v → ls[i]? = some l → wr.ownsRow base 5 1 v l.length (bts (if i < f then l.map flip else l)) ∧ (∀ g, v.ownBlock = some g → g < H)
  apart : ∀ (i j : Nat) vi vj, vs[i]? = some vi → vs[j]? = some vj → i ≠ j → ∀ g, vi.ownBlock = some g → vj.ownBlock ≠ some g
  out : Rd wr H 1 A m vs
  outne : ∀ b off, A = some ⟨b, off, none⟩ → ∀ v, v ∈ vs → v.ownBlock ≠ some b
  low : Below base w wr
  hz : H ≤ wr.heap.size
  hbase : base ≤ H
  len : ls.length = m
  oth : ∀ g, g < H → (∀ v, v ∈ vs → v.ownBlock ≠ some g) → wr.heap[g]? = w.heap[g]?

section
variable {base H W m k f : Nat} {A : Option Addr} {vs ws : List Value} {ls : List (List UInt8)} {w wr w1 : World}

theorem ApO.drewN (h : ApO base H W m k f A vs ws ls w wr) (d : Nat) : ApO base H W m k f A vs ws ls w (wr.drewN d) :=
  ⟨h.was, h.cop, h.row, h.apart, h.out, h.outne, below_drewN h.low d, h.hz, h.hbase, h.len, h.oth⟩

/-- The k-th is copied. -/
theorem ApO.copied (h : ApO base H W m k f A vs ws ls w wr) {u : Value} {l : List UInt8} (hl : ls[k]? = some l) (hu : w1.ownsRow wr.heap.size 5 1 u l.length (bts l)) (hb : Below wr.heap.size wr w1) :
    ApO base H W m (k + 1) f A vs (ws.set k u) ls w (w1.setCell ⟨W, k, none⟩ u) := by
  have hW := h.was.lt W rfl
  have hws := owned_later h.was hb
  have hst := hws.stored k u
  have hH := h.hz
  have hB := h.hbase
  have hgb : ∀ {e : TypeId} {b n : Nat} {v : Value} {xs : List Value}, w1.ownsRow b e 1 v n xs → (∀ g, v.ownBlock = some g → g ≠ W) → (w1.setCell ⟨W, k, none⟩ u).ownsRow b e 1 v n xs :=
    fun ho hne => owned_gb ho hst.2 fun g hg he => hne g hg (Option.some.inj he)
  have h5 : ∀ {b n : Nat} {v : Value} {xs : List Value}, w1.ownsRow b 5 1 v n xs → ∀ g, v.ownBlock = some g → g ≠ W := fun ho g hg he => ne_by_type hws ho (by decide) W rfl (by rw [hg, he])
  refine ⟨hst.1, ?_, ?_, h.apart, ?_, h.outne, ?_, by have := hb.size; simp; omega, h.hbase, h.len, fun g hg hne => ((hst.2.block g (by have := hb.size; omega) (fun e => by have := hW.1; injection e with e; omega)).trans (hb.block g (by omega))).trans (h.oth g hg hne)⟩
  · intro i u' l' hi hu' hl'
    rcases Nat.lt_or_ge i k with hlt | hge
    · rw [List.getElem?_set_ne (by omega)] at hu'
      have ho := owned_later (h.cop i u' l' hlt hu' hl') hb
      exact hgb ho (h5 ho)
    · obtain rfl : i = k := by omega
      have hk : i < ws.length := by
        rcases Nat.lt_or_ge i ws.length with q | q
        · exact q
        · rw [List.getElem?_eq_none (by simpa using q)] at hu'; cases hu'
      rw [List.getElem?_set_self hk] at hu'
      obtain rfl := Option.some.inj hu'
      obtain rfl := Option.some.inj (hl.symm.trans hl')
      have ho := owned_less hu h.hz
      exact hgb ho (h5 ho)
  · intro i v l' hv hl'
    obtain ⟨h1, h2⟩ := h.row i v l' hv hl'
    have ho := owned_later h1 hb
    exact ⟨hgb ho (h5 ho), h2⟩
  · exact (h.out.keep fun p hp => hb.cell (by omega)).setCell hW.1 u
  · exact (h.low.trans (hb.mono (by omega))).setCell (by show base ≤ W; omega) u

/-- The f-th is written over. -/
theorem ApO.over (h : ApO base H W m m f A vs ws ls w wr) {v : Value} {l : List UInt8} (hv : vs[f]? = some v) (hl : ls[f]? = some l) (ho : w1.ownsRow base 5 1 v l.length (bts (l.map flip))) (hg : wr.grownBy w1 v.ownBlock) :
    ApO base H W m m (f + 1) A vs ws ls w w1 := by
  have hr := h.row f v l hv hl
  refine ⟨owned_gb h.was hg fun g hg' he => ?_, ?_, ?_, h.apart, ?_, h.outne, ?_, Nat.le_trans h.hz hg.size, h.hbase, h.len, fun g hg9 hne => (hg.block g (by have := h.hz; omega) (fun e => hne v (List.mem_of_getElem? hv) e.symm)).trans (h.oth g hg9 hne)⟩
  · have := hr.2 g he.symm
    have h2 := (h.was.lt g hg').1
    omega
  · intro i u l' hi hu hl'
    have hc := h.cop i u l' hi hu hl'
    refine owned_gb hc hg fun g hg' he => ?_
    have := hr.2 g he.symm
    have h2 := (hc.lt g hg').1
    omega
  · intro i v' l' hv' hl'
    by_cases hi : i = f
    · subst hi
      obtain rfl := Option.some.inj (hv.symm.trans hv')
      obtain rfl := Option.some.inj (hl.symm.trans hl')
      rw [if_pos (by omega)]
      exact ⟨ho, hr.2⟩
    · obtain ⟨h1, h2⟩ := h.row i v' l' hv' hl'
      have e : (if i < f + 1 then l'.map flip else l') = (if i < f then l'.map flip else l') := by
        by_cases q : i < f
        · rw [if_pos q, if_pos (by omega)]
        · rw [if_neg q, if_neg (by omega)]
      rw [e]
      exact ⟨owned_gb h1 hg fun g hg' he => h.apart i f v' v hv' hv hi g hg' he.symm, h2⟩
  · refine ⟨h.out.1, fun hn => ?_⟩
    obtain ⟨b, off, hA, hb, hc⟩ := h.out.2 hn
    refine ⟨b, off, hA, hb, fun j u hu => ?_⟩
    rw [← hc j u hu]
    refine World.cell?_of_block (hg.block b (Nat.lt_of_lt_of_le hb h.hz) fun he => ?_)
    exact h.outne b off hA v (List.mem_of_getElem? hv) he.symm
  · refine h.low.grown hg (Nat.le_trans h.hbase h.hz) fun g he => ?_
    exact (hr.1.lt g he).1
end

set_option maxHeartbeats 400000 in
set_option maxRecDepth 100000 in
theorem apart_oth (base m c : Nat) (A : Option Addr) (vs : List Value) (ls : List (List UInt8)) (w : World) (hout : Rd w w.heap.size 1 A m vs) (hm : m ≤ 100000000000)
    (hlen : ls.length = m) (hbig : ∀ l ∈ ls, l.length ≤ 140737488355000)
    (hrow : ∀ (i : Nat) v l, vs[i]? = some v → ls[i]? = some l → w.ownsRow base 5 1 v l.length (bts l))
    (hapart : ∀ (i j : Nat) vi vj, vs[i]? = some vi → vs[j]? = some vj → i ≠ j → ∀ g, vi.ownBlock = some g → vj.ownBlock ≠ some g)
    (houtne : ∀ b off, A = some ⟨b, off, none⟩ → ∀ v, v ∈ vs → v.ownBlock ≠ some b) (hbase : base ≤ w.heap.size) :
    Calls Try.prog 21 #[.slice A m c] w fun e w' => e = .returned (.bool true) ∧ Below base w w' ∧ ∀ g, g < w.heap.size → (∀ v, v ∈ vs → v.ownBlock ≠ some g) → w'.heap[g]? = w.heap[g]? := by
  obtain ⟨i0, z0, hi, hz, hs1, hs2, hs3⟩ := T30.hi
  have hbyt : i0.bytes * m ≤ 281474976710656 := by rw [hs2]; omega
  have HR := hid hrow
  have HA := hid hapart
  have HO := hid houtne
  have HL := hid hlen
  have HB := hid hbig
  clear hrow hapart houtne hlen hbig
  go_enter Try.func21, Try.ntmps21
  go_wp2_with (at_make; refine stop_ (fun Ps hPs => ?_))
  refine hPs ?_
  clear hPs Ps
  refine wpList_make_full _ rfl (.tmp 9) (.tmp 9) 30 rfl w.heap.size 22 i0 z0 1 T30.ht hi hz hs1 .i64 .i64 m m m rfl rfl rfl rfl hbyt (by unfold maxLen; omega) (Nat.le_refl _) fun w1 hw1 hg1 => ?_
  have hb1 : Below w.heap.size w w1 := (Below.refl _ _).grown hg1 (Nat.le_refl _) (by intro k hk; cases hk)
  obtain ⟨ws0, hws0⟩ : ∃ ws0, ws0 = (madeCells z0.cells (m * 1)).toList := ⟨_, rfl⟩
  rw [← hws0] at hw1
  obtain ⟨H, hH⟩ : ∃ H, H = w.heap.size := ⟨_, rfl⟩
  have HH := hid hH
  rw [← hH] at hw1 hout hbase hb1 ⊢
  have hap : ApO base H H m 0 0 A vs ws0 ls w w1 := by
    refine ⟨hw1, fun i u l hi => absurd hi (by omega), ?_, HA.out, hout.below hb1, HO.out, hb1.mono hbase, ?_, hbase, HL.out, fun g hg _ => hb1.block g hg⟩
    · intro i v l hv hl
      have h1 := HR.out i v l hv hl
      rw [if_neg (by omega)]
      exact ⟨owned_later h1 (by rw [← HH.out]; exact hb1), fun g hg => by rw [HH.out]; exact (h1.lt g hg).2⟩
    · rw [HH.out]; exact hb1.size
  clear hws0 hw1 hg1 hb1 hout hH hi hz hs1 hs2 hs3 hbyt
  go_wp2_with fail
  go_loopg [4] m (fun k i wr => ∃ (j : Nat) (ws : List Value), j ≤ m ∧ k = m - j ∧ i = .int .i64 j ∧ ApO base H H m j 0 A vs ws ls w wr)
  case atStart => exact ⟨0, ws0, by omega, rfl, rfl, hap⟩
  case round =>
    clear hap
    obtain ⟨j, ws, hj, rfl, rfl, hap⟩ := hrel
    by_cases hlt : j < m
    · obtain ⟨b, off, v, rfl, hb, hv, hc⟩ := hap.out.at_ hlt
      obtain ⟨l, hl⟩ : ∃ l, ls[j]? = some l := ⟨ls[j]'(by rw [HL.out]; exact hlt), List.getElem?_eq_getElem _⟩
      have hr := (hap.row j v l hv hl).1
      rw [if_neg (by omega)] at hr
      obtain ⟨A1, c1, rfl, h3, h4⟩ := owned_slice hr
      have hrd := Rd.of_own hr
      have hll := HB.out l (List.mem_of_getElem? hl)
      have HV := hid hv
      have HLL := hid hl
      clear hv hl hr
      have HAp := hid hap
      clear hap
      go_wp2_with fail
      refine (copy_any A1 l.length c1 l wr hrd hll).mono ?_
      rintro e w2 ⟨u, rfl, hu, hbu⟩
      have hap2 := HAp.out.copied HLL.out hu hbu
      have hwas := owned_later HAp.out.was hbu
      have hcw : ∃ x, w2.cell? ⟨H, j, none⟩ = some x := by
        rw [hwas.cellAt j (by omega)]
        exact ⟨_, List.getElem?_eq_getElem (by rw [hwas.1]; omega)⟩
      obtain ⟨x, hcw⟩ := hcw
      have hfw := hwas.frozenAt j
      obtain ⟨A2, c2, rfl, h5, h6⟩ := owned_slice hu
      have HAp2 := hid hap2
      clear hap2 hwas hu hbu hrd hc
      go_wp2_with fail
      go_roundg (m - (j + 1))
      case measure => omega
      case rel => exact ⟨j + 1, _, by omega, rfl, by go_num, HAp2.out⟩
    · obtain rfl : j = m := by omega
      have HAp := hid hap
      clear hap
      clear hlt hj
      obtain ⟨w3, hw3⟩ : ∃ w3, w3 = wr := ⟨_, rfl⟩
      rw [← hw3] at HAp ⊢
      clear hw3
      go_wp2_with fail
      go_loopg [5] j (fun k i wr => ∃ f : Nat, f ≤ j ∧ k = j - f ∧ i = .int .i64 f ∧ ApO base H H j j f A vs ws ls w wr)
      case atStart => exact ⟨0, by omega, rfl, rfl, HAp.out⟩
      case round =>
        clear HAp
        obtain ⟨f, hf, rfl, rfl, hap⟩ := hrel
        by_cases hlt : f < j
        · obtain ⟨b, off, v, rfl, hb, hv, hc⟩ := hap.out.at_ hlt
          obtain ⟨l, hl⟩ : ∃ l, ls[f]? = some l := ⟨ls[f]'(by rw [HL.out]; exact hlt), List.getElem?_eq_getElem _⟩
          have hwas := hap.was
          obtain ⟨u, hu⟩ : ∃ u, ws[f]? = some u := ⟨ws[f]'(by rw [hwas.1]; omega), List.getElem?_eq_getElem _⟩
          have hcw := hwas.cellAt f (by omega)
          rw [hu] at hcw
          have hcp := hap.cop f u l hlt hu hl
          have hr := (hap.row f v l hv hl).1
          rw [if_neg (by omega)] at hr
          obtain ⟨A1, c1, rfl, h3, h4⟩ := owned_slice hr
          obtain ⟨A2, c2, rfl, h5, h6⟩ := owned_slice hcp
          have hrd := Rd.of_own hr
          have hrd2 := Rd.of_own hcp
          have hll := HB.out l (List.mem_of_getElem? hl)
          have hle : l.length ≤ 9223372036854775807 := by omega
          have hfi : (f : Int) < (j : Int) := by omega
          have HV := hid hv
          have HLL := hid hl
          have HR2 := hid hr
          have HAp := hid hap
          clear hv hl hr hap hu hcp hwas
          go_wp2_with fail
          go_quiet ((go_at_call 16; exact Calls.quiet_of (same_self _ _ _ _ _ _ _ _ l _ (hrd.drewN _) (hrd2.drewN _) hle hle)))
          have hap1 := HAp.out.drewN nq
          go_wp2_with fail
          refine (over_all base l.length _ l _ (show (wr.drewN nq).ownsRow base 5 1 _ l.length (bts l) from HR2.out)).mono ?_
          rintro e w4 ⟨rfl, ho, hg⟩
          have HAp2 := hid (hap1.over HV.out HLL.out ho hg)
          clear hap1 ho hg
          go_wp2_with fail
          go_roundg (j - (f + 1))
          case measure => omega
          case rel => exact ⟨f + 1, by omega, rfl, by go_num, HAp2.out⟩
        · obtain rfl : f = j := by omega
          have HAp := hid hap
          clear hap
          clear hlt hf
          obtain ⟨w4, hw4⟩ : ∃ w4, w4 = wr := ⟨_, rfl⟩
          rw [← hw4] at HAp ⊢
          clear hw4
          go_wp2_with fail
          go_loopg [6] f (fun k i wr => ∃ q : Nat, q ≤ f ∧ k = f - q ∧ i = .int .i64 q ∧ ApO base H H f f f A vs ws ls w wr)
          case atStart => exact ⟨0, by omega, rfl, rfl, HAp.out⟩
          case round =>
            clear HAp
            obtain ⟨q, hq, rfl, rfl, hap⟩ := hrel
            by_cases hlt : q < f
            · obtain ⟨b, off, v, rfl, hb, hv, hc⟩ := hap.out.at_ hlt
              obtain ⟨l, hl⟩ : ∃ l, ls[q]? = some l := ⟨ls[q]'(by rw [HL.out]; exact hlt), List.getElem?_eq_getElem _⟩
              have hwas := hap.was
              obtain ⟨u, hu⟩ : ∃ u, ws[q]? = some u := ⟨ws[q]'(by rw [hwas.1]; omega), List.getElem?_eq_getElem _⟩
              have hcw := hwas.cellAt q (by omega)
              rw [hu] at hcw
              have hcp := hap.cop q u l hlt hu hl
              have hr := (hap.row q v l hv hl).1
              rw [if_pos hlt] at hr
              have hll := HB.out l (List.mem_of_getElem? hl)
              have hle : l.length ≤ 9223372036854775807 := by omega
              have hqi : (q : Int) < (f : Int) := by omega
              obtain ⟨A1, c1, rfl, h3, h4⟩ := owned_slice hr
              obtain ⟨A2, c2, rfl, h5, h6⟩ := owned_slice hcp
              have hrd := Rd.of_own hr
              have hrd2 := Rd.of_own hcp
              have HAp := hid hap
              clear hap hwas hv hl hu hr hcp
              obtain ⟨wo, hwo⟩ : ∃ wo, wo = wr := ⟨_, rfl⟩
              rw [← hwo] at HAp hrd hrd2 hc hcw ⊢
              clear hwo
              go_wp2_with fail
              go_loopg [7] l.length (fun k i wr => ∃ p : Nat, p ≤ l.length ∧ k = l.length - p ∧ i = .int .i64 p ∧ ∃ d, wr = wo.drewN d)
              case atStart => exact ⟨0, by omega, rfl, rfl, 0, rfl⟩
              case round =>
                obtain ⟨p, hp, rfl, rfl, d, rfl⟩ := hrel
                by_cases hplt : p < l.length
                · obtain ⟨b1, off1, y, rfl, hb1, hy, hc1⟩ := hrd.byte hplt
                  obtain ⟨b2, off2, x, rfl, hb2, hx, hc2⟩ := hrd2.byte hplt
                  have hyx : y = flip x := by
                    rw [List.getElem?_map, hx] at hy
                    exact (Option.some.inj hy).symm
                  subst hyx
                  have ht : ((((flip x).toNat : Nat) : Int) != bits .xor .u8 IntKind.u8.max (x.toNat : Int)) = false := by
                    rw [xor_u8]; simp
                  have hpi : (p : Int) < (l.length : Int) := by omega
                  have hsg : IntKind.u8.signed = false := rfl
                  clear hy hx hrd hrd2
                  go_wp2_with fail
                  go_quiet (fail)
                  go_wp2_with fail
                  go_roundg (l.length - (p + 1))
                  case measure => omega
                  case rel => exact ⟨p + 1, by omega, rfl, by go_num, _, by first | exact rfl | exact World.drewN_drewN _ _ _⟩
                · obtain rfl : p = l.length := by omega
                  go_wp2_with fail
                  go_roundg (f - (q + 1))
                  case measure => omega
                  case rel => exact ⟨q + 1, by omega, rfl, by go_num, HAp.out.drewN _⟩
            · obtain rfl : q = f := by omega
              have HAp := hid hap
              clear hap
              go_wp2_with fail
              go_ret
              exact ⟨rfl, HAp.out.low, fun g hg hv => HAp.out.oth g (by first | exact hg | (rw [HH.out]; exact hg)) hv⟩
end Go.Proofs.Ythihhmmpkbdmnaa
