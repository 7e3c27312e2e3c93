/- The walks through frames: all records. -/
import Derived.Test.YthihhmmpkbdmnaaFrm
namespace Go.Proofs.Ythihhmmpkbdmnaa
open Go.RowKit Go.Lg
set_option linter.unusedVariables false
set_option linter.unusedSimpArgs false

/-- Records in memory of the call's own, each apart from the others. -/
structure Recs (w : World) (H : Nat) (v : Value) (vs : List Value) (rs : List (List UInt8)) : Prop where
  out : w.ownsRow H 22 1 v rs.length vs
  each : ∀ (i : Nat) u r, vs[i]? = some u → rs[i]? = some r → w.ownsRow H 5 1 u r.length (bts r)
  apart : vs.Pairwise fun a b => ∀ g, a.ownBlock = some g → b.ownBlock ≠ some g
  short : ∀ r ∈ rs, r.length ≤ 131072

theorem Recs.nil (w : World) (H : Nat) : Recs w H (.slice none 0 0) [] [] := ⟨World.ownsRow_nil _ _ _ _, by simp, List.Pairwise.nil, by simp⟩
theorem Recs.len {w : World} {H : Nat} {v : Value} {vs : List Value} {rs : List (List UInt8)} (h : Recs w H v vs rs) : vs.length = rs.length := by have := h.out.1; omega
theorem Recs.later {w w' : World} {H : Nat} {v : Value} {vs : List Value} {rs : List (List UInt8)} (h : Recs w H v vs rs) (hb : Below w.heap.size w w') : Recs w' H v vs rs :=
  ⟨owned_later h.out hb, fun i u r hu hr => owned_later (h.each i u r hu hr) hb, h.apart, h.short⟩
theorem Recs.less {w : World} {H H' : Nat} {v : Value} {vs : List Value} {rs : List (List UInt8)} (h : Recs w H v vs rs) (hb : H' ≤ H) : Recs w H' v vs rs :=
  ⟨owned_less h.out hb, fun i u r hu hr => owned_less (h.each i u r hu hr) hb, h.apart, h.short⟩

/-- One record more. -/
theorem Recs.snoc {w w1 w2 : World} {H : Nat} {v v' u : Value} {vs : List Value} {rs : List (List UInt8)} {r : List UInt8} (h : Recs w H v vs rs) (hb : Below w.heap.size w w1) (hH : H ≤ w.heap.size)
    (hu : w1.ownsRow w.heap.size 5 1 u r.length (bts r)) (hr : r.length ≤ 131072) (ho : w2.ownsRow H 22 1 v' (rs.length + 1) (vs ++ [u])) (hg : w1.grownBy w2 v.ownBlock) : Recs w2 H v' (vs ++ [u]) (rs ++ [r]) := by
  have h1 := h.later hb
  have key : ∀ {b n : Nat} {x : Value} {xs : List Value}, w1.ownsRow b 5 1 x n xs → w2.ownsRow b 5 1 x n xs := fun hx =>
    owned_gb hx hg fun g hgx he => ne_by_type hx h1.out (by decide) g hgx he.symm
  refine ⟨by rw [List.length_append]; exact ho, ?_, ?_, ?_⟩
  · intro i x q hx hq
    rcases Nat.lt_or_ge i vs.length with hlt | hge
    · rw [List.getElem?_append_left hlt] at hx
      rw [List.getElem?_append_left (by rw [← h.len]; exact hlt)] at hq
      exact key (h1.each i x q hx hq)
    · rw [List.getElem?_append_right hge] at hx
      rw [List.getElem?_append_right (by rw [← h.len]; exact hge), ← h.len] at hq
      have h0 : i - vs.length = 0 := by
        rcases Nat.eq_zero_or_pos (i - vs.length) with q0 | q0
        · exact q0
        · rw [List.getElem?_eq_none (by simp; omega)] at hx; cases hx
      rw [h0] at hx hq
      simp at hx hq
      subst hx hq
      exact key (owned_less hu hH)
  · rw [List.pairwise_append]
    refine ⟨h.apart, List.pairwise_singleton _ _, ?_⟩
    intro a ha b hb' g hga hgb
    simp at hb'
    subst hb'
    obtain ⟨i, hi⟩ := List.getElem?_of_mem ha
    obtain ⟨hil, _⟩ := List.getElem?_eq_some_iff.1 hi
    have hri : rs[i]? = some (rs[i]'(by rw [← h.len]; exact hil)) := List.getElem?_eq_getElem _
    have := ((h.each i a _ hi hri).lt g hga).2
    have := (hu.lt g hgb).1
    omega
  · intro q hq
    simp at hq
    rcases hq with hq | rfl
    · exact h.short q hq
    · exact hr

/-- They read as records. -/
theorem Recs.reads {w : World} {H n c : Nat} {A : Option Addr} {vs : List Value} {rs : List (List UInt8)} (h : Recs w H (.slice A n c) vs rs) : n = rs.length ∧ RR w w.heap.size A n vs rs := by
  obtain ⟨A', c', hv, _, _⟩ := owned_slice h.out
  injection hv with _ hn _
  subst hn
  refine ⟨rfl, Rd.of_own h.out, rfl, ?_⟩
  intro i u r hu hr
  have ho := h.each i u r hu hr
  obtain ⟨Ai, ci, rfl, _, _⟩ := owned_slice ho
  exact ⟨Ai, ci, rfl, Rd.of_own ho, by have := h.short r (List.mem_of_getElem? hr); omega⟩

def Scanned (w : World) (l : List UInt8) (e : Ending) (w' : World) : Prop :=
  ∃ v vs, e = .returned (.tuple #[v, .int .i64 (Vi.scan l).2]) ∧ Recs w' w.heap.size v vs (Vi.scan l).1 ∧ Below w.heap.size w w'

set_option maxHeartbeats 800000 in
set_option maxRecDepth 100000 in
theorem fScan_any (A : Option Addr) (n c : Nat) (l : List UInt8) (w : World) (h : Rd w w.heap.size 1 A n (bts l)) (hn : n ≤ 2000000) (hc : n ≤ c) (hcm : c ≤ maxLen) :
    Calls Try.prog 29 #[.slice A n c] w (Scanned w l) := by
  have hl : l.length = n := by have := h.1; rw [bts_length] at this; omega
  have HL := hid hl
  have hcm0 := hid hcm
  unfold maxLen at hcm
  obtain ⟨H, hH⟩ : ∃ H, H = w.heap.size := ⟨_, rfl⟩
  have HH := hid hH
  clear hl hH
  go_enter Try.func29, Try.ntmps29
  go_wp2_with fail
  go_step3
  go_wp2_with fail
  go_step3
  go_wp2_with fail
  go_loopg [4, 5] n (fun k out at_ wr => ∃ (rs : List (List UInt8)) (vs : List Value) (a : Nat), at_ = .int .i64 a ∧ a ≤ n ∧ k = n - a ∧ Recs wr H out vs rs ∧ Below H w wr ∧ rs.length ≤ a ∧
    Vi.scan l = (rs ++ (Vi.scan (l.drop a)).1, a + (Vi.scan (l.drop a)).2))
  case atStart => exact ⟨[], [], 0, rfl, by omega, rfl, Recs.nil _ _, Below.refl _ _, by simp, by simp⟩
  case round =>
    obtain ⟨rs, vs, a, rfl, ha, rfl, hrec, hb, hra, hsc⟩ := hrel
    have hHw : H ≤ wr.heap.size := by rw [HH.out]; exact hb.size
    have hslice := ((h.keep (w' := wr) fun p hp => hb.cell (by rw [HH.out]; exact hp)).more hb.size).drop (k := a) (cap := c) ha hc
    rw [Nat.mul_one, bts_drop] at hslice
    have HSC := hid hsc
    have HREC := hid hrec
    clear hsc hrec
    cases hf : Vi.fread (l.drop a) with
    | none =>
      have HF := hid hf
      have h5 : (((5 : Nat) : Int) == 0) = false := rfl
      clear hf
      have fin : Scanned w l (.returned (.tuple #[u4, .int .i64 a])) wr := by
        have hs0 := HSC.out
        rw [Vi.scan_none HF.out, List.append_nil] at hs0
        exact ⟨u4, vs, by rw [hs0]; rfl, by rw [hs0, ← HH.out]; exact HREC.out, by rw [← HH.out]; exact hb⟩
      have FIN := hid fin
      clear fin
      by_cases hca : c = a
      · rw [if_pos hca] at hslice
        obtain rfl : a = n := by omega
        subst hca
        rw [Nat.sub_self] at hslice
        go_wp2_with fail
        refine (fRead_none _ _ _ _ _ wr hslice (by omega) HF.out).mono ?_
        rintro e w1 ⟨rfl, rfl⟩
        clear hslice
        go_wp2_with fail
        rw [Exit.noGoto_ret]
        go_ret2
        exact FIN.out
      · rw [if_neg hca] at hslice
        go_wp2_with fail
        refine (fRead_none _ _ _ _ _ wr hslice (by omega) HF.out).mono ?_
        rintro e w1 ⟨rfl, rfl⟩
        clear hslice
        go_wp2_with fail
        rw [Exit.noGoto_ret]
        go_ret2
        exact FIN.out
    | some x =>
      obtain ⟨r, m⟩ := x
      have hfit := Vi.fread_fits hf
      rw [List.length_drop, HL.out] at hfit
      have HF := hid hf
      clear hf
      by_cases hca : c = a
      · exfalso; omega
      · rw [if_neg hca] at hslice
        go_wp2_with fail
        refine (fRead_some _ _ _ _ r m wr hslice (by omega) (by omega) (by have := hcm0.out; omega) HF.out).mono ?_
        rintro e w1 ⟨u, rfl, hu, hbu⟩
        have hs1 := hbu.size
        have hout1 := owned_later HREC.out.out hbu
        have HU := hid hu
        have HO1 := hid hout1
        clear hslice hu hout1
        obtain ⟨Au, cu, rfl, g1, g2⟩ := owned_slice HU.out
        go_wp2_with (at_builtin; refine stop_ (fun Ps hPs => ?_))
        refine hPs ?_
        clear hPs Ps
        refine wpList_app1 T30 (.tmp 20) (.tmp 22) rfl rfl HO1.out rfl rfl rfl (by simp [Value.oneCell']) (by omega) (by omega) fun v2 w2 hv2 hg hat => ?_
        have hrec2 := HREC.out.snoc hbu hHw HU.out (by omega) hv2 hg
        have hb2 : Below H w w2 := below_append (hb.trans (hbu.mono hHw)) HO1.out hg (by omega)
        have HREC2 := hid hrec2
        have hs2 := HSC.out
        rw [Vi.scan_some HF.out, List.drop_drop] at hs2
        have HS2 := hid hs2
        clear hrec2 hg hat hv2 HO1 hs2
        go_wp2_with fail
        go_roundg (n - (a + m))
        case measure => omega
        case rel =>
          refine ⟨rs ++ [r], vs ++ [.slice Au r.length cu], a + m, by go_num, by omega, rfl, HREC2.out, hb2, by simp; omega, ?_⟩
          rw [HS2.out]
          simp only [List.append_assoc, List.singleton_append, Prod.mk.injEq, true_and]
          omega
end Go.Proofs.Ythihhmmpkbdmnaa
