/- The last page of a file. -/
import Derived.Test.YtcfopaphpjmopaaDec
namespace Go.Proofs.Ytcfopaphpjmopaa
open Go.RowKit Go.Lg
set_option linter.unusedVariables false
set_option linter.unusedSimpArgs false

def firstP (nd : Int) : Pg × Int := if nd = 0 then (⟨1, 1, 0, 0, 0, 0⟩, 0) else if nd = 1 then (⟨1, 2, 0, 0, 0, 0⟩, 0) else (z, 2)
set_option maxHeartbeats 4000000 in
set_option maxRecDepth 100000 in
theorem first8 (nd : Int) (w : World) : Calls Try.prog 8 #[.int .i64 nd] w (Gives (firstP nd) w) := by
  go_enter Try.func8, Try.ntmps8
  go_wp2_with fail
  all_goals
    refine bodyPost_ret (by simp [results, Try.results8, go_sem]; try rfl) rfl ?_
    try simp only [beq_iff_eq, beq_eq_false_iff_ne] at *
    refine ⟨pret2 (q := ⟨_, _, _, _, _, _⟩) ?_, by repeat (first | (with_reducible exact Below.refl _ _) | (with_reducible refine Below.alloc ?_ (Nat.le_refl _) _) | (with_reducible refine Below.setCell ?_ (by simp) _))⟩
    simp only [firstP]
    repeat' split
    all_goals first | rfl | (exfalso; omega)
set_option maxHeartbeats 4000000 in
set_option maxRecDepth 100000 in
theorem first13 (nd : Int) (w : World) : Calls Try.prog 13 #[.int .i64 nd] w (Gives (firstP nd) w) := by
  go_enter Try.func13, Try.ntmps13
  go_wp2_with fail
  all_goals
    refine bodyPost_ret (by simp [results, Try.results13, go_sem]; try rfl) rfl ?_
    try simp only [beq_iff_eq, beq_eq_false_iff_ne] at *
    refine ⟨pret2 (q := ⟨_, _, _, _, _, _⟩) ?_, by repeat (first | (with_reducible exact Below.refl _ _) | (with_reducible refine Below.alloc ?_ (Nat.le_refl _) _) | (with_reducible refine Below.setCell ?_ (by simp) _))⟩
    simp only [firstP]
    repeat' split
    all_goals first | rfl | (exfalso; omega)

def lastN : Nat → Pg → List UInt8 → Pg × Nat
  | 0, p, _ => (p, 0)
  | f + 1, p, l => match Vi.fread l with
    | none => (p, 0)
    | some (r, t) => match decP r with
      | none => (p, 0)
      | some q => ((lastN f q (l.drop t)).1, t + (lastN f q (l.drop t)).2)

def lastP (p : Pg) (l : List UInt8) : Pg × Nat := lastN (l.length + 1) p l
def LastIs (r : Pg × Nat) (w : World) (e : Ending) (w' : World) : Prop := e = .returned (.tuple #[r.1.v, .int .i64 r.2, .int .i64 0]) ∧ Below w.heap.size w w'
theorem plast {r : Pg × Nat} {q : Pg} {a : Nat} (h : r = (q, a)) : Ending.returned (.tuple #[q.v, .int .i64 (a : Nat), .int .i64 0]) = .returned (.tuple #[r.1.v, .int .i64 r.2, .int .i64 0]) := by rw [h]

set_option maxHeartbeats 8000000 in
set_option maxRecDepth 100000 in
theorem last11 (A : Option Addr) (n c : Nat) (nd : Int) (p1 p2 p3 p4 p5 p6 : Int) (l : List UInt8) (w : World) (h : Rd w w.heap.size 1 A n (bts l)) (hn : n ≤ 140737488355000) (hc : n ≤ c) (hcm : c ≤ maxLen)
    (hf : firstP nd = (⟨p1, p2, p3, p4, p5, p6⟩, 0)) :
    Calls Try.prog 11 #[.slice A n c, .int .i64 nd] w (LastIs (lastP ⟨p1, p2, p3, p4, p5, p6⟩ l) w) := by
  have h8 := first8 nd
  rw [hf] at h8
  clear hf
  have hl : l.length = n := by have := h.1; rw [bts_length] at this; omega
  have HL := hid hl
  have hcm0 := hid hcm
  unfold maxLen at hcm
  clear hl
  go_enter Try.func11, Try.ntmps11
  go_wp2_with (go_at_call 8; refine stop_ (fun Ps hPs => ?_))
  refine hPs ?_
  clear hPs Ps
  have kz := Blk.new w 25 #[.int .i64 0, .int .u8 0, .int .i64 0, .int .u8 0, .int .i64 0, .int .i64 0]
  have hb := (Below.refl w.heap.size w).alloc (Nat.le_refl _) (.cells #[.int .i64 0, .int .u8 0, .int .i64 0, .int .u8 0, .int .i64 0, .int .i64 0] 25)
  obtain ⟨W, hW⟩ : ∃ W, W = w.alloc (.cells #[.int .i64 0, .int .u8 0, .int .i64 0, .int .u8 0, .int .i64 0, .int .i64 0] 25) := ⟨_, rfl⟩
  rw [← hW] at kz hb ⊢
  clear hW
  refine (h8 _).mono ?_
  clear h8
  rintro e w1 ⟨rfl, hq⟩
  have kz := kz.later hq
  have hb := bl_trans hb hq hb.size
  clear hq
  go_wp2_with fail
  have kp := Blk.new w1 25 #[.int .i64 p1, .int .u8 p2, .int .i64 p3, .int .u8 p4, .int .i64 p5, .int .i64 p6]
  have nzp : w.heap.size ≠ w1.heap.size := Nat.ne_of_lt kz.lt
  have kz := kz.alloc (.cells #[.int .i64 p1, .int .u8 p2, .int .i64 p3, .int .u8 p4, .int .i64 p5, .int .i64 p6] 25)
  have l7 := hb.size
  have hb := hb.alloc hb.size (.cells #[.int .i64 p1, .int .u8 p2, .int .i64 p3, .int .u8 p4, .int .i64 p5, .int .i64 p6] 25)
  obtain ⟨W, hW⟩ : ∃ W, W = w1.alloc (.cells #[.int .i64 p1, .int .u8 p2, .int .i64 p3, .int .u8 p4, .int .i64 p5, .int .i64 p6] 25) := ⟨_, rfl⟩
  rw [← hW] at kz kp hb ⊢
  clear hW
  obtain ⟨b7, h7⟩ : ∃ b, b = w1.heap.size := ⟨_, rfl⟩
  rw [← h7] at kp nzp l7 ⊢
  clear h7
  go_loopg [9] n (fun k i wr => ∃ (a : Nat) (p : Pg) (f : Nat), i = .int .i64 a ∧ a ≤ n ∧ k = n - a ∧ Blk wr b7 25 p.cs ∧ Blk wr w.heap.size 25 #[.int .i64 0, .int .u8 0, .int .i64 0, .int .u8 0, .int .i64 0, .int .i64 0] ∧ Below w.heap.size w wr ∧ n - a < f ∧
    lastP ⟨p1, p2, p3, p4, p5, p6⟩ l = ((lastN f p (l.drop a)).1, a + (lastN f p (l.drop a)).2))
  case atStart => exact ⟨0, ⟨p1, p2, p3, p4, p5, p6⟩, n + 1, rfl, by omega, rfl, kp, kz, hb, by omega, by simp [lastP, HL.out]⟩
  case round =>
    clear kp kz hb
    obtain ⟨a, p, f, rfl, ha, rfl, kp, kz, hb, hfu, hla⟩ := hrel
    obtain ⟨f, rfl⟩ : ∃ f', f = f' + 1 := ⟨f - 1, by omega⟩
    obtain ⟨g, hg⟩ : ∃ g, lastP ⟨p1, p2, p3, p4, p5, p6⟩ l = g := ⟨_, rfl⟩
    rw [hg] at hla ⊢
    have HG := hid hg
    clear hg
    obtain ⟨p1, p2, p3, p4, p5, p6⟩ := p
    have hslice := ((h.keep (w' := wr) fun p hp => hb.cell hp).more hb.size).drop (k := a) (cap := c) ha hc
    rw [Nat.mul_one, bts_drop] at hslice
    obtain ⟨⟨pc0, pc1, pc2, pc3, pc4, pc5⟩, pf0, pf1, pf2, pf3, pf4, pf5⟩ := page_cells kp
    obtain ⟨⟨zc0, zc1, zc2, zc3, zc4, zc5⟩, zf0, zf1, zf2, zf3, zf4, zf5⟩ := page_cells kz
    have hs9 := hb.size
    cases hf : Vi.fread (l.drop a) with
    | none =>
      have HF := hid hf
      have fin : g = (⟨p1, p2, p3, p4, p5, p6⟩, a) := by
        rw [hla]
        simp [lastN, hf]
      have FIN := hid fin
      clear fin hf hla
      by_cases hca : c = a
      · rw [if_pos hca] at hslice
        obtain rfl : a = n := by omega
        subst hca
        rw [Nat.sub_self] at hslice
        go_wp2_with (go_at_call 27; refine (fRead_none _ _ _ _ _ wr hslice (by omega) HF.out).mono ?_; rintro e w9 ⟨rfl, rfl⟩)
        refine bodyPost_ret (by simp [results, Try.results11, go_sem, zc0, zc1, zc2, zc3, zc4, zc5]; try rfl) rfl ?_
        exact ⟨plast (q := ⟨_, _, _, _, _, _⟩) (HG.out.trans FIN.out), below_page hb (Nat.le_refl _) _ _ _ _ _ _⟩
      · rw [if_neg hca] at hslice
        go_wp2_with (go_at_call 27; refine (fRead_none _ _ _ _ _ wr hslice (by omega) HF.out).mono ?_; rintro e w9 ⟨rfl, rfl⟩)
        refine bodyPost_ret (by simp [results, Try.results11, go_sem, zc0, zc1, zc2, zc3, zc4, zc5]; try rfl) rfl ?_
        exact ⟨plast (q := ⟨_, _, _, _, _, _⟩) (HG.out.trans FIN.out), below_page hb (Nat.le_refl _) _ _ _ _ _ _⟩
    | some xr =>
      obtain ⟨r, t⟩ := xr
      have hfit := Vi.fread_fits hf
      rw [List.length_drop, HL.out] at hfit
      have HF := hid hf
      by_cases hca : c = a
      · exfalso; omega
      · rw [if_neg hca] at hslice
        have HKP := hid kp
        have HKZ := hid kz
        have HB := hid hb
        have HLA := hid hla
        clear hf hla kp kz hb
        go_wp2_with (go_at_call 27; refine stop_ (fun Ps hPs => ?_))
        refine hPs ?_
        clear hPs Ps
        refine (fRead_some _ _ _ _ r t wr hslice (by omega) (by omega) (by have := hcm0.out; unfold maxLen at this ⊢; omega) HF.out).mono ?_
        rintro e w2 ⟨u, rfl, hu, hbu⟩
        obtain ⟨Au, cu, rfl, g1, g2⟩ := owned_slice hu
        have hru := Rd.of_own hu
        have HRU := hid hru
        clear hslice hu hru pc0 pc1 pc2 pc3 pc4 pc5 zc0 zc1 zc2 zc3 zc4 zc5 pf0 pf1 pf2 pf3 pf4 pf5 zf0 zf1 zf2 zf3 zf4 zf5
        have hr3 := hfit.2.2.1
        have hd10 := decode10 Au r.length cu r w2 HRU.out (by omega) g1 g2
        go_wp2_with (go_at_call 10; refine stop_ (fun Ps hPs => ?_))
        refine hPs ?_
        clear hPs Ps
        cases hd : decP r with
        | none =>
          rw [hd] at hd10
          have hd10 : Calls Try.prog 10 #[.slice Au r.length cu] w2 fun e w' => e = .returned (.tuple #[(Pg.mk 0 0 0 0 0 0).v, .int .i64 5]) ∧ Below w2.heap.size w2 w' := hd10
          have fin : g = (⟨p1, p2, p3, p4, p5, p6⟩, a) := by
            rw [HLA.out]
            simp [lastN, HF.out, hd]
          have FIN := hid fin
          clear fin hd
          refine hd10.mono ?_
          clear hd10
          rintro e w3 ⟨rfl, hb3⟩
          have b13 := bl_trans hbu hb3 hbu.size
          have kp := (HKP.out.later b13).alloc (.cells #[.int .i64 0, .int .u8 0, .int .i64 0, .int .u8 0, .int .i64 0, .int .i64 0] 25)
          have kz := (HKZ.out.later b13).alloc (.cells #[.int .i64 0, .int .u8 0, .int .i64 0, .int .u8 0, .int .i64 0, .int .i64 0] 25)
          have hb := bl_trans HB.out b13 HB.out.size
          have hb := hb.alloc hb.size (.cells #[.int .i64 0, .int .u8 0, .int .i64 0, .int .u8 0, .int .i64 0, .int .i64 0] 25)
          obtain ⟨⟨pc0, pc1, pc2, pc3, pc4, pc5⟩, pf0, pf1, pf2, pf3, pf4, pf5⟩ := page_cells kp
          obtain ⟨⟨zc0, zc1, zc2, zc3, zc4, zc5⟩, zf0, zf1, zf2, zf3, zf4, zf5⟩ := page_cells kz
          go_wp2_with fail
          refine bodyPost_ret (by simp [results, Try.results11, go_sem, zc0, zc1, zc2, zc3, zc4, zc5]; try rfl) rfl ?_
          exact ⟨plast (q := ⟨_, _, _, _, _, _⟩) (HG.out.trans FIN.out), below_page hb (Nat.le_refl _) _ _ _ _ _ _⟩
        | some q =>
          rw [hd] at hd10
          have HD := hid hd
          clear hd
          obtain ⟨q1, q2, q3, q4, q5, q6⟩ := q
          refine hd10.mono ?_
          clear hd10
          rintro e w3 ⟨rfl, hb3⟩
          have b13 := bl_trans hbu hb3 hbu.size
          have kp := (HKP.out.later b13).alloc (.cells #[.int .i64 q1, .int .u8 q2, .int .i64 q3, .int .u8 q4, .int .i64 q5, .int .i64 q6] 25)
          have kz := (HKZ.out.later b13).alloc (.cells #[.int .i64 q1, .int .u8 q2, .int .i64 q3, .int .u8 q4, .int .i64 q5, .int .i64 q6] 25)
          have hb := bl_trans HB.out b13 HB.out.size
          have hb := hb.alloc hb.size (.cells #[.int .i64 q1, .int .u8 q2, .int .i64 q3, .int .u8 q4, .int .i64 q5, .int .i64 q6] 25)
          obtain ⟨⟨pc0, pc1, pc2, pc3, pc4, pc5⟩, pf0, pf1, pf2, pf3, pf4, pf5⟩ := page_cells kp
          go_wp2_with fail
          go_roundg (n - (a + t))
          case measure => omega
          case rel =>
            refine ⟨a + t, ⟨q1, q2, q3, q4, q5, q6⟩, f, by go_num, by omega, rfl, kp.page (.int .i64 q1) (.int .u8 q2) (.int .i64 q3) (.int .u8 q4) (.int .i64 q5) (.int .i64 q6), kz.page_far nzp (.int .i64 q1) (.int .u8 q2) (.int .i64 q3) (.int .u8 q4) (.int .i64 q5) (.int .i64 q6), below_page hb l7 (.int .i64 q1) (.int .u8 q2) (.int .i64 q3) (.int .u8 q4) (.int .i64 q5) (.int .i64 q6), by omega, ?_⟩
            rw [HG.out, HLA.out]
            simp only [lastN, HF.out, HD.out, List.drop_drop, Nat.add_assoc]
end Go.Proofs.Ytcfopaphpjmopaa
