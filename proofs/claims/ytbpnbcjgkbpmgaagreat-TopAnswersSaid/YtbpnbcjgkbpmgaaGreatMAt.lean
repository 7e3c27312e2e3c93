/- A primary answers without waiting for the other site, as many times as its leash allows: of any acts. No condition. (part 20) -/
import Derived.Test.YtbpnbcjgkbpmgaaGreatMAq
import Derived.Test.YtbpnbcjgkbpmgaaGreatMAs
namespace Go.Proofs.YtbpnbcjgkbpmgaaGreat.Pp
open Go.RowKit Go.Lg
set_option linter.unusedVariables false
set_option linter.unusedSimpArgs false
def firstP (nd : Int) : Pg × Int := if nd = 0 then (⟨1, 1, 0, 0, 0, 0⟩, 0) else if nd = 1 then (⟨1, 2, 0, 0, 0, 0⟩, 0) else (z, 2)
set_option maxHeartbeats 4000000 in
set_option maxRecDepth 100000 in
theorem first8 (nd : Int) (w : World) : Calls Tryz.prog 62 #[.int .i64 nd] w (Gives (firstP nd) w) := by
  go_enter Tryz.func62, Tryz.ntmps62
  go_wp2_with fail
  all_goals
    refine bodyPost_ret (by simp [results, Tryz.results62, go_sem]; try rfl) rfl ?_
    try simp only [beq_iff_eq, beq_eq_false_iff_ne] at *
    refine ⟨ret2 (q := ⟨_, _, _, _, _, _⟩) ?_, by repeat (first | (with_reducible exact Below.refl _ _) | (with_reducible refine Below.alloc ?_ (Nat.le_refl _) _) | (with_reducible refine Below.setCell ?_ (by simp) _))⟩
    simp only [firstP]
    repeat' split
    all_goals first | rfl | (exfalso; omega)
def lastN : Nat → Pg → List UInt8 → Pg × Nat
  | 0, p, _ => (p, 0)
  | f + 1, p, l => match Vi.fread l with
    | none => (p, 0)
    | some (r, t) => match decP r with
      | none => (p, 0)
      | some q => ((lastN f q (l.drop t)).1, t + (lastN f q (l.drop t)).2)
def lastP (p : Pg) (l : List UInt8) : Pg × Nat := lastN (l.length + 1) p l
def LastIs (r : Pg × Nat) (w : World) (e : Ending) (w' : World) : Prop := e = .returned (.tuple #[r.1.v, .int .i64 r.2, .int .i64 0]) ∧ Below w.heap.size w w'
theorem plast {r : Pg × Nat} {q : Pg} {a : Nat} (h : r = (q, a)) : Ending.returned (.tuple #[q.v, .int .i64 (a : Nat), .int .i64 0]) = .returned (.tuple #[r.1.v, .int .i64 r.2, .int .i64 0]) := by rw [h]
set_option maxHeartbeats 8000000 in
set_option maxRecDepth 100000 in
theorem last11 (A : Option Addr) (n c : Nat) (nd : Int) (p1 p2 p3 p4 p5 p6 : Int) (l : List UInt8) (w : World) (h : Rd w w.heap.size 1 A n (bts l)) (hn : n ≤ 140737488355000) (hc : n ≤ c) (hcm : c ≤ maxLen)
    (hf : firstP nd = (⟨p1, p2, p3, p4, p5, p6⟩, 0)) :
    Calls Tryz.prog 29 #[.slice A n c, .int .i64 nd] w (LastIs (lastP ⟨p1, p2, p3, p4, p5, p6⟩ l) w) := by
  have h8 := first8 nd
  rw [hf] at h8
  clear hf
  have hl : l.length = n := by have := h.1; rw [bts_length] at this; omega
  have HL := hid hl
  have hcm0 := hid hcm
  unfold maxLen at hcm
  clear hl
  go_enter Tryz.func29, Tryz.ntmps29
  go_wp2_with (go_at_call 62; refine stop_ (fun Ps hPs => ?_))
  refine hPs ?_
  clear hPs Ps
  have kz := Blk.new w 43 #[.int .i64 0, .int .u8 0, .int .i64 0, .int .u8 0, .int .i64 0, .int .i64 0]
  have hb := (Below.refl w.heap.size w).alloc (Nat.le_refl _) (.cells #[.int .i64 0, .int .u8 0, .int .i64 0, .int .u8 0, .int .i64 0, .int .i64 0] 43)
  obtain ⟨W, hW⟩ : ∃ W, W = w.alloc (.cells #[.int .i64 0, .int .u8 0, .int .i64 0, .int .u8 0, .int .i64 0, .int .i64 0] 43) := ⟨_, rfl⟩
  rw [← hW] at kz hb ⊢
  clear hW
  refine (h8 _).mono ?_
  clear h8
  rintro e w1 ⟨rfl, hq⟩
  have kz := kz.later hq
  have hb := bl_trans hb hq hb.size
  clear hq
  go_wp2_with fail
  have kp := Blk.new w1 43 #[.int .i64 p1, .int .u8 p2, .int .i64 p3, .int .u8 p4, .int .i64 p5, .int .i64 p6]
  have nzp : w.heap.size ≠ w1.heap.size := Nat.ne_of_lt kz.lt
  have kz := kz.alloc (.cells #[.int .i64 p1, .int .u8 p2, .int .i64 p3, .int .u8 p4, .int .i64 p5, .int .i64 p6] 43)
  have l7 := hb.size
  have hb := hb.alloc hb.size (.cells #[.int .i64 p1, .int .u8 p2, .int .i64 p3, .int .u8 p4, .int .i64 p5, .int .i64 p6] 43)
  obtain ⟨W, hW⟩ : ∃ W, W = w1.alloc (.cells #[.int .i64 p1, .int .u8 p2, .int .i64 p3, .int .u8 p4, .int .i64 p5, .int .i64 p6] 43) := ⟨_, rfl⟩
  rw [← hW] at kz kp hb ⊢
  clear hW
  obtain ⟨b7, h7⟩ : ∃ b, b = w1.heap.size := ⟨_, rfl⟩
  rw [← h7] at kp nzp l7 ⊢
  clear h7
  go_loopg [9] n (fun k i wr => ∃ (a : Nat) (p : Pg) (f : Nat), i = .int .i64 a ∧ a ≤ n ∧ k = n - a ∧ Blk wr b7 43 p.cs ∧ Blk wr w.heap.size 43 #[.int .i64 0, .int .u8 0, .int .i64 0, .int .u8 0, .int .i64 0, .int .i64 0] ∧ Below w.heap.size w wr ∧ n - a < f ∧
    lastP ⟨p1, p2, p3, p4, p5, p6⟩ l = ((lastN f p (l.drop a)).1, a + (lastN f p (l.drop a)).2))
  case atStart => exact ⟨0, ⟨p1, p2, p3, p4, p5, p6⟩, n + 1, rfl, by omega, rfl, kp, kz, hb, by omega, by simp [lastP, HL.out]⟩
  case round =>
    clear kp kz hb
    obtain ⟨a, p, f, rfl, ha, rfl, kp, kz, hb, hfu, hla⟩ := hrel
    obtain ⟨f, rfl⟩ : ∃ f', f = f' + 1 := ⟨f - 1, by omega⟩
    obtain ⟨g, hg⟩ : ∃ g, lastP ⟨p1, p2, p3, p4, p5, p6⟩ l = g := ⟨_, rfl⟩
    rw [hg] at hla ⊢
    have HG := hid hg
    clear hg
    obtain ⟨p1, p2, p3, p4, p5, p6⟩ := p
    have hslice := ((h.keep (w' := wr) fun p hp => hb.cell hp).more hb.size).drop (k := a) (cap := c) ha hc
    rw [Nat.mul_one, bts_drop] at hslice
    obtain ⟨⟨pc0, pc1, pc2, pc3, pc4, pc5⟩, pf0, pf1, pf2, pf3, pf4, pf5⟩ := page_cells kp
    obtain ⟨⟨zc0, zc1, zc2, zc3, zc4, zc5⟩, zf0, zf1, zf2, zf3, zf4, zf5⟩ := page_cells kz
    have hs9 := hb.size
    cases hf : Vi.fread (l.drop a) with
    | none =>
      have HF := hid hf
      have fin : g = (⟨p1, p2, p3, p4, p5, p6⟩, a) := by
        rw [hla]
        simp [lastN, hf]
      have FIN := hid fin
      clear fin hf hla
      by_cases hca : c = a
      · rw [if_pos hca] at hslice
        obtain rfl : a = n := by omega
        subst hca
        rw [Nat.sub_self] at hslice
        go_wp2_with (go_at_call 63; refine (fRead_none _ _ _ _ _ wr hslice (by omega) HF.out).mono ?_; rintro e w9 ⟨rfl, rfl⟩)
        refine bodyPost_ret (by simp [results, Tryz.results29, go_sem, zc0, zc1, zc2, zc3, zc4, zc5]; try rfl) rfl ?_
        exact ⟨plast (q := ⟨_, _, _, _, _, _⟩) (HG.out.trans FIN.out), below_page hb (Nat.le_refl _) _ _ _ _ _ _⟩
      · rw [if_neg hca] at hslice
        go_wp2_with (go_at_call 63; refine (fRead_none _ _ _ _ _ wr hslice (by omega) HF.out).mono ?_; rintro e w9 ⟨rfl, rfl⟩)
        refine bodyPost_ret (by simp [results, Tryz.results29, go_sem, zc0, zc1, zc2, zc3, zc4, zc5]; try rfl) rfl ?_
        exact ⟨plast (q := ⟨_, _, _, _, _, _⟩) (HG.out.trans FIN.out), below_page hb (Nat.le_refl _) _ _ _ _ _ _⟩
    | some xr =>
      obtain ⟨r, t⟩ := xr
      have hfit := Vi.fread_fits hf
      rw [List.length_drop, HL.out] at hfit
      have HF := hid hf
      by_cases hca : c = a
      · exfalso; omega
      · rw [if_neg hca] at hslice
        have HKP := hid kp
        have HKZ := hid kz
        have HB := hid hb
        have HLA := hid hla
        clear hf hla kp kz hb
        go_wp2_with (go_at_call 63; refine stop_ (fun Ps hPs => ?_))
        refine hPs ?_
        clear hPs Ps
        refine (fRead_some _ _ _ _ r t wr hslice (by omega) (by omega) (by have := hcm0.out; unfold maxLen at this ⊢; omega) HF.out).mono ?_
        rintro e w2 ⟨u, rfl, hu, hbu⟩
        obtain ⟨Au, cu, rfl, g1, g2⟩ := owned_slice hu
        have hru := Rd.of_own hu
        have HRU := hid hru
        clear hslice hu hru pc0 pc1 pc2 pc3 pc4 pc5 zc0 zc1 zc2 zc3 zc4 zc5 pf0 pf1 pf2 pf3 pf4 pf5 zf0 zf1 zf2 zf3 zf4 zf5
        have hr3 := hfit.2.2.1
        have hd10 := decode10 Au r.length cu r w2 HRU.out (by omega) g1 g2
        go_wp2_with (go_at_call 64; refine stop_ (fun Ps hPs => ?_))
        refine hPs ?_
        clear hPs Ps
        cases hd : decP r with
        | none =>
          rw [hd] at hd10
          have hd10 : Calls Tryz.prog 64 #[.slice Au r.length cu] w2 fun e w' => e = .returned (.tuple #[(Pg.mk 0 0 0 0 0 0).v, .int .i64 5]) ∧ Below w2.heap.size w2 w' := hd10
          have fin : g = (⟨p1, p2, p3, p4, p5, p6⟩, a) := by
            rw [HLA.out]
            simp [lastN, HF.out, hd]
          have FIN := hid fin
          clear fin hd
          refine hd10.mono ?_
          clear hd10
          rintro e w3 ⟨rfl, hb3⟩
          have b13 := bl_trans hbu hb3 hbu.size
          have kp := (HKP.out.later b13).alloc (.cells #[.int .i64 0, .int .u8 0, .int .i64 0, .int .u8 0, .int .i64 0, .int .i64 0] 43)
          have kz := (HKZ.out.later b13).alloc (.cells #[.int .i64 0, .int .u8 0, .int .i64 0, .int .u8 0, .int .i64 0, .int .i64 0] 43)
          have hb := bl_trans HB.out b13 HB.out.size
          have hb := hb.alloc hb.size (.cells #[.int .i64 0, .int .u8 0, .int .i64 0, .int .u8 0, .int .i64 0, .int .i64 0] 43)
          obtain ⟨⟨pc0, pc1, pc2, pc3, pc4, pc5⟩, pf0, pf1, pf2, pf3, pf4, pf5⟩ := page_cells kp
          obtain ⟨⟨zc0, zc1, zc2, zc3, zc4, zc5⟩, zf0, zf1, zf2, zf3, zf4, zf5⟩ := page_cells kz
          go_wp2_with fail
          refine bodyPost_ret (by simp [results, Tryz.results29, go_sem, zc0, zc1, zc2, zc3, zc4, zc5]; try rfl) rfl ?_
          exact ⟨plast (q := ⟨_, _, _, _, _, _⟩) (HG.out.trans FIN.out), below_page hb (Nat.le_refl _) _ _ _ _ _ _⟩
        | some q =>
          rw [hd] at hd10
          have HD := hid hd
          clear hd
          obtain ⟨q1, q2, q3, q4, q5, q6⟩ := q
          refine hd10.mono ?_
          clear hd10
          rintro e w3 ⟨rfl, hb3⟩
          have b13 := bl_trans hbu hb3 hbu.size
          have kp := (HKP.out.later b13).alloc (.cells #[.int .i64 q1, .int .u8 q2, .int .i64 q3, .int .u8 q4, .int .i64 q5, .int .i64 q6] 43)
          have kz := (HKZ.out.later b13).alloc (.cells #[.int .i64 q1, .int .u8 q2, .int .i64 q3, .int .u8 q4, .int .i64 q5, .int .i64 q6] 43)
          have hb := bl_trans HB.out b13 HB.out.size
          have hb := hb.alloc hb.size (.cells #[.int .i64 q1, .int .u8 q2, .int .i64 q3, .int .u8 q4, .int .i64 q5, .int .i64 q6] 43)
          obtain ⟨⟨pc0, pc1, pc2, pc3, pc4, pc5⟩, pf0, pf1, pf2, pf3, pf4, pf5⟩ := page_cells kp
          go_wp2_with fail
          go_roundg (n - (a + t))
          case measure => omega
          case rel =>
            refine ⟨a + t, ⟨q1, q2, q3, q4, q5, q6⟩, f, by go_num, by omega, rfl, kp.page (.int .i64 q1) (.int .u8 q2) (.int .i64 q3) (.int .u8 q4) (.int .i64 q5) (.int .i64 q6), kz.page_far nzp (.int .i64 q1) (.int .u8 q2) (.int .i64 q3) (.int .u8 q4) (.int .i64 q5) (.int .i64 q6), below_page hb l7 (.int .i64 q1) (.int .u8 q2) (.int .i64 q3) (.int .u8 q4) (.int .i64 q5) (.int .i64 q6), by omega, ?_⟩
            rw [HG.out, HLA.out]
            simp only [lastN, HF.out, HD.out, List.drop_drop, Nat.add_assoc]
end Go.Proofs.YtbpnbcjgkbpmgaaGreat.Pp
namespace Go.Proofs.YtbpnbcjgkbpmgaaGreat
open Go.RowKit Go.Lg Ds St
set_option linter.unusedVariables false
set_option linter.unusedSimpArgs false
abbrev Pg := Pp.Pg
abbrev stc (dz : Nat) (p : Pg) (vL : Value) (wz rz sz : Nat) : Array Value :=
  #[P dz, .bool false, .int .i64 p.ep, .int .u8 p.ro, .int .i64 p.ac, .int .u8 p.ph, .int .i64 p.fo, .int .i64 p.ba, vL, P wz, P rz, P sz, .int .i64 0]
inductive Sb (w : World) (F : Fp) (z dz wz rz sz : Nat) (p : Pg) (cs : List Cmt) : Prop
  | mk (vL : Value) (ms : List Cm) (inz : F z) (blk : Blk w z 205 (stc dz p vL wz rz sz)) (hms : ms.map Cm.p = cs) (cl : Cl w F vL ms)
theorem Sb.mv {w w' : World} {F G : Fp} {z dz wz rz sz : Nat} {p : Pg} {cs : List Cmt} (h : Sb w F z dz wz rz sz p cs) (m : Mv w w' F G) : Sb w' G z dz wz rz sz p cs := by
  obtain ⟨vL, ms, inz, blk, hms, cl⟩ := h
  exact ⟨vL, ms, (m z blk.lt inz).1, (m z blk.lt inz).2.trans blk, hms, cl.mv m⟩
theorem stcells {w : World} {z dz wz rz sz : Nat} {p : Pg} {vL : Value} (h : Blk w z 205 (stc dz p vL wz rz sz)) :
    w.cell? ⟨z, 0, none⟩ = some (P dz) ∧ w.cell? ⟨z, 1, none⟩ = some (.bool false) ∧ w.cell? ⟨z, 2, none⟩ = some (.int .i64 p.ep) ∧ w.cell? ⟨z, 3, none⟩ = some (.int .u8 p.ro) ∧ w.cell? ⟨z, 4, none⟩ = some (.int .i64 p.ac) ∧ w.cell? ⟨z, 5, none⟩ = some (.int .u8 p.ph) ∧
      w.cell? ⟨z, 6, none⟩ = some (.int .i64 p.fo) ∧ w.cell? ⟨z, 7, none⟩ = some (.int .i64 p.ba) ∧ w.cell? ⟨z, 8, none⟩ = some vL ∧ w.cell? ⟨z, 9, none⟩ = some (P wz) ∧ w.cell? ⟨z, 10, none⟩ = some (P rz) ∧ w.cell? ⟨z, 11, none⟩ = some (P sz) ∧ w.cell? ⟨z, 12, none⟩ = some (.int .i64 0) :=
  ⟨h.cell 0, h.cell 1, h.cell 2, h.cell 3, h.cell 4, h.cell 5, h.cell 6, h.cell 7, h.cell 8, h.cell 9, h.cell 10, h.cell 11, h.cell 12⟩
section
variable {w : World} {F : Fp} {z dz wz rz sz : Nat} {p : Pg} {cs : List Cmt}
set_option maxHeartbeats 1000000 in
set_option maxRecDepth 100000 in
theorem stnone122 (h : Sb w F z dz wz rz sz p cs) : Calls Tryz.prog 122 #[P z] w (Asked false w) := by
  obtain ⟨vL, ms, inz, blk, hms, cl⟩ := h
  obtain ⟨c0, _⟩ := stcells blk
  clear blk cl
  go_enter Tryz.func122, Tryz.ntmps122
  go_wp2_with fail
  go_ret
  exact asked_eq rfl
set_option maxHeartbeats 1000000 in
set_option maxRecDepth 100000 in
theorem stend98 (h : Sb w F z dz wz rz sz p cs) : Calls Tryz.prog 98 #[P z] w (Num0 (cs.length : Nat) w) := by
  have hn := stnone122 h
  obtain ⟨vL, ms, inz, blk, hms, cl⟩ := h
  obtain ⟨A, c, rfl, _, _⟩ := cl.row.slice_
  obtain ⟨c0, c1, c2, c3, c4, c5, c6, c7, c8, _⟩ := stcells blk
  rw [show cs.length = ms.length by rw [← hms]; simp]
  clear blk cl hms
  go_enter Tryz.func98, Tryz.ntmps98
  go_wp2_with (go_at_call 122; (with_reducible refine hn.mono ?_); rintro e' w1 ⟨rfl, rfl⟩)
  go_ret
  exact ⟨rfl, rfl⟩
set_option maxHeartbeats 1000000 in
set_option maxRecDepth 100000 in
theorem stlast127 (h : Sb w F z dz wz rz sz p cs) : Calls Tryz.prog 127 #[P z] w fun e w' => e = .returned (.int .i64 (lastEp cs)) ∧ ∃ d, w' = w.drewN d := by
  obtain ⟨vL, ms, inz, blk, hms, cl⟩ := h
  obtain ⟨A, c, rfl, q1, q2⟩ := cl.row.slice_
  obtain ⟨c0, c1, c2, c3, c4, c5, c6, c7, c8, _⟩ := stcells blk
  unfold maxLen at q2
  rcases Nat.eq_zero_or_pos ms.length with h0 | h0
  · have hl : lastEp cs = 0 := by
      have : ms = [] := List.eq_nil_of_length_eq_zero h0
      subst this
      rw [← hms]; rfl
    rw [hl]
    rw [h0] at c8
    clear blk cl hms hl h0
    go_enter Tryz.func127, Tryz.ntmps127
    go_wp2_with fail
    all_goals first | omega | (go_ret; exact ⟨rfl, 0, rfl⟩)
  · obtain ⟨m, hm, hme⟩ := lastEp_cm hms h0
    obtain ⟨g, off, rfl, _, hc⟩ := cl.row.rdf.2 (by have := cl.row.1; omega)
    have k0 := hc _ _ (cmc_get ms _ m hm).1
    rw [← hme]
    obtain ⟨n, hn⟩ : ∃ n, n = ms.length := ⟨_, rfl⟩
    rw [← hn] at q1 h0 k0 c8
    have hw2 : IntKind.i64.wrap ((n : Int) - 1) = (n : Int) - 1 := IntWalk.i64_in _ (by omega)
    have hn1 : (1 : Int) ≤ (n : Int) := by omega
    have hn2 : (n : Int) - 1 < (n : Int) := by omega
    have hz : (n : Int) ≠ 0 := by omega
    have hz2 : ((n : Int) == 0) = false := by simp; omega
    clear blk cl hms hm hme hc hn h0
    go_enter Tryz.func127, Tryz.ntmps127
    go_wp2_with fail
    go_quiet (fail)
    all_goals go_wp2_with fail
    all_goals first | omega | (go_ret; exact ⟨rfl, _, rfl⟩)
set_option maxHeartbeats 1000000 in
set_option maxRecDepth 100000 in
theorem stwrong124 (h : Sb w F z dz wz rz sz p cs) (ho : Calls Tryz.prog 118 #[P dz] w (Asked true w)) : Calls Tryz.prog 124 #[P z] w (Num0 0 w) := by
  have hn := stnone122 h
  obtain ⟨vL, ms, inz, blk, hms, cl⟩ := h
  obtain ⟨c0, c1, _⟩ := stcells blk
  clear blk cl hms
  go_enter Tryz.func124, Tryz.ntmps124
  go_wp2_with (first | (go_at_call 122; (with_reducible refine hn.mono ?_); rintro e' w1 ⟨rfl, rfl⟩) | (go_at_call 118; (with_reducible refine ho.mono ?_); rintro e' w1 ⟨rfl, rfl⟩))
  go_ret
  exact ⟨rfl, rfl⟩
set_option maxHeartbeats 1000000 in
set_option maxRecDepth 100000 in
theorem sttried130 {vL : Value} (blk : Blk w z 205 (stc dz p vL wz rz sz)) : Calls Tryz.prog 130 #[P z, .int .i64 0] w fun e w' => e = .returned (.int .i64 0) ∧ w' = w.setCell ⟨z, 1, none⟩ (.bool false) := by
  obtain ⟨c0, c1, _⟩ := stcells blk
  have f1 : w.frozen? ⟨z, 1, none⟩ = false := blk.frozen 1
  clear blk
  go_enter Tryz.func130, Tryz.ntmps130
  go_wp2_with fail
  go_ret
  exact ⟨rfl, rfl⟩
set_option maxHeartbeats 1000000 in
set_option maxRecDepth 100000 in
theorem stpage78 (h : Sb w F z dz wz rz sz p cs) : Calls Tryz.prog 78 #[P z] w fun e w' => e = .returned p.v ∧ Below w.heap.size w w' := by
  obtain ⟨W, hW⟩ : ∃ W, W = w.alloc (.cells #[.int .i64 0, .int .u8 0, .int .i64 0, .int .u8 0, .int .i64 0, .int .i64 0] 43) := ⟨_, rfl⟩
  have hb : Below w.heap.size w W := by rw [hW]; exact (Below.refl _ _).alloc (Nat.le_refl _) _
  have hn := stnone122 (h.mv (bmv hb F))
  have kb : Blk W w.heap.size 43 #[.int .i64 0, .int .u8 0, .int .i64 0, .int .u8 0, .int .i64 0, .int .i64 0] := by rw [hW]; exact Blk.new _ _ _
  have h2 := h.mv (bmv hb F)
  obtain ⟨vL, ms, inz, blk, hms, cl⟩ := h2
  obtain ⟨c0, c1, c2, c3, c4, c5, c6, c7, _⟩ := stcells blk
  have b0 : W.cell? ⟨w.heap.size, 0, none⟩ = some (.int .i64 0) := kb.cell 0
  have b1 : W.cell? ⟨w.heap.size, 1, none⟩ = some (.int .u8 0) := kb.cell 1
  have b2 : W.cell? ⟨w.heap.size, 2, none⟩ = some (.int .i64 0) := kb.cell 2
  have b3 : W.cell? ⟨w.heap.size, 3, none⟩ = some (.int .u8 0) := kb.cell 3
  have b4 : W.cell? ⟨w.heap.size, 4, none⟩ = some (.int .i64 0) := kb.cell 4
  have b5 : W.cell? ⟨w.heap.size, 5, none⟩ = some (.int .i64 0) := kb.cell 5
  have f0 : W.frozen? ⟨w.heap.size, 0, none⟩ = false := kb.frozen 0
  have f1 : W.frozen? ⟨w.heap.size, 1, none⟩ = false := kb.frozen 1
  have f2 : W.frozen? ⟨w.heap.size, 2, none⟩ = false := kb.frozen 2
  have f3 : W.frozen? ⟨w.heap.size, 3, none⟩ = false := kb.frozen 3
  have f4 : W.frozen? ⟨w.heap.size, 4, none⟩ = false := kb.frozen 4
  have f5 : W.frozen? ⟨w.heap.size, 5, none⟩ = false := kb.frozen 5
  obtain ⟨p1, p2, p3, p4, p5, p6⟩ := p
  have HK := hid kb
  have HB := hid hb
  clear blk cl hms h kb hb
  go_enter Tryz.func78, Tryz.ntmps78
  go_upto_region 1 with fail
  rw [← hW]
  clear hW
  go_wp2_with (go_at_call 122; (with_reducible refine hn.mono ?_); rintro e' w1 ⟨rfl, rfl⟩)
  obtain ⟨W6, hW6⟩ : ∃ W6, W6 = ((((((W.setCell ⟨w.heap.size, 0, none⟩ (.int .i64 p1)).setCell ⟨w.heap.size, 1, none⟩ (.int .u8 p2)).setCell ⟨w.heap.size, 2, none⟩ (.int .i64 p3)).setCell ⟨w.heap.size, 3, none⟩ (.int .u8 p4)).setCell ⟨w.heap.size, 4, none⟩ (.int .i64 p5)).setCell ⟨w.heap.size, 5, none⟩ (.int .i64 p6)) := ⟨_, rfl⟩
  have k6 : Blk W6 w.heap.size 43 #[.int .i64 p1, .int .u8 p2, .int .i64 p3, .int .u8 p4, .int .i64 p5, .int .i64 p6] := by
    rw [hW6]; exact (((((HK.out.set_ 0 _).set_ 1 _).set_ 2 _).set_ 3 _).set_ 4 _).set_ 5 _
  have d0 : W6.cell? ⟨w.heap.size, 0, none⟩ = some (.int .i64 p1) := k6.cell 0
  have d1 : W6.cell? ⟨w.heap.size, 1, none⟩ = some (.int .u8 p2) := k6.cell 1
  have d2 : W6.cell? ⟨w.heap.size, 2, none⟩ = some (.int .i64 p3) := k6.cell 2
  have d3 : W6.cell? ⟨w.heap.size, 3, none⟩ = some (.int .u8 p4) := k6.cell 3
  have d4 : W6.cell? ⟨w.heap.size, 4, none⟩ = some (.int .i64 p5) := k6.cell 4
  have d5 : W6.cell? ⟨w.heap.size, 5, none⟩ = some (.int .i64 p6) := k6.cell 5
  have hb6 : Below w.heap.size w W6 := by
    rw [hW6]; exact (((((HB.out.setCell (Nat.le_refl _) _).setCell (Nat.le_refl _) _).setCell (Nat.le_refl _) _).setCell (Nat.le_refl _) _).setCell (Nat.le_refl _) _).setCell (Nat.le_refl _) _
  first | rw [← hW6] | (simp only [Nat.zero_add, Nat.reduceAdd]; rw [← hW6])
  refine bodyPost_ret (by simp [results, Tryz.results78, Tryz.f78, go_sem, d0, d1, d2, d3, d4, d5]; try rfl) rfl ?_
  exact ⟨rfl, hb6⟩
set_option maxHeartbeats 1000000 in
set_option maxRecDepth 100000 in
theorem stget95 {H G : Fp} {n : Nat} (h : Sb w F z dz wz rz sz p cs) (hs : Sr w H sz rz n cs) (hr : R0 w G rz dz) (key : ByteArray) (hk : key.size ≤ maxLen) : Calls Tryz.prog 95 #[P z, .string key] w (SGet (told (tabOf cs (kb key))) w) := by
  have hn := stnone122 h
  have hg := sget151 hs hr key hk
  obtain ⟨vL, ms, inz, blk, hms, cl⟩ := h
  obtain ⟨c0, c1, c2, c3, c4, c5, c6, c7, c8, c9, c10, c11, c12⟩ := stcells blk
  clear blk cl hms hs hr
  go_enter Tryz.func95, Tryz.ntmps95
  go_wp2_with (first | (go_at_call 122; (with_reducible refine hn.mono ?_); rintro e' w1 ⟨rfl, rfl⟩) | (go_at_call 151; refine stop_ (fun Ps hPs => ?_)))
  refine hPs ?_
  clear hPs Ps
  refine hg.mono ?_
  rintro e' w1 ⟨rfl, hb⟩
  have HB := hid hb
  clear hb hg
  go_wp2_with fail
  go_ret2
  exact ⟨rfl, HB.out⟩
set_option maxHeartbeats 1000000 in
set_option maxRecDepth 100000 in
theorem stsound126 (z : Nat) (p : Pg) (en ep : Int) (w : World) (hph : p.ph = 0) (hro : p.ro ≠ 3) (h1 : 0 ≤ en) (h2 : ep ≤ p.ep) (h3 : p.ac ≤ en) : Calls Tryz.prog 126 #[P z, p.v, .int .i64 en, .int .i64 ep, .int .i64 0] w fun e w' => e = .returned (.bool true) ∧ Below w.heap.size w w' := by
  obtain ⟨p1, p2, p3, p4, p5, p6⟩ := p
  simp only at hph hro h2 h3
  subst hph
  have hb : Below w.heap.size w (w.alloc (.cells #[.int .i64 p1, .int .u8 p2, .int .i64 p3, .int .u8 0, .int .i64 p5, .int .i64 p6] 43)) := (Below.refl _ _).alloc (Nat.le_refl _) _
  have hd2 : ¬(p2 = 3) := hro
  have hdb : (p2 == 3) = false := by simp [hro]
  go_enter Tryz.func126, Tryz.ntmps126
  go_wp2_with fail
  all_goals first | omega | (go_ret; exact ⟨rfl, hb⟩)
end
end Go.Proofs.YtbpnbcjgkbpmgaaGreat
