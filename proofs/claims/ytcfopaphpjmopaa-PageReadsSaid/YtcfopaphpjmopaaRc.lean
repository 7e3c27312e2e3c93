/- The reference reads a page. -/
import Derived.Test.YtcfopaphpjmopaaRb
namespace Go.Proofs.Ytcfopaphpjmopaa
open Go.RowKit Go.Lg
set_option linter.unusedVariables false
set_option linter.unusedSimpArgs false

def DoneIs (b : Bool) (w : World) (e : Ending) (w' : World) : Prop := e = .returned (.bool b) ∧ ∃ d, w' = w.drewN d
set_option maxHeartbeats 800000 in
set_option maxRecDepth 100000 in
theorem rDone (R : Nat) (A : Option Addr) (n c a : Nat) (bad : Bool) (w : World) (hR : Rdr w R A n c a bad) (b : Bool) (hb : b = decide (bad = false ∧ a = n)) :
    Calls Try.prog 36 #[.pointer (some ⟨R, 0, none⟩)] w (DoneIs b w) := by
  have c0 := hR.cell 0
  have c1 := hR.cell 1
  have c2 := hR.cell 2
  simp only [List.getElem?_toArray, List.getElem?_cons_zero, List.getElem?_cons_succ] at c0 c1 c2
  have HB := hid hb
  clear hR hb
  cases bad with
  | true =>
    go_enter Try.func36, Try.ntmps36
    go_wp2_with fail
    go_quiet (fail)
    go_wp2_with fail
    go_ret
    exact ⟨by rw [HB.out]; simp, nq, rfl⟩
  | false =>
    by_cases han : a = n
    · have hd : ((a : Int) == (n : Int)) = true := by simp [han]
      go_enter Try.func36, Try.ntmps36
      go_wp2_with fail
      go_quiet (fail)
      go_wp2_with fail
      go_ret
      exact ⟨by rw [HB.out]; simp [han], nq, rfl⟩
    · have hd : ((a : Int) == (n : Int)) = false := by simp; omega
      go_enter Try.func36, Try.ntmps36
      go_wp2_with fail
      go_quiet (fail)
      go_wp2_with fail
      go_ret
      exact ⟨by rw [HB.out]; simp [han], nq, rfl⟩

theorem check17_yes {p : Pg} (h : Ok p) (w : World) : Calls Try.prog 17 #[p.v] w (Num 0 w) := by
  have := check37 p w
  rwa [err, if_pos h] at this
theorem check17_no {p : Pg} (h : ¬Ok p) (w : World) : Calls Try.prog 17 #[p.v] w (Num 2 w) := by
  have := check37 p w
  rwa [err, if_neg h] at this

set_option maxHeartbeats 8000000 in
set_option maxRecDepth 100000 in
theorem decode21 (A : Option Addr) (n c : Nat) (l : List UInt8) (w : World) (h : Rd w w.heap.size 1 A n (bts l)) (hn : n ≤ 140737488355000) (hc : n ≤ c) (hcm : c ≤ maxLen) :
    Calls Try.prog 21 #[.slice A n c] w (Decoded (decP l) w) := by
  have hl : l.length = n := by have := h.1; rw [bts_length] at this; omega
  have HCM := hid hcm
  obtain ⟨⟨x1, a1, b1⟩, h1⟩ : ∃ s, rst 1048576 l 0 false = s := ⟨_, rfl⟩
  have y1 := rst_le 1048576 l 0 false
  rw [h1] at y1
  simp only at y1
  obtain ⟨⟨x2, a2, b2⟩, h2⟩ : ∃ s, rst 3 l a1 b1 = s := ⟨_, rfl⟩
  have y2 := rst_le 3 l a1 b1
  rw [h2] at y2
  simp only at y2
  obtain ⟨⟨x3, a3, b3⟩, h3⟩ : ∃ s, rst 1048576 l a2 b2 = s := ⟨_, rfl⟩
  have y3 := rst_le 1048576 l a2 b2
  rw [h3] at y3
  simp only at y3
  obtain ⟨⟨x4, a4, b4⟩, h4⟩ : ∃ s, rst 4 l a3 b3 = s := ⟨_, rfl⟩
  have y4 := rst_le 4 l a3 b3
  rw [h4] at y4
  simp only at y4
  obtain ⟨⟨x5, a5, b5⟩, h5⟩ : ∃ s, rst 1048576 l a4 b4 = s := ⟨_, rfl⟩
  have y5 := rst_le 1048576 l a4 b4
  rw [h5] at y5
  simp only at y5
  obtain ⟨⟨x6, a6, b6⟩, h6⟩ : ∃ s, rst 1073741824 l a5 b5 = s := ⟨_, rfl⟩
  have y6 := rst_le 1073741824 l a5 b5
  rw [h6] at y6
  simp only at y6
  have hdec := fun ha => dec_chain h1 h2 h3 h4 h5 h6 ha
  have HDEC := hid hdec
  clear hdec
  have H1 := hid h1
  have H2 := hid h2
  have H3 := hid h3
  have H4 := hid h4
  have H5 := hid h5
  have H6 := hid h6
  clear h1 h2 h3 h4 h5 h6
  have z2 : IntKind.u8.wrap (x2 : Int) = x2 := IntWalk.u8_in _ (by omega)
  have z4 : IntKind.u8.wrap (x4 : Int) = x4 := IntWalk.u8_in _ (by omega)
  have kz := (Blk.new w 25 #[.int .i64 0, .int .u8 0, .int .i64 0, .int .u8 0, .int .i64 0, .int .i64 0]).alloc (.cells #[.slice A n c, .int .i64 (0 : Nat), .bool false] 63)
  have kr : Rdr _ (w.heap.size + 1) A n c 0 false := Blk.new2 w (.cells #[.int .i64 0, .int .u8 0, .int .i64 0, .int .u8 0, .int .i64 0, .int .i64 0] 25) 63 #[.slice A n c, .int .i64 (0 : Nat), .bool false]
  have hb := ((Below.refl w.heap.size w).alloc (Nat.le_refl _) (.cells #[.int .i64 0, .int .u8 0, .int .i64 0, .int .u8 0, .int .i64 0, .int .i64 0] 25)).alloc (by simp) (.cells #[.slice A n c, .int .i64 (0 : Nat), .bool false] 63)
  have hsz : (w.heap.size + 1) < ((w.alloc (.cells #[.int .i64 0, .int .u8 0, .int .i64 0, .int .u8 0, .int .i64 0, .int .i64 0] 25)).alloc (.cells #[.slice A n c, .int .i64 (0 : Nat), .bool false] 63)).heap.size := kr.lt
  go_enter Try.func21, Try.ntmps21
  go_wp2_with (go_at_call 35; refine stop_ (fun Ps hPs => ?_))
  refine hPs ?_
  clear hPs Ps
  obtain ⟨W0, hW⟩ : ∃ W, W = (w.alloc (.cells #[.int .i64 0, .int .u8 0, .int .i64 0, .int .u8 0, .int .i64 0, .int .i64 0] 25)).alloc (.cells #[.slice A n c, .int .i64 0, .bool false] 63) := ⟨_, rfl⟩
  have kz : Blk _ _ _ _ := kz
  replace kr : Rdr ((w.alloc (.cells #[.int .i64 0, .int .u8 0, .int .i64 0, .int .u8 0, .int .i64 0, .int .i64 0] 25)).alloc (.cells #[.slice A n c, .int .i64 0, .bool false] 63)) (w.heap.size + 1) A n c 0 false := kr
  replace kz : Blk ((w.alloc (.cells #[.int .i64 0, .int .u8 0, .int .i64 0, .int .u8 0, .int .i64 0, .int .i64 0] 25)).alloc (.cells #[.slice A n c, .int .i64 0, .bool false] 63)) w.heap.size 25 #[.int .i64 0, .int .u8 0, .int .i64 0, .int .u8 0, .int .i64 0, .int .i64 0] := kz
  replace hb : Below w.heap.size w ((w.alloc (.cells #[.int .i64 0, .int .u8 0, .int .i64 0, .int .u8 0, .int .i64 0, .int .i64 0] 25)).alloc (.cells #[.slice A n c, .int .i64 0, .bool false] 63)) := hb
  rw [← hW] at kz kr hb ⊢
  clear hW hsz
  have nzr : w.heap.size ≠ w.heap.size + 1 := by omega
  obtain ⟨R, hR⟩ : ∃ R, R = w.heap.size + 1 := ⟨_, rfl⟩
  rw [← hR] at kr nzr ⊢
  have hRB : w.heap.size < R := by omega
  clear hR
  have hc1 := rSm_any R A n c w.heap.size l 0 1048576 false W0 kr (h.below hb) hb.size hc HCM.out hn (by omega) (Nat.zero_le _)
  rw [H1.out] at hc1
  refine hc1.mono ?_
  clear hc1
  rintro e w1 ⟨rfl, kr', hg, ha1⟩
  simp only at kr' ha1
  have kz := kz.gb hg (by simp; omega)
  have hb := hb.grown hg hb.size (by intro k hk; injection hk with hk; omega)
  clear hg kr
  have kr := kr'
  clear kr'
  go_wp2_with (go_at_call 35; refine stop_ (fun Ps hPs => ?_))
  refine hPs ?_
  clear hPs Ps
  have hc2 := rSm_any R A n c w.heap.size l a1 3 b1 w1 kr (h.below hb) hb.size hc HCM.out hn (by omega) ha1
  rw [H2.out] at hc2
  refine hc2.mono ?_
  clear hc2
  rintro e w2 ⟨rfl, kr', hg, ha2⟩
  simp only at kr' ha2
  have kz := kz.gb hg (by simp; omega)
  have hb := hb.grown hg hb.size (by intro k hk; injection hk with hk; omega)
  clear hg kr
  have kr := kr'
  clear kr'
  go_wp2_with (go_at_call 35; refine stop_ (fun Ps hPs => ?_))
  refine hPs ?_
  clear hPs Ps
  have hc3 := rSm_any R A n c w.heap.size l a2 1048576 b2 w2 kr (h.below hb) hb.size hc HCM.out hn (by omega) ha2
  rw [H3.out] at hc3
  refine hc3.mono ?_
  clear hc3
  rintro e w3 ⟨rfl, kr', hg, ha3⟩
  simp only at kr' ha3
  have kz := kz.gb hg (by simp; omega)
  have hb := hb.grown hg hb.size (by intro k hk; injection hk with hk; omega)
  clear hg kr
  have kr := kr'
  clear kr'
  go_wp2_with (go_at_call 35; refine stop_ (fun Ps hPs => ?_))
  refine hPs ?_
  clear hPs Ps
  have hc4 := rSm_any R A n c w.heap.size l a3 4 b3 w3 kr (h.below hb) hb.size hc HCM.out hn (by omega) ha3
  rw [H4.out] at hc4
  refine hc4.mono ?_
  clear hc4
  rintro e w4 ⟨rfl, kr', hg, ha4⟩
  simp only at kr' ha4
  have kz := kz.gb hg (by simp; omega)
  have hb := hb.grown hg hb.size (by intro k hk; injection hk with hk; omega)
  clear hg kr
  have kr := kr'
  clear kr'
  go_wp2_with (go_at_call 35; refine stop_ (fun Ps hPs => ?_))
  refine hPs ?_
  clear hPs Ps
  have hc5 := rSm_any R A n c w.heap.size l a4 1048576 b4 w4 kr (h.below hb) hb.size hc HCM.out hn (by omega) ha4
  rw [H5.out] at hc5
  refine hc5.mono ?_
  clear hc5
  rintro e w5 ⟨rfl, kr', hg, ha5⟩
  simp only at kr' ha5
  have kz := kz.gb hg (by simp; omega)
  have hb := hb.grown hg hb.size (by intro k hk; injection hk with hk; omega)
  clear hg kr
  have kr := kr'
  clear kr'
  go_wp2_with (go_at_call 35; refine stop_ (fun Ps hPs => ?_))
  refine hPs ?_
  clear hPs Ps
  have hc6 := rSm_any R A n c w.heap.size l a5 1073741824 b5 w5 kr (h.below hb) hb.size hc HCM.out hn (by omega) ha5
  rw [H6.out] at hc6
  refine hc6.mono ?_
  clear hc6
  rintro e w6 ⟨rfl, kr', hg, ha6⟩
  simp only at kr' ha6
  have kz := kz.gb hg (by simp; omega)
  have hb := hb.grown hg hb.size (by intro k hk; injection hk with hk; omega)
  clear hg kr
  have kr := kr'
  clear kr'
  go_wp2_with (go_at_call 36; refine stop_ (fun Ps hPs => ?_))
  refine hPs ?_
  clear hPs Ps
  have hw6 := hb.size
  have kp := Blk.new w6 25 #[.int .i64 x1, .int .u8 x2, .int .i64 x3, .int .u8 x4, .int .i64 x5, .int .i64 x6]
  have nzp : w.heap.size ≠ w6.heap.size := Nat.ne_of_lt kz.lt
  have kz := kz.alloc (.cells #[.int .i64 x1, .int .u8 x2, .int .i64 x3, .int .u8 x4, .int .i64 x5, .int .i64 x6] 25)
  have kr : Rdr _ R A n c a6 b6 := Blk.alloc kr (.cells #[.int .i64 x1, .int .u8 x2, .int .i64 x3, .int .u8 x4, .int .i64 x5, .int .i64 x6] 25)
  have hb := hb.alloc hb.size (.cells #[.int .i64 x1, .int .u8 x2, .int .i64 x3, .int .u8 x4, .int .i64 x5, .int .i64 x6] 25)
  obtain ⟨g, hg⟩ : ∃ g, w6.heap.size = g := ⟨_, rfl⟩
  obtain ⟨W, hW⟩ : ∃ W, W = w6.alloc (.cells #[.int .i64 x1, .int .u8 x2, .int .i64 x3, .int .u8 x4, .int .i64 x5, .int .i64 x6] 25) := ⟨_, rfl⟩
  rw [← hW, hg] at kp
  rw [← hW] at kz kr hb ⊢
  rw [hg] at nzp hw6 ⊢
  clear hW hg
  refine (rDone R A n c a6 b6 W kr _ rfl).mono ?_
  rintro e w7 ⟨rfl, d, rfl⟩
  have hDE := HDEC.out (by rw [hl]; exact ha6)
  rw [hl] at hDE
  have kz := kz.drewN d
  have kp := kp.drewN d
  have hb := below_drewN hb d
  obtain ⟨V, hV⟩ : ∃ V, V = W.drewN d := ⟨_, rfl⟩
  rw [← hV] at kz kp hb ⊢
  clear hV kr
  obtain ⟨⟨pc0, pc1, pc2, pc3, pc4, pc5⟩, pf0, pf1, pf2, pf3, pf4, pf5⟩ := page_cells kp
  obtain ⟨⟨zc0, zc1, zc2, zc3, zc4, zc5⟩, zf0, zf1, zf2, zf3, zf4, zf5⟩ := page_cells kz
  by_cases hq : b6 = false ∧ a6 = n
  · have hdc : decide (b6 = false ∧ a6 = n) = true := decide_eq_true hq
    rw [hdc]
    clear hdc
    by_cases hok : Ok ⟨x1, x2, x3, x4, x5, x6⟩
    · have hk := check17_yes hok
      rw [if_pos ⟨hq.1, hq.2, hok⟩] at hDE
      have HE := hid hDE
      clear hq hok hDE
      go_wp2_with (go_at_call 17; refine stop_ (fun Ps hPs => ?_))
      refine hPs ?_
      clear hPs Ps
      refine (hk V).mono ?_
      rintro e w8 ⟨rfl, hb8⟩
      clear hk pc0 pc1 pc2 pc3 pc4 pc5 zc0 zc1 zc2 zc3 zc4 zc5 pf0 pf1 pf2 pf3 pf4 pf5 zf0 zf1 zf2 zf3 zf4 zf5
      have kz := kz.later hb8
      have kp := kp.later hb8
      have hb := bl_trans hb hb8 hb.size
      obtain ⟨⟨pc0, pc1, pc2, pc3, pc4, pc5⟩, pf0, pf1, pf2, pf3, pf4, pf5⟩ := page_cells kp
      obtain ⟨⟨zc0, zc1, zc2, zc3, zc4, zc5⟩, zf0, zf1, zf2, zf3, zf4, zf5⟩ := page_cells kz
      go_wp2_with fail
      refine bodyPost_ret (by simp [results, Try.results21, go_sem, zc0, zc1, zc2, zc3, zc4, zc5]; try rfl) rfl ?_
      show Decoded (decP l) w _ _
      rw [HE.out]
      exact ⟨rfl, below_page hb (Nat.le_refl _) _ _ _ _ _ _⟩
    · have hk := check17_no hok
      rw [if_neg (by rintro ⟨_, _, h⟩; exact hok h)] at hDE
      have HE := hid hDE
      clear hq hok hDE
      go_wp2_with (go_at_call 17; refine stop_ (fun Ps hPs => ?_))
      refine hPs ?_
      clear hPs Ps
      refine (hk V).mono ?_
      rintro e w8 ⟨rfl, hb8⟩
      clear hk pc0 pc1 pc2 pc3 pc4 pc5 zc0 zc1 zc2 zc3 zc4 zc5 pf0 pf1 pf2 pf3 pf4 pf5 zf0 zf1 zf2 zf3 zf4 zf5
      have kz := kz.later hb8
      have hb := bl_trans hb hb8 hb.size
      obtain ⟨⟨zc0, zc1, zc2, zc3, zc4, zc5⟩, zf0, zf1, zf2, zf3, zf4, zf5⟩ := page_cells kz
      go_wp2_with fail
      refine bodyPost_ret (by simp [results, Try.results21, go_sem, zc0, zc1, zc2, zc3, zc4, zc5]; try rfl) rfl ?_
      show Decoded (decP l) w _ _
      rw [HE.out]
      exact ⟨rfl, below_page hb (Nat.le_refl _) _ _ _ _ _ _⟩
  · have hdc : decide (b6 = false ∧ a6 = n) = false := decide_eq_false hq
    rw [hdc]
    clear hdc
    rw [if_neg (by rintro ⟨h1, h2, _⟩; exact hq ⟨h1, h2⟩)] at hDE
    have HE := hid hDE
    clear hq hDE pc0 pc1 pc2 pc3 pc4 pc5 pf0 pf1 pf2 pf3 pf4 pf5
    go_wp2_with fail
    refine bodyPost_ret (by simp [results, Try.results21, go_sem, zc0, zc1, zc2, zc3, zc4, zc5]; try rfl) rfl ?_
    show Decoded (decP l) w _ _
    rw [HE.out]
    exact ⟨rfl, below_page hb (Nat.le_refl _) _ _ _ _ _ _⟩
end Go.Proofs.Ytcfopaphpjmopaa
