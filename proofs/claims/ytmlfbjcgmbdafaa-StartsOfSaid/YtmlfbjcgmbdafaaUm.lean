/- The epoch starts of any commits, and of any log with one commit more: the walk. -/
import Derived.Test.YtmlfbjcgmbdafaaUl
import Derived.Test.YtmlfbjcgmbdafaaSm
import Derived.Deep.DeepCutAuto
namespace Go.Proofs.Ytmlfbjcgmbdafaa
open Go.RowKit Go.Lg
set_option linter.unusedVariables false
set_option linter.unusedSimpArgs false

theorem below_drew_alloc {v v1 : World} {o : Obj} (hq : Below ((v.alloc o).drew).heap.size (v.alloc o).drew v1) : Below v.heap.size v v1 :=
  bl_trans ((Below.refl v.heap.size v).alloc (Nat.le_refl _) o) (below_src hq) (by simp)
theorem al_below (v : World) (o : Obj) : Below v.heap.size v (v.alloc o) := (Below.refl v.heap.size v).alloc (Nat.le_refl _) o
theorem al_drew_below (v : World) (o : Obj) : Below v.heap.size v ((v.alloc o).drew) := (al_below v o).drew
theorem dr_below (v : World) : Below v.heap.size v v.drew := (Below.refl _ _).drew
theorem al_size (v : World) (o : Obj) : (v.alloc o).heap.size = v.heap.size + 1 := by simp
theorem aldr_size (v : World) (o : Obj) : (v.alloc o).drew.heap.size = v.heap.size + 1 := by simp
theorem set3 {v : World} {z : Nat} (k : Blk v z 40 Z40) (x0 x1 x2 : Value) :
    v.grownBy (((v.setCell ⟨z, 0, none⟩ x0).setCell ⟨z, 1, none⟩ x1).setCell ⟨z, 2, none⟩ x2) (some z) ∧ Blk (((v.setCell ⟨z, 0, none⟩ x0).setCell ⟨z, 1, none⟩ x1).setCell ⟨z, 2, none⟩ x2) z 40 #[x0, x1, x2] :=
  ⟨gb_setCell (p := ⟨z, 2, none⟩) x2 (gb_setCell (p := ⟨z, 1, none⟩) x1 (gb_setCell (p := ⟨z, 0, none⟩) x0 (World.grownBy.refl v (some z)))), by simpa using ((k.set_ 0 x0).set_ 1 x1).set_ 2 x2⟩
theorem held_set3 {V : World} {g z : Nat} {x0 x1 x2 : Value} (h : V.cell? ⟨g, 0, none⟩ = some x0 ∧ V.cell? ⟨g, 1, none⟩ = some x1 ∧ V.cell? ⟨g, 2, none⟩ = some x2) (hg : g ≠ z) (y0 y1 y2 : Value) :
    (((V.setCell ⟨z, 0, none⟩ y0).setCell ⟨z, 1, none⟩ y1).setCell ⟨z, 2, none⟩ y2).cell? ⟨g, 0, none⟩ = some x0 ∧ (((V.setCell ⟨z, 0, none⟩ y0).setCell ⟨z, 1, none⟩ y1).setCell ⟨z, 2, none⟩ y2).cell? ⟨g, 1, none⟩ = some x1 ∧ (((V.setCell ⟨z, 0, none⟩ y0).setCell ⟨z, 1, none⟩ y1).setCell ⟨z, 2, none⟩ y2).cell? ⟨g, 2, none⟩ = some x2 :=
  ⟨far3 h.1 hg _ _ _, far3 h.2.1 hg _ _ _, far3 h.2.2 hg _ _ _⟩
theorem lrs_later {w w' : World} {cs cs' : List Cm} (h : LRs w.heap.size w cs cs') (hb : Below w.heap.size w w') : LRs w'.heap.size w' cs cs' := by
  intro i m m' h1 h2
  obtain ⟨k1, k2, k3, k4, k5, k6⟩ := h i m m' h1 h2
  exact ⟨k1, k2, k3, k4, (k5.keep hb).more hb.size, k6⟩
theorem OS.later {w w' : World} {n : Nat} {A : Option Addr} {os : List Op3} (h : OS w w.heap.size A n os) (hb : Below w.heap.size w w') : OS w' w'.heap.size A n os := (h.keep hb).more hb.size
theorem commit_cells {v : World} {z : Nat} {x0 x1 x2 : Value} (k : Blk v z 40 #[x0, x1, x2]) : v.cell? ⟨z, 0, none⟩ = some x0 ∧ v.cell? ⟨z, 1, none⟩ = some x1 ∧ v.cell? ⟨z, 2, none⟩ = some x2 := ⟨k.cell 0, k.cell 1, k.cell 2⟩
theorem OS.later' {w w' : World} {n : Nat} {A : Option Addr} {os : List Op3} (h : OS w w.heap.size A n os) (hb : Below w.heap.size w w') : OS w' w'.heap.size A n os := (h.keep hb).more hb.size
theorem below_alloc_ {v v1 : World} {o : Obj} (hq : Below (v.alloc o).heap.size (v.alloc o) v1) : Below v.heap.size v v1 := bl_trans (al_below v o) hq (by simp)
theorem z_cells {v : World} {z : Nat} (k : Blk v z 40 Z40) : v.cell? ⟨z, 0, none⟩ = some (.int .i64 0) ∧ v.cell? ⟨z, 1, none⟩ = some (.int .i64 0) ∧ v.cell? ⟨z, 2, none⟩ = some (.slice none 0 0) := ⟨k.cell 0, k.cell 1, k.cell 2⟩
theorem kz0 {v w5 w6 w7 : World} {g : Nat} (hg : g < v.heap.size) (hq5 : Below ((v.alloc (.cells #[Value.int .i64 0, Value.int .i64 0, Value.slice none 0 0] 40)).drew).heap.size (v.alloc (.cells #[Value.int .i64 0, Value.int .i64 0, Value.slice none 0 0] 40)).drew w5) (hqB : Below w5.heap.size w5 w6) (hqC : Below w6.heap.size w6 w7) :
    Blk w7 v.heap.size 40 Z40 ∧ g ≠ v.heap.size :=
  ⟨(((Blk.new v 40 Z40).below (below_src hq5) (by simp)).later hqB).later hqC, Nat.ne_of_lt hg⟩
theorem kz1 {v w5 w6 w7 : World} {g : Nat} (hg : g < v.heap.size) (hqA : Below v.heap.size v w5) (hq6 : Below (w5.alloc (.cells #[Value.int .i64 0, Value.int .i64 0, Value.slice none 0 0] 40)).heap.size (w5.alloc (.cells #[Value.int .i64 0, Value.int .i64 0, Value.slice none 0 0] 40)) w6) (hqC : Below w6.heap.size w6 w7) :
    Blk w7 w5.heap.size 40 Z40 ∧ g ≠ w5.heap.size :=
  ⟨((Blk.new w5 40 Z40).later hq6).later hqC, Nat.ne_of_lt (Nat.lt_of_lt_of_le hg hqA.size)⟩
theorem kz2 {v w5 w6 w7 : World} {g : Nat} (hg : g < v.heap.size) (hqA : Below v.heap.size v w5) (hqB : Below w5.heap.size w5 w6) (hq7 : Below (w6.alloc (.cells #[Value.int .i64 0, Value.int .i64 0, Value.slice none 0 0] 40)).heap.size (w6.alloc (.cells #[Value.int .i64 0, Value.int .i64 0, Value.slice none 0 0] 40)) w7) :
    Blk w7 w6.heap.size 40 Z40 ∧ g ≠ w6.heap.size :=
  ⟨(Blk.new w6 40 Z40).later hq7, Nat.ne_of_lt (Nat.lt_of_lt_of_le hg (Nat.le_trans hqA.size hqB.size))⟩
theorem new_gb (v : World) (x0 x1 x2 : Value) : v.grownBy (v.alloc (.cells #[x0, x1, x2] 40)) (some v.heap.size) ∧ Blk (v.alloc (.cells #[x0, x1, x2] 40)) v.heap.size 40 #[x0, x1, x2] := ⟨World.grownBy_alloc v _ _, Blk.new v 40 _⟩
set_option maxHeartbeats 32000000 in
set_option maxRecDepth 100000 in
theorem of5 (A A' : Option Addr) (n c n' c' : Nat) (cs : List Cm) (a : List (Int × Int)) (ae : Int) (m : Cm) (w : World) (hc : CS w w.heap.size A n cs) (hm : ∀ m ∈ cs, m.n ≤ 3518437208780) (sa : SS w w.heap.size A' n' a) (hos : OS w w.heap.size m.A m.n m.os) (hmn : m.n ≤ 3518437208780)
    (hn9 : n ≤ 9223372036854775807) (hn9' : n' ≤ 9223372036854775807) :
    Calls Try.prog 5 #[.slice A n c, .slice A' n' c', .int .i64 ae, m.v] w (Yes w) := by
  obtain ⟨me, mn, Ao, no, co, os⟩ := m
  simp only at hos hmn
  have kb := Blk.new w 40 #[.int .i64 me, .int .i64 mn, .slice Ao no co]
  have hb := (Below.refl w.heap.size w).alloc (Nat.le_refl _) (.cells #[.int .i64 me, .int .i64 mn, .slice Ao no co] 40)
  obtain ⟨W, hW⟩ : ∃ W, W = w.alloc (.cells #[.int .i64 me, .int .i64 mn, .slice Ao no co] 40) := ⟨_, rfl⟩
  rw [← hW] at kb hb
  have hc := (hc.keep hb).more hb.size
  have sa := (sa.keep hb).more hb.size
  have hos := (hos.keep hb).more hb.size
  have HL := hid hc.2.1
  have HL' := hid sa.2
  have HM := hid hm
  have HOL := hid hos.2
  have HKN : Hid (∀ m ∈ cs, m.os.length = m.n ∧ m.n ≤ 9223372036854775807) := hid fun m hm => ⟨(hc.2.2 m hm).1.2, (hc.2.2 m hm).2⟩
  have hlv := lives13 W
  clear hm
  go_enter Try.func5, Try.ntmps5
  go_wp2_with (go_at_call 13; refine stop_ (fun Ps hPs => ?_))
  refine hPs ?_
  clear hPs Ps
  rw [← hW]
  clear hW
  refine hlv.mono ?_
  clear hlv
  rintro e w1 ⟨rfl, hbn⟩
  have kb := kb.later hbn
  have hc := (hc.keep hbn).more hbn.size
  have sa := (sa.keep hbn).more hbn.size
  have hos := (hos.keep hbn).more hbn.size
  have hb := bl_trans hb hbn hb.size
  clear hbn
  have b2 : w1.cell? ⟨w.heap.size, 2, none⟩ = some (.slice Ao no co) := kb.cell 2
  by_cases g0 : 40 < n
  · have q0 : (40 : Int) < (n : Int) := by omega
    go_wp2_with fail
    go_ret
    exact ⟨rfl, hb⟩
  have q0 : ¬(40 : Int) < (n : Int) := by omega
  by_cases g1 : 40 < n'
  · have q1 : (40 : Int) < (n' : Int) := by omega
    go_wp2_with fail
    go_ret
    exact ⟨rfl, hb⟩
  have q1 : ¬(40 : Int) < (n' : Int) := by omega
  by_cases g2 : 40 < no
  · have q2 : (40 : Int) < (no : Int) := by omega
    go_wp2_with fail
    go_ret
    exact ⟨rfl, hb⟩
  have q2 : ¬(40 : Int) < (no : Int) := by omega
  have hn : n ≤ 40 := by omega
  have hn' : n' ≤ 40 := by omega
  have hno : no ≤ 40 := by omega
  have hno9 : no ≤ 3518437208780 := hmn
  clear g0 g1 g2 hn9 hn9' hmn
  go_upto_region 5 with fail
  clear b2
  have b0 : w1.cell? ⟨w.heap.size, 0, none⟩ = some (.int .i64 me) := kb.cell 0
  have b1 : w1.cell? ⟨w.heap.size, 1, none⟩ = some (.int .i64 mn) := kb.cell 1
  have b2 : w1.cell? ⟨w.heap.size, 2, none⟩ = some (.slice Ao no co) := kb.cell 2
  have hlt : w.heap.size < w1.heap.size := kb.lt
  have HK := hid kb
  have HB := hid hb
  have HC := hid hc
  have HS := hid sa
  have HO := hid hos
  clear kb hb hc sa hos
  go_cut [9, 10, 11] (fun s9 s10 s11 wx => Lent3 n n' cs a ⟨me, mn, Ao, no, co, os⟩ w1 s9 s10 s11 wx)
  case first =>
    clear q0 q1 q2
    have K0 := hid (show w1.cell? ⟨w.heap.size, 0, none⟩ = some (Value.int .i64 me) ∧ w1.cell? ⟨w.heap.size, 1, none⟩ = some (Value.int .i64 mn) ∧ w1.cell? ⟨w.heap.size, 2, none⟩ = some (Value.slice Ao no co) from ⟨b0, b1, b2⟩)
    have K1 := hid (show w1.drew.cell? ⟨w.heap.size, 0, none⟩ = some (Value.int .i64 me) ∧ w1.drew.cell? ⟨w.heap.size, 1, none⟩ = some (Value.int .i64 mn) ∧ w1.drew.cell? ⟨w.heap.size, 2, none⟩ = some (Value.slice Ao no co) from ⟨b0, b1, b2⟩)
    have K2 := hid (held_alloc K0.out (.cells #[Value.int .i64 0, Value.int .i64 0, Value.slice none 0 0] 40))
    have K3 := hid (show (w1.alloc (.cells #[Value.int .i64 0, Value.int .i64 0, Value.slice none 0 0] 40)).drew.cell? ⟨w.heap.size, 0, none⟩ = some (Value.int .i64 me) ∧ (w1.alloc (.cells #[Value.int .i64 0, Value.int .i64 0, Value.slice none 0 0] 40)).drew.cell? ⟨w.heap.size, 1, none⟩ = some (Value.int .i64 mn) ∧ (w1.alloc (.cells #[Value.int .i64 0, Value.int .i64 0, Value.slice none 0 0] 40)).drew.cell? ⟨w.heap.size, 2, none⟩ = some (Value.slice Ao no co) from K2.out)
    have H22a := hid (lentcommits22 A n c cs w1.drew ((HC.out.keep (dr_below w1)).more (dr_below w1).size) HM.out (by omega))
    have H22b := hid (lentcommits22 A n c cs (w1.alloc (.cells #[Value.int .i64 0, Value.int .i64 0, Value.slice none 0 0] 40)).drew ((HC.out.keep (al_drew_below w1 _)).more (al_drew_below w1 _).size) HM.out (by omega))
    go_region_held3 (fun w' => w'.cell? ⟨w.heap.size, 0, none⟩ = some (Value.int .i64 me) ∧ w'.cell? ⟨w.heap.size, 1, none⟩ = some (Value.int .i64 mn) ∧ w'.cell? ⟨w.heap.size, 2, none⟩ = some (Value.slice Ao no co))
      (first | (with_reducible exact K1.out) | (with_reducible exact K2.out) | (with_reducible exact K3.out) | (with_reducible exact q1.out) | (with_reducible exact q2.out) | (with_reducible exact q3.out) | (with_reducible exact held_alloc q1.out _) | (with_reducible exact held_alloc q2.out _) | (with_reducible exact held_alloc q3.out _) | (with_reducible exact held_set3 q3.out nz.out _ _ _))
      (first
        | (go_at_call 22; (with_reducible refine H22b.out.mono ?_); rintro e5 w5 ⟨v5, cs5, rfl, hl5, ho5, hk5, hq5⟩; have hqA := below_drew_alloc hq5; have q1 := hid (held_below hqA K0.out); have H15a := hid (lent15 A' n' c' a w5 (HS.out.later hqA) (by omega)); have H15b := hid (lent15 A' n' c' a (w5.alloc (.cells #[Value.int .i64 0, Value.int .i64 0, Value.slice none 0 0] 40)) ((HS.out.later hqA).later (al_below w5 _)) (by omega)); have HO5 := hid (OS.later' HO.out hqA))
        | (go_at_call 22; (with_reducible refine H22a.out.mono ?_); rintro e5 w5 ⟨v5, cs5, rfl, hl5, ho5, hk5, hq5⟩; have hqA : Below w1.heap.size w1 w5 := below_src hq5; have q1 := hid (held_below hqA K0.out); have H15a := hid (lent15 A' n' c' a w5 (HS.out.later hqA) (by omega)); have H15b := hid (lent15 A' n' c' a (w5.alloc (.cells #[Value.int .i64 0, Value.int .i64 0, Value.slice none 0 0] 40)) ((HS.out.later hqA).later (al_below w5 _)) (by omega)); have HO5 := hid (OS.later' HO.out hqA))
        | (go_at_call 15; (with_reducible refine H15a.out.mono ?_); rintro e6 w6 ⟨v6, rfl, ho6, hq6⟩; have hqB := hq6; have q2 := hid (held_below hqB q1.out); have H23a := hid (lentcommit23 ⟨me, mn, Ao, no, co, os⟩ w6 (OS.later' HO5.out hqB) hno9); have H23b := hid (lentcommit23 ⟨me, mn, Ao, no, co, os⟩ (w6.alloc (.cells #[Value.int .i64 0, Value.int .i64 0, Value.slice none 0 0] 40)) (OS.later' (OS.later' HO5.out hqB) (al_below w6 _)) hno9))
        | (go_at_call 15; (with_reducible refine H15b.out.mono ?_); rintro e6 w6 ⟨v6, rfl, ho6, hq6⟩; have hqB := below_alloc_ hq6; have q2 := hid (held_below hqB q1.out); have H23a := hid (lentcommit23 ⟨me, mn, Ao, no, co, os⟩ w6 (OS.later' HO5.out hqB) hno9); have H23b := hid (lentcommit23 ⟨me, mn, Ao, no, co, os⟩ (w6.alloc (.cells #[Value.int .i64 0, Value.int .i64 0, Value.slice none 0 0] 40)) (OS.later' (OS.later' HO5.out hqB) (al_below w6 _)) hno9))
        | (go_at_call 23; (with_reducible refine H23a.out.mono ?_); rintro e7 w7 ⟨A7, c7, rfl, ho7, hq7⟩; have hqC := hq7; have q3 := hid (held_below hqC q2.out); (first | (with_reducible have kz := kz0 hlt hq5 hqB hqC) | (with_reducible have kz := kz1 hlt hqA hq6 hqC) | (have kz := True.intro)); (try (obtain ⟨r0, r1, r2⟩ := z_cells kz.1; have y0 := kz.1.frozen 0; have y1 := kz.1.frozen 1; have y2 := kz.1.frozen 2; have nz := hid kz.2; have KZ := hid kz.1)); clear kz)
        | (go_at_call 23; (with_reducible refine H23b.out.mono ?_); rintro e7 w7 ⟨A7, c7, rfl, ho7, hq7⟩; have hqC := below_alloc_ hq7; have q3 := hid (held_below hqC q2.out); have kz := kz2 hlt hqA hqB hq7; obtain ⟨r0, r1, r2⟩ := z_cells kz.1; have y0 := kz.1.frozen 0; have y1 := kz.1.frozen 1; have y2 := kz.1.frozen 2; have nz := hid kz.2; have KZ := hid kz.1; clear kz))
    all_goals have hl6 := hl5.trans HL.out
    all_goals rw [HL.out] at ho5
    all_goals rw [lentS_length, HL'.out] at ho6
    all_goals have s5 := hqA.size
    all_goals have s6 := hqB.size
    all_goals have s7 := hqC.size
    · go_wp2_with fail
      go_meet
      have hn9 := new_gb w7 (.int .i64 me) (.int .i64 mn) (.slice A7 no c7)
      exact lent3_mk (dr_below w1) hq5 (Below.refl _ _) hq6 (Below.refl _ _) hq7 hl6 ho5 hk5 ho6 ho7 hn9.1 (Nat.le_trans s5 (Nat.le_trans s6 s7)) (.inr (Nat.le_trans s6 s7)) (.inr s7) (.inr (Nat.le_refl _)) hn9.2
    · go_wp2_with fail
      go_meet
      have hn9 := set3 KZ.out (.int .i64 me) (.int .i64 mn) (.slice A7 no c7)
      exact lent3_mk (dr_below w1) hq5 (Below.refl _ _) hq6 (al_below w6 _) hq7 hl6 ho5 hk5 ho6 ho7 hn9.1 (Nat.le_trans s5 s6) (.inr s6) (.inr (Nat.le_refl _)) (.inl (by simp)) hn9.2
    · go_wp2_with fail
      go_meet
      have hn9 := set3 KZ.out (.int .i64 me) (.int .i64 mn) (.slice A7 no c7)
      have s9 := hq6.size
      simp at s9
      exact lent3_mk (dr_below w1) hq5 (al_below w5 _) hq6 (Below.refl _ _) hq7 hl6 ho5 hk5 ho6 ho7 hn9.1 s5 (.inr (Nat.le_refl _)) (.inl (by simp)) (.inl (by omega)) hn9.2
    · go_wp2_with fail
      go_meet
      have hn9 := set3 KZ.out (.int .i64 me) (.int .i64 mn) (.slice A7 no c7)
      have s9 := hq5.size
      simp at s9
      exact lent3_mk (al_drew_below w1 _) hq5 (Below.refl _ _) hq6 (Below.refl _ _) hq7 hl6 ho5 hk5 ho6 ho7 hn9.1 (Nat.le_refl _) (.inl (by simp)) (.inl (by omega)) (.inl (by omega)) hn9.2
  case rest =>
    clear b0 b1 b2
    obtain ⟨cs5, Aw, cw, z, rfl, hl5, hof, hk, hox, hoz, kz, hbn⟩ := hcut
    simp only at hoz kz
    have kb := HK.out.later hbn
    have hc := HC.out.later hbn
    have sa := HS.out.later hbn
    have hos := HO.out.later hbn
    have hbs0 := HB.out.size
    have hb := bl_trans HB.out hbn hbs0
    have hox := owned_less hox hbs0
    clear hbn
    obtain ⟨Af, cf, rfl, gf1, gf2⟩ := owned_slice hof
    obtain ⟨Ax, cx, rfl, gx1, gx2⟩ := owned_slice hox
    have hF := lents_cs hk hl5 HL.out hof HKN.out
    have hf := cs_front hF hl5
    have hky := lcs_ky hk (hl5.trans HL.out.symm)
    have hlr := lcs_lrs hk (fun m hm => (HKN.out m hm).1)
    have osz : OS wc wc.heap.size Aw (no + 3) (lentO os) := ⟨Rd.of_own hoz, by rw [lentO_length, HOL.out]⟩
    have osf := os_front osz HOL.out
    have hcw := (owned_cap hoz).1
    have fx : SS wc wc.heap.size Ax (n' + 3) (lentS a) := ⟨Rd.of_own hox, by rw [lentS_length, HL'.out]⟩
    have sx := fx.front HL'.out
    have i1 : (n : Int) ≤ (cf : Int) := by omega
    have i2 : (n' : Int) ≤ (cx : Int) := by omega
    have HKY := hid hky
    have HL5 := hid hl5
    clear hof hk hoz hky hl5 gf2 gx2
    obtain ⟨L, nL, k, j, hL, hnL, h24, h25⟩ := of_any cs n HL.out (by omega)
    have HNL := hid hL.symm
    have H24 := hid h24
    have H25 := hid h25
    clear hL h24 h25
    have hgk : ∀ m' : Cm, ky m' = (me, mn, os) → grown a ae m' = grown a ae ⟨me, mn, Ao, no, co, os⟩ := fun m' h => grown_ky h
    have hgl := grown_le a ae ⟨me, mn, Ao, no, co, os⟩
    rw [HL'.out] at hgl
    obtain ⟨⟨gl, kg⟩, hgr⟩ : ∃ r, grown a ae ⟨me, mn, Ao, no, co, os⟩ = r := ⟨_, rfl⟩
    rw [hgr] at hgk hgl
    obtain ⟨ng, hng⟩ : ∃ x, x = gl.length := ⟨_, rfl⟩
    have hgl : ng ≤ n' + 1 := by rw [hng]; exact hgl
    have HG26 := hid (fun (A : Option Addr) (c : Nat) (m' : Cm) (W : World) (hm : ky m' = (me, mn, os)) (h1 : SS W W.heap.size A n' a) (h2 : OS W W.heap.size m'.A m'.n m'.os) (h3 : m'.n ≤ 9223372036854775807) => (grown26 A n' c a ae m' W h1 h2 h3 (by omega)).mono fun e w' h => trim_as (hgk m' hm) hng h)
    have HG27 := hid (fun (A : Option Addr) (c : Nat) (m' : Cm) (W : World) (hm : ky m' = (me, mn, os)) (h1 : SS W W.heap.size A n' a) (h2 : OS W W.heap.size m'.A m'.n m'.os) (h3 : m'.n ≤ 9223372036854775807) => (refgrown27 A n' c a ae m' W h1 h2 h3 (by omega)).mono fun e w' h => trim_as (hgk m' hm) hng h)
    have HNG := hid hng.symm
    clear hgk hgr hng
    go_wp2_with (go_at_call 24; refine stop_ (fun Ps hPs => ?_))
    refine hPs ?_
    clear hPs Ps
    refine (H24.out Af cf cs5 wc HKY.out hf).mono ?_
    rintro e w11 ⟨vs, rfl, hosd, hbn⟩
    have kb := kb.later hbn
    have hc := hc.later hbn
    have sa := sa.later hbn
    have hos := hos.later hbn
    have hF := hF.later hbn
    have hf := hf.later hbn
    have osz := osz.later hbn
    have osf := osf.later hbn
    have fx := fx.later hbn
    have sx := sx.later hbn
    have kz := kz.later hbn
    have hlr := lrs_later hlr hbn
    have hox := owned_later hox hbn
    have hsn := hbn.size
    have hsp := hb.size
    have hb := bl_trans hb hbn hb.size
    clear hbn
    have hosd := owned_less hosd hsp
    obtain ⟨As, cs_, rfl, gs1, gs2⟩ := owned_slice hosd
    have ss : SS w11 w11.heap.size As nL L := ⟨Rd.of_own hosd, HNL.out⟩
    clear gs1 gs2
    go_wp2_with (go_at_call 25; refine stop_ (fun Ps hPs => ?_))
    refine hPs ?_
    clear hPs Ps
    have kf1 := Blk.new w11 44 #[.int .i64 k, .int .i64 (j : Int)]
    obtain ⟨w12, hnw⟩ : ∃ x, x = w11.alloc (.cells #[.int .i64 k, .int .i64 (j : Int)] 44) := ⟨_, rfl⟩
    have hbn : Below w11.heap.size w11 w12 := by rw [hnw]; exact (Below.refl _ _).alloc (Nat.le_refl _) _
    obtain ⟨bf1, hbf1⟩ : ∃ x, x = w11.heap.size := ⟨_, rfl⟩
    rw [← hnw, ← hbf1] at kf1
    rw [← hnw, ← hbf1]
    clear hnw hbf1
    have kb := kb.later hbn
    have hc := hc.later hbn
    have sa := sa.later hbn
    have hos := hos.later hbn
    have hF := hF.later hbn
    have hf := hf.later hbn
    have osz := osz.later hbn
    have osf := osf.later hbn
    have fx := fx.later hbn
    have sx := sx.later hbn
    have kz := kz.later hbn
    have ss := ss.later hbn
    have hlr := lrs_later hlr hbn
    have hox := owned_later hox hbn
    have hosd := owned_later hosd hbn
    have hsn := hbn.size
    have hsp := hb.size
    have hb := bl_trans hb hbn hb.size
    clear hbn
    refine (H25.out A c w12 hc).mono ?_
    rintro e w13 ⟨vt, rfl, hot, hbn⟩
    have kb := kb.later hbn
    have hc := hc.later hbn
    have sa := sa.later hbn
    have hos := hos.later hbn
    have hF := hF.later hbn
    have hf := hf.later hbn
    have osz := osz.later hbn
    have osf := osf.later hbn
    have fx := fx.later hbn
    have sx := sx.later hbn
    have kz := kz.later hbn
    have ss := ss.later hbn
    have kf1 := kf1.later hbn
    have hlr := lrs_later hlr hbn
    have hox := owned_later hox hbn
    have hosd := owned_later hosd hbn
    have hsn := hbn.size
    have hsp := hb.size
    have hb := bl_trans hb hbn hb.size
    clear hbn
    obtain ⟨At, ct, rfl, gt1, gt2⟩ := owned_slice hot
    have st : SS w13 w13.heap.size At nL L := ⟨Rd.of_own hot, HNL.out⟩
    clear gt1 gt2 hot
    go_wp2_with fail
    have kf2 := Blk.new w13 44 #[.int .i64 k, .int .i64 (j : Int)]
    obtain ⟨w14, hnw⟩ : ∃ x, x = w13.alloc (.cells #[.int .i64 k, .int .i64 (j : Int)] 44) := ⟨_, rfl⟩
    have hbn : Below w13.heap.size w13 w14 := by rw [hnw]; exact (Below.refl _ _).alloc (Nat.le_refl _) _
    obtain ⟨bf2, hbf2⟩ : ∃ x, x = w13.heap.size := ⟨_, rfl⟩
    rw [← hnw, ← hbf2] at kf2
    rw [← hnw, ← hbf2]
    clear hnw hbf2
    have kb := kb.later hbn
    have hc := hc.later hbn
    have sa := sa.later hbn
    have hos := hos.later hbn
    have hF := hF.later hbn
    have hf := hf.later hbn
    have osz := osz.later hbn
    have osf := osf.later hbn
    have fx := fx.later hbn
    have sx := sx.later hbn
    have kz := kz.later hbn
    have ss := ss.later hbn
    have kf1 := kf1.later hbn
    have st := st.later hbn
    have hlr := lrs_later hlr hbn
    have hox := owned_later hox hbn
    have hosd := owned_later hosd hbn
    have hsn := hbn.size
    have hsp := hb.size
    have hb := bl_trans hb hbn hb.size
    clear hbn
    obtain ⟨N1, hN1⟩ : ∃ N, N = w14.heap.size := ⟨_, rfl⟩
    have hxlt : ∀ g, (Value.slice Ax (n' + 3) cx).ownBlock = some g → g < N1 := fun g hg => by rw [hN1]; exact (hox.lt g hg).2
    have hslt : ∀ g, (Value.slice As nL cs_).ownBlock = some g → g < N1 := fun g hg => by rw [hN1]; exact (hosd.lt g hg).2
    have N1le : N1 ≤ w14.heap.size := Nat.le_of_eq hN1
    have HN1 := hid hN1
    clear hN1
    have HXL := hid hxlt
    have HSL := hid hslt
    clear hxlt hslt
    obtain ⟨z0, z1, z2⟩ := commit_cells kz
    have K1 := hid (show w14.drew.cell? ⟨z, 0, none⟩ = some (Value.int .i64 me) ∧ w14.drew.cell? ⟨z, 1, none⟩ = some (Value.int .i64 mn) ∧ w14.drew.cell? ⟨z, 2, none⟩ = some (Value.slice Aw no cw) from ⟨z0, z1, z2⟩)
    have K0 := hid (show w14.cell? ⟨z, 0, none⟩ = some (Value.int .i64 me) ∧ w14.cell? ⟨z, 1, none⟩ = some (Value.int .i64 mn) ∧ w14.cell? ⟨z, 2, none⟩ = some (Value.slice Aw no cw) from ⟨z0, z1, z2⟩)
    have H9 := hid (HG26.out Ax cx ⟨me, mn, Aw, no, cw, os⟩ w14.drew rfl ((sx.keep (dr_below w14)).more (dr_below w14).size) ((osf.keep (dr_below w14)).more (dr_below w14).size) (Nat.le_trans (show no ≤ 40 from hno) (by decide)))
    go_region_held3 (fun w' => w'.cell? ⟨z, 0, none⟩ = some (Value.int .i64 me) ∧ w'.cell? ⟨z, 1, none⟩ = some (Value.int .i64 mn) ∧ w'.cell? ⟨z, 2, none⟩ = some (Value.slice Aw no cw)) (first | (with_reducible exact K1.out) | (with_reducible exact q3.out))
      (first
        | (go_at_call 26; (with_reducible refine H9.out.mono ?_); rintro e7 w70 ⟨vu, rfl, hou, hq7⟩; have hqA : Below w14.heap.size w14 w70 := below_src hq7; have q3 := hid (held_below hqA K0.out)))
    have hbn := hqA
    clear hqA hq7 K1 K0 q3 z0 z1 z2 H9
    rename_i hheld
    clear hheld
    have hauge : ∀ g, vu.ownBlock = some g → N1 ≤ g := fun g hg => Nat.le_trans N1le (hou.lt g hg).1
    have kb := kb.later hbn
    have hc := hc.later hbn
    have sa := sa.later hbn
    have hos := hos.later hbn
    have hF := hF.later hbn
    have hf := hf.later hbn
    have osz := osz.later hbn
    have osf := osf.later hbn
    have fx := fx.later hbn
    have sx := sx.later hbn
    have kz := kz.later hbn
    have ss := ss.later hbn
    have kf1 := kf1.later hbn
    have st := st.later hbn
    have kf2 := kf2.later hbn
    have hlr := lrs_later hlr hbn
    have hox := owned_later hox hbn
    have hosd := owned_later hosd hbn
    have hsn := hbn.size
    have hsp := hb.size
    have hb := bl_trans hb hbn hb.size
    clear hbn
    have N1p := N1le
    have N1le := Nat.le_trans N1le hsn
    have hou := owned_less hou hsp
    have hax : ∀ g, vu.ownBlock = some g → (Value.slice Ax (n' + 3) cx).ownBlock ≠ some g := fun g hg hg2 => by have := hauge g hg; have := HXL.out g hg2; omega
    have hau : ∀ g, vu.ownBlock = some g → (Value.slice As nL cs_).ownBlock ≠ some g := fun g hg hg2 => by have := hauge g hg; have := HSL.out g hg2; omega
    obtain ⟨Au, cu, rfl, gu1, gu2⟩ := owned_slice hou
    have su : SS w70 w70.heap.size Au ng gl := ⟨Rd.of_own hou, HNG.out⟩
    have HAX := hid hax
    have HAU := hid hau
    clear hax hau hauge gu1 gu2
    obtain ⟨b0, b1, b2⟩ := commit_cells kb
    go_wp2_with (go_at_call 27; refine stop_ (fun Ps hPs => ?_))
    refine hPs ?_
    clear hPs Ps
    clear b0 b1 b2
    refine (HG27.out A' c' ⟨me, mn, Ao, no, co, os⟩ w70 rfl sa hos (Nat.le_trans (show no ≤ 40 from hno) (by decide))).mono ?_
    rintro e w15 ⟨vv, rfl, hov, hbn⟩
    have kb := kb.later hbn
    have hc := hc.later hbn
    have sa := sa.later hbn
    have hos := hos.later hbn
    have hF := hF.later hbn
    have hf := hf.later hbn
    have osz := osz.later hbn
    have osf := osf.later hbn
    have fx := fx.later hbn
    have sx := sx.later hbn
    have kz := kz.later hbn
    have ss := ss.later hbn
    have kf1 := kf1.later hbn
    have st := st.later hbn
    have kf2 := kf2.later hbn
    have su := su.later hbn
    have hlr := lrs_later hlr hbn
    have hox := owned_later hox hbn
    have hosd := owned_later hosd hbn
    have hou := owned_later hou hbn
    have hsn := hbn.size
    have hsp := hb.size
    have hb := bl_trans hb hbn hb.size
    clear hbn
    have N1p := N1le
    have N1le := Nat.le_trans N1le hsn
    obtain ⟨Av, cv, rfl, gv1, gv2⟩ := owned_slice hov
    have sv : SS w15 w15.heap.size Av ng gl := ⟨Rd.of_own hov, HNG.out⟩
    clear gv1 gv2 hov
    have xf10 : w15.cell? ⟨bf1, 0, none⟩ = some (.int .i64 k) := kf1.cell 0
    have xf11 : w15.cell? ⟨bf1, 1, none⟩ = some (.int .i64 (j : Int)) := kf1.cell 1
    have xf20 : w15.cell? ⟨bf2, 0, none⟩ = some (.int .i64 k) := kf2.cell 0
    have xf21 : w15.cell? ⟨bf2, 1, none⟩ = some (.int .i64 (j : Int)) := kf2.cell 1
    go_wp2_with (go_at_call 14; refine stop_ (fun Ps hPs => ?_))
    refine hPs ?_
    clear hPs Ps
    refine (same14_self As At nL cs_ nL ct _ _ L w15 ss st (by omega) (by omega)).mono ?_
    rintro e w16 ⟨rfl, d, hz9⟩
    have hbn : Below w15.heap.size w15 w16 := by rw [hz9]; exact below_drewN (Below.refl _ _) d
    clear hz9
    have kb := kb.later hbn
    have hc := hc.later hbn
    have sa := sa.later hbn
    have hos := hos.later hbn
    have hF := hF.later hbn
    have hf := hf.later hbn
    have osz := osz.later hbn
    have osf := osf.later hbn
    have fx := fx.later hbn
    have sx := sx.later hbn
    have kz := kz.later hbn
    have ss := ss.later hbn
    have kf1 := kf1.later hbn
    have st := st.later hbn
    have kf2 := kf2.later hbn
    have su := su.later hbn
    have sv := sv.later hbn
    have hlr := lrs_later hlr hbn
    have hox := owned_later hox hbn
    have hosd := owned_later hosd hbn
    have hou := owned_later hou hbn
    have hsn := hbn.size
    have hsp := hb.size
    have hb := bl_trans hb hbn hb.size
    clear hbn
    have N1p := N1le
    have N1le := Nat.le_trans N1le hsn
    clear xf10 xf11 xf20 xf21
    go_wp2_with (go_at_call 14; refine stop_ (fun Ps hPs => ?_))
    refine hPs ?_
    clear hPs Ps
    refine (same14_self Au Av ng cu ng cv _ _ gl w16 su sv (by omega) (by omega)).mono ?_
    rintro e w17 ⟨rfl, d, hz9⟩
    have hbn : Below w16.heap.size w16 w17 := by rw [hz9]; exact below_drewN (Below.refl _ _) d
    clear hz9
    have kb := kb.later hbn
    have hc := hc.later hbn
    have sa := sa.later hbn
    have hos := hos.later hbn
    have hF := hF.later hbn
    have hf := hf.later hbn
    have osz := osz.later hbn
    have osf := osf.later hbn
    have fx := fx.later hbn
    have sx := sx.later hbn
    have kz := kz.later hbn
    have ss := ss.later hbn
    have kf1 := kf1.later hbn
    have st := st.later hbn
    have kf2 := kf2.later hbn
    have su := su.later hbn
    have sv := sv.later hbn
    have hlr := lrs_later hlr hbn
    have hox := owned_later hox hbn
    have hosd := owned_later hosd hbn
    have hou := owned_later hou hbn
    have hsn := hbn.size
    have hsp := hb.size
    have hb := bl_trans hb hbn hb.size
    clear hbn
    have N1p := N1le
    have N1le := Nat.le_trans N1le hsn
    go_wp2_with (go_at_call 28; refine stop_ (fun Ps hPs => ?_))
    refine hPs ?_
    clear hPs Ps
    refine (kept28 Af A n cf c cs cs5 w17 hF HL5.out hc hlr HM.out (by omega)).mono ?_
    rintro e w18 ⟨rfl, hbn⟩
    have kb := kb.later hbn
    have hc := hc.later hbn
    have sa := sa.later hbn
    have hos := hos.later hbn
    have hF := hF.later hbn
    have hf := hf.later hbn
    have osz := osz.later hbn
    have osf := osf.later hbn
    have fx := fx.later hbn
    have sx := sx.later hbn
    have kz := kz.later hbn
    have ss := ss.later hbn
    have kf1 := kf1.later hbn
    have st := st.later hbn
    have kf2 := kf2.later hbn
    have su := su.later hbn
    have sv := sv.later hbn
    have hlr := lrs_later hlr hbn
    have hox := owned_later hox hbn
    have hosd := owned_later hosd hbn
    have hou := owned_later hou hbn
    have hsn := hbn.size
    have hsp := hb.size
    have hb := bl_trans hb hbn hb.size
    clear hbn
    have N1p := N1le
    have N1le := Nat.le_trans N1le hsn
    go_wp2_with (go_at_call 20; refine stop_ (fun Ps hPs => ?_))
    refine hPs ?_
    clear hPs Ps
    refine (kept20 Ax A' (n' + 3) cx n' c' a w18 fx sa (by omega) (by omega)).mono ?_
    rintro e w19 ⟨rfl, hbn⟩
    have kb := kb.later hbn
    have hc := hc.later hbn
    have sa := sa.later hbn
    have hos := hos.later hbn
    have hF := hF.later hbn
    have hf := hf.later hbn
    have osz := osz.later hbn
    have osf := osf.later hbn
    have fx := fx.later hbn
    have sx := sx.later hbn
    have kz := kz.later hbn
    have ss := ss.later hbn
    have kf1 := kf1.later hbn
    have st := st.later hbn
    have kf2 := kf2.later hbn
    have su := su.later hbn
    have sv := sv.later hbn
    have hlr := lrs_later hlr hbn
    have hox := owned_later hox hbn
    have hosd := owned_later hosd hbn
    have hou := owned_later hou hbn
    have hsn := hbn.size
    have hsp := hb.size
    have hb := bl_trans hb hbn hb.size
    clear hbn
    have N1p := N1le
    have N1le := Nat.le_trans N1le hsn
    obtain ⟨b0, b1, b2⟩ := commit_cells kb
    obtain ⟨z0, z1, z2⟩ := commit_cells kz
    go_wp2_with (go_at_call 29; refine stop_ (fun Ps hPs => ?_))
    refine hPs ?_
    clear hPs Ps
    clear b0 b1 b2 z0 z1 z2
    refine (keptcommit29 me mn Aw Ao no cw co os w19 osz hos hcw hno9).mono ?_
    rintro e w20 ⟨rfl, hbn⟩
    have kb := kb.later hbn
    have hc := hc.later hbn
    have sa := sa.later hbn
    have hos := hos.later hbn
    have hF := hF.later hbn
    have hf := hf.later hbn
    have osz := osz.later hbn
    have osf := osf.later hbn
    have fx := fx.later hbn
    have sx := sx.later hbn
    have kz := kz.later hbn
    have ss := ss.later hbn
    have kf1 := kf1.later hbn
    have st := st.later hbn
    have kf2 := kf2.later hbn
    have su := su.later hbn
    have sv := sv.later hbn
    have hlr := lrs_later hlr hbn
    have hox := owned_later hox hbn
    have hosd := owned_later hosd hbn
    have hou := owned_later hou hbn
    have hsn := hbn.size
    have hsp := hb.size
    have hb := bl_trans hb hbn hb.size
    clear hbn
    have N1p := N1le
    have N1le := Nat.le_trans N1le hsn
    go_wp2_with (go_at_call 21; refine stop_ (fun Ps hPs => ?_))
    refine hPs ?_
    clear hPs Ps
    have hap := apart21 w.heap.size (.slice Au ng cu) (.slice Ax (n' + 3) cx) (.slice As nL cs_) gl (lentS a) L w20 (by rw [HNG.out]; exact hou) (by rw [lentS_length, HL'.out]; exact hox) (by rw [HNL.out]; exact hosd) HAX.out HAU.out hb.size (by rw [HNG.out]; omega) (by rw [lentS_length, HL'.out]; omega) (by rw [HNL.out]; omega)
    refine hap.mono ?_
    rintro e wz ⟨rfl, hbn⟩
    have hb := hb.trans hbn
    go_wp2_with fail
    go_ret
    exact ⟨rfl, hb⟩
end Go.Proofs.Ytmlfbjcgmbdafaa
