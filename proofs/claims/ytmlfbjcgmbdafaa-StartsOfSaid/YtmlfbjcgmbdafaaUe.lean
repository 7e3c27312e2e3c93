/- Starts with a commit behind, the document's way. -/
import Derived.Test.YtmlfbjcgmbdafaaUd
import Derived.Test.YtmlfbjcgmbdafaaSu
import Derived.Test.YtmlfbjcgmbdafaaSj
namespace Go.Proofs.Ytmlfbjcgmbdafaa
open Go.RowKit Go.Lg
set_option linter.unusedVariables false
set_option linter.unusedSimpArgs false

theorem ep_top {l : List (Int × Int)} {e : Int} (h : Sl.ok l e) : Sl.ep l e = top l e := by
  have h2 := h.1.2.2
  have h0 := h.1.1
  unfold top
  by_cases he : 0 < e
  · have hl : 0 < l.length := by
      rcases Nat.eq_zero_or_pos l.length with hz | hp
      · have := h2.1 hz
        omega
      · exact hp
    have hc : Sl.cnt l e = l.length := Sl.cnt_of (Nat.le_refl _) (fun i hi => Sl.F_end h hi) (fun q => absurd q (Nat.lt_irrefl _))
    unfold Sl.ep Sl.epo
    rw [if_pos he, hc, if_neg (by omega)]
  · have hl : l = [] := List.length_eq_zero_iff.1 (h2.2 (by omega))
    subst hl
    simp [Sl.ep, Sl.epo, Sl.cnt, he]
theorem gr_same {l : List (Int × Int)} {e ep num : Int} (h : Sl.ok l e) (h1 : 1 ≤ ep) (ht : ep = top l e) : gr l ep num = l := by
  have h2 := h.1.2.2
  unfold top at ht
  by_cases he : 0 < e
  · rw [if_pos he] at ht
    unfold gr
    rw [if_pos ⟨Nat.pos_of_ne_zero (fun q => by have := h2.1 q; omega), ht.symm⟩]
  · rw [if_neg he] at ht
    omega
theorem gr_more {l : List (Int × Int)} {e ep num : Int} (h : Sl.ok l e) (ht : top l e < ep) : gr l ep num = l ++ [(ep, num)] := by
  have h2 := h.1.2.2
  have h0 := h.1.1
  unfold gr
  rw [if_neg]
  rintro ⟨q1, q2⟩
  unfold top at ht
  by_cases he : 0 < e
  · rw [if_pos he] at ht
    omega
  · have := h2.2 (by omega)
    omega

set_option maxHeartbeats 8000000 in
set_option maxRecDepth 100000 in
theorem refgrown27 (A : Option Addr) (n c : Nat) (l : List (Int × Int)) (e : Int) (m : Cm) (w : World) (h : SS w w.heap.size A n l) (hos : OS w w.heap.size m.A m.n m.os) (hmn : m.n ≤ 9223372036854775807) (hn : n ≤ 1000) :
    Calls Try.prog 27 #[.slice A n c, .int .i64 e, m.v] w (Trims (grown l e m) w) := by
  obtain ⟨me, mn, Ao, no, co, os⟩ := m
  simp only at hos hmn
  have kb := Blk.new w 40 #[.int .i64 me, .int .i64 mn, .slice Ao no co]
  have hb := (Below.refl w.heap.size w).alloc (Nat.le_refl _) (.cells #[.int .i64 me, .int .i64 mn, .slice Ao no co] 40)
  obtain ⟨W, hW⟩ : ∃ W, W = w.alloc (.cells #[.int .i64 me, .int .i64 mn, .slice Ao no co] 40) := ⟨_, rfl⟩
  rw [← hW] at kb hb
  have hsW := hb.size
  have hc := check19 A n c l e W ((h.keep hb).more hsW) (by omega)
  by_cases hok : Sl.ok l e
  · rw [chk_ok hok] at hc
    have HL := hid h.2
    have HOK := hid hok
    clear hok
    go_enter Try.func27, Try.ntmps27
    go_wp2_with (go_at_call 19; refine stop_ (fun Ps hPs => ?_))
    refine hPs ?_
    clear hPs Ps
    rw [← hW]
    clear hW
    refine hc.mono ?_
    clear hc
    rintro e' w1 ⟨rfl, hb1⟩
    have kb := kb.later hb1
    have hb := bl_trans hb hb1 hsW
    have hs1 := hb.size
    have hck := refcommit43 ⟨me, mn, Ao, no, co, os⟩ w1 ((hos.keep hb).more hs1) hmn
    have b0 : w1.cell? ⟨w.heap.size, 0, none⟩ = some (.int .i64 me) := kb.cell 0
    have b1 : w1.cell? ⟨w.heap.size, 1, none⟩ = some (.int .i64 mn) := kb.cell 1
    have b2 : w1.cell? ⟨w.heap.size, 2, none⟩ = some (.slice Ao no co) := kb.cell 2
    have hin : (Cm.mk me mn Ao no co os).k = 0 → (1 ≤ me ∧ 1 ≤ mn ∧ mn ≤ 1048576) := by
      intro hk
      unfold Cm.k at hk
      split at hk
      · rename_i hi
        exact ⟨hi.1.1, hi.2⟩
      · cases hk
    obtain ⟨k, hk⟩ : ∃ k, (Cm.mk me mn Ao no co os).k = k := ⟨_, rfl⟩
    rw [hk] at hck hin
    have hgr : grown l e ⟨me, mn, Ao, no, co, os⟩ = if k ≠ 0 then ([], k) else if mn - 1 ≠ e ∨ me < top l e then ([], 15) else (gr l me mn, 0) := by
      unfold grown
      rw [if_neg (by simpa using HOK.out), hk]
    have HG := hid hgr
    have HIN := hid hin
    clear hgr hin hk hb1
    go_wp2_with (go_at_call 43; refine stop_ (fun Ps hPs => ?_))
    refine hPs ?_
    clear hPs Ps
    refine hck.mono ?_
    clear hck b0 b1 b2
    rintro e' w2 ⟨rfl, hb2⟩
    have kb := kb.later hb2
    have hb := bl_trans hb hb2 hs1
    have hs2 := hb.size
    have b0 : w2.cell? ⟨w.heap.size, 0, none⟩ = some (.int .i64 me) := kb.cell 0
    have b1 : w2.cell? ⟨w.heap.size, 1, none⟩ = some (.int .i64 mn) := kb.cell 1
    have b2 : w2.cell? ⟨w.heap.size, 2, none⟩ = some (.slice Ao no co) := kb.cell 2
    clear hb2
    have HB := hid hb
    have HK := hid kb
    have HH := hid ((h.keep hb).more hs2)
    clear kb
    by_cases hk0 : k = 0
    · subst hk0
      obtain ⟨r0, r1, r2⟩ := HIN.out rfl
      have hep := epoch35 A n c w2.heap.size l e w2 HH.out (by omega)
      rw [ep_top HOK.out] at hep
      have hw1 : wrap64 (mn - 1) = mn - 1 := by simp only [wrap64]; omega
      have HGS : Hid (me = top l e → gr l me mn = l) := hid (gr_same HOK.out r0)
      have HGM : Hid (top l e < me → gr l me mn = l ++ [(me, mn)]) := hid (gr_more HOK.out)
      obtain ⟨tp, htp⟩ : ∃ t, t = top l e := ⟨_, rfl⟩
      rw [← htp] at HG hep HGS HGM
      clear htp hb r0 h
      go_wp2_with (go_at_call 35; refine stop_ (fun Ps hPs => ?_))
      refine hPs ?_
      clear hPs Ps
      refine hep.mono ?_
      clear hep
      rintro e' w3 ⟨rfl, rfl⟩
      by_cases hord : mn - 1 ≠ e ∨ me < tp
      · have HR : Hid (grown l e ⟨me, mn, Ao, no, co, os⟩ = ([], 15)) := by rw [HG.out, if_neg (by decide), if_pos hord]; exact hid rfl
        have hord2 : (mn - 1 != e) = true ∨ ((mn - 1 != e) = false ∧ me < tp) := by
          simp only [bne_iff_ne, bne_eq_false_iff_eq]
          omega
        clear hord
        rcases hord2 with g1 | ⟨g1, g2⟩
        all_goals
          go_wp2_with fail
          go_ret2
          exact trims_nil HR.out HB.out
      · have HR : Hid (grown l e ⟨me, mn, Ao, no, co, os⟩ = (gr l me mn, 0)) := by rw [HG.out, if_neg (by decide), if_neg hord]; exact hid rfl
        have g1 : (mn - 1 != e) = false := by
          simp only [bne_eq_false_iff_eq]
          omega
        have g2 : ¬me < tp := by omega
        clear hord
        have hne : n ≤ 1000 := hn
        go_wp2_with (at_builtin; refine stop_ (fun Ps hPs => ?_))
        refine hPs ?_
        clear hPs Ps
        refine wpList_app T22 (.tmp 36) (.tmp 37) rfl rfl (World.ownsRow_nil w3 w3.heap.size 58 2) rfl HH.out.1 rfl (sts_one l) (by omega) (by simp) fun v4 w4 ho4 hg4 hat4 => ?_
        have hb4 : Below w3.heap.size w3 w4 := (Below.refl _ _).grown hg4 (by simp) (by intro k hk; simp [Value.ownBlock] at hk)
        have ho4' : w4.ownsRow w3.heap.size 58 2 v4 n (sts l) := by simpa using ho4
        have kb4 := HK.out.later hb4
        have b0 : w4.cell? ⟨w.heap.size, 0, none⟩ = some (.int .i64 me) := kb4.cell 0
        have b1 : w4.cell? ⟨w.heap.size, 1, none⟩ = some (.int .i64 mn) := kb4.cell 1
        have hb5 := bl_trans HB.out hb4 hs2
        have hs4 := hb4.size
        have HO4 := hid ho4'
        have HB5 := hid hb5
        clear ho4 ho4' hg4 hat4 hb4 hb5 kb4
        by_cases htm : me = tp
        · have HR2 : Hid (grown l e ⟨me, mn, Ao, no, co, os⟩ = (l, 0)) := by rw [HR.out, HGS.out htm]; exact hid rfl
          have g3 : ¬tp < me := by omega
          clear htm
          go_wp2_with fail
          go_ret2
          refine trims_own HR2.out ?_ HB5.out
          rw [HL.out]
          exact owned_less HO4.out hs2
        · have HR2 : Hid (grown l e ⟨me, mn, Ao, no, co, os⟩ = (l ++ [(me, mn)], 0)) := by rw [HR.out, HGM.out (by omega)]; exact hid rfl
          have g3 : tp < me := by omega
          clear htm
          go_wp2_with (at_builtin; refine stop_ (fun Ps hPs => ?_))
          refine hPs ?_
          clear hPs Ps
          refine wpList_app1 T22 (.tmp 43) (.tmp 49) rfl rfl HO4.out rfl rfl rfl (by simp [Value.oneCell']) (by omega) hs4 fun v5 w5 ho5 hg5 hat5 => ?_
          have hb6 := below_append HB5.out (owned_less HO4.out hs2) hg5 (by omega)
          have HO5 := hid (owned_less ho5 hs2)
          have HB6 := hid hb6
          clear ho5 hg5 hat5 hb6
          go_wp2_with fail
          go_ret2
          refine trims_own HR2.out ?_ HB6.out
          rw [sts_snoc, List.length_append, List.length_singleton, HL.out]
          exact HO5.out
    · have HR : Hid (grown l e ⟨me, mn, Ao, no, co, os⟩ = ([], k)) := by rw [HG.out, if_pos hk0]; exact hid rfl
      go_wp2_with fail
      go_ret2
      exact trims_nil HR.out HB.out
  · rw [chk_bad hok] at hc
    have HR : Hid (grown l e ⟨me, mn, Ao, no, co, os⟩ = ([], 5)) := by unfold grown; rw [if_pos hok]; exact hid rfl
    clear hok
    go_enter Try.func27, Try.ntmps27
    go_wp2_with (go_at_call 19; refine stop_ (fun Ps hPs => ?_))
    refine hPs ?_
    clear hPs Ps
    rw [← hW]
    clear hW
    refine hc.mono ?_
    clear hc
    rintro e' w1 ⟨rfl, hb1⟩
    go_wp2_with fail
    go_ret2
    exact trims_nil HR.out (bl_trans hb hb1 hsW)
end Go.Proofs.Ytmlfbjcgmbdafaa
