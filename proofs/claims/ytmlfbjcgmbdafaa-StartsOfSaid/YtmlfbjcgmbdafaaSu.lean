/- Starts with a commit behind. -/
import Derived.Test.YtmlfbjcgmbdafaaSt
namespace Go.Proofs.Ytmlfbjcgmbdafaa
open Go.RowKit Go.Lg
set_option linter.unusedVariables false
set_option linter.unusedSimpArgs false

def top (l : List (Int × Int)) (e : Int) : Int := if 0 < e then Sl.E l (l.length - 1) else 0
/-- Starts with a commit behind, or why not. -/
def grown (l : List (Int × Int)) (e : Int) (m : Cm) : List (Int × Int) × Int :=
  if ¬Sl.ok l e then ([], 5) else if m.k ≠ 0 then ([], m.k) else if m.num - 1 ≠ e ∨ m.ep < top l e then ([], 15) else (gr l m.ep m.num, 0)

set_option maxHeartbeats 8000000 in
set_option maxRecDepth 100000 in
theorem grown26 (A : Option Addr) (n c : Nat) (l : List (Int × Int)) (e : Int) (m : Cm) (w : World) (h : SS w w.heap.size A n l) (hos : OS w w.heap.size m.A m.n m.os) (hmn : m.n ≤ 9223372036854775807) (hn : n ≤ 1000) :
    Calls Try.prog 26 #[.slice A n c, .int .i64 e, m.v] w (Trims (grown l e m) w) := by
  obtain ⟨me, mn, Ao, no, co, os⟩ := m
  simp only at hos hmn
  have kb := Blk.new w 40 #[.int .i64 me, .int .i64 mn, .slice Ao no co]
  have hb := (Below.refl w.heap.size w).alloc (Nat.le_refl _) (.cells #[.int .i64 me, .int .i64 mn, .slice Ao no co] 40)
  obtain ⟨W, hW⟩ : ∃ W, W = w.alloc (.cells #[.int .i64 me, .int .i64 mn, .slice Ao no co] 40) := ⟨_, rfl⟩
  rw [← hW] at kb hb
  have hsW := hb.size
  have hc := check11 A n c l e W ((h.keep hb).more hsW) (by omega)
  by_cases hok : Sl.ok l e
  · rw [chk_ok hok] at hc
    have HL := hid h.2
    have he0 := hok.1.1
    have he1 := hok.1.2.1
    have hen := hok.1.2.2
    rw [h.2] at hen
    have HOK := hid hok
    clear hok
    go_enter Try.func26, Try.ntmps26
    go_wp2_with (go_at_call 11; refine stop_ (fun Ps hPs => ?_))
    refine hPs ?_
    clear hPs Ps
    rw [← hW]
    clear hW
    refine hc.mono ?_
    clear hc
    rintro e' w1 ⟨rfl, hb1⟩
    have kb := kb.later hb1
    have hb := bl_trans hb hb1 hsW
    have hs1 := hb.size
    have hck := commit41 ⟨me, mn, Ao, no, co, os⟩ w1 ((hos.keep hb).more hs1) hmn
    have b0 : w1.cell? ⟨w.heap.size, 0, none⟩ = some (.int .i64 me) := kb.cell 0
    have b1 : w1.cell? ⟨w.heap.size, 1, none⟩ = some (.int .i64 mn) := kb.cell 1
    have b2 : w1.cell? ⟨w.heap.size, 2, none⟩ = some (.slice Ao no co) := kb.cell 2
    have hin : (Cm.mk me mn Ao no co os).k = 0 → (1 ≤ mn ∧ mn ≤ 1048576) := by
      intro hk
      unfold Cm.k at hk
      split at hk
      · rename_i hi
        exact hi.2
      · cases hk
    obtain ⟨k, hk⟩ : ∃ k, (Cm.mk me mn Ao no co os).k = k := ⟨_, rfl⟩
    rw [hk] at hck hin
    have hgr : grown l e ⟨me, mn, Ao, no, co, os⟩ = if k ≠ 0 then ([], k) else if mn - 1 ≠ e ∨ me < top l e then ([], 15) else (gr l me mn, 0) := by
      unfold grown
      rw [if_neg (by simpa using HOK.out), hk]
    have HG := hid hgr
    have HIN := hid hin
    clear hgr hin hk hb1
    go_wp2_with (go_at_call 41; refine stop_ (fun Ps hPs => ?_))
    refine hPs ?_
    clear hPs Ps
    refine hck.mono ?_
    clear hck b0 b1 b2
    rintro e' w2 ⟨rfl, hb2⟩
    have kb := kb.later hb2
    have hb := bl_trans hb hb2 hs1
    have hs2 := hb.size
    have b0 : w2.cell? ⟨w.heap.size, 0, none⟩ = some (.int .i64 me) := kb.cell 0
    have b1 : w2.cell? ⟨w.heap.size, 1, none⟩ = some (.int .i64 mn) := kb.cell 1
    have b2 : w2.cell? ⟨w.heap.size, 2, none⟩ = some (.slice Ao no co) := kb.cell 2
    clear hb2
    have HB := hid hb
    have HK := hid kb
    clear kb
    by_cases hk0 : k = 0
    · subst hk0
      obtain ⟨r1, r2⟩ := HIN.out rfl
      have hw1 : wrap64 (e + 1) = e + 1 := by simp only [wrap64]; omega
      obtain ⟨tp, htp⟩ : ∃ t, t = top l e := ⟨_, rfl⟩
      rw [← htp] at HG
      by_cases hord : mn - 1 ≠ e ∨ me < tp
      · have HR : Hid (grown l e ⟨me, mn, Ao, no, co, os⟩ = ([], 15)) := by rw [HG.out, if_neg (by decide), if_pos hord]; exact hid rfl
        have hord2 : (mn != e + 1) = true ∨ ((mn != e + 1) = false ∧ me < tp) := by
          simp only [bne_iff_ne, bne_eq_false_iff_eq]
          omega
        clear hord
        by_cases hez : 0 < e
        · have hs := h.keep hb
          have hnp : 0 < n := by
            rcases Nat.eq_zero_or_pos n with h0 | h0
            · have := hen.1 h0
              omega
            · exact h0
          obtain ⟨b, off, rfl, hbB, c0, c1⟩ := hs.at_ (j := n - 1) (by omega)
          have htp2 : tp = Sl.E l (n - 1) := by rw [htp]; unfold top; rw [if_pos hez, HL.out]
          rw [← htp2] at c0
          have hwn : wrap64 ((n : Int) - 1) = (n : Int) - 1 := by simp only [wrap64]; omega
          have hn1 : (1 : Int) ≤ (n : Int) := by omega
          have hn2 : (n : Int) - 1 < (n : Int) := by omega
          clear htp htp2 hs hb
          rcases hord2 with g1 | ⟨g1, g2⟩
          all_goals
            go_wp2_with fail
            go_ret2
            exact trims_nil HR.out HB.out
        · have htp2 : tp = 0 := by rw [htp]; unfold top; rw [if_neg hez]
          subst htp2
          clear htp hb
          rcases hord2 with g1 | ⟨g1, g2⟩
          all_goals
            go_wp2_with fail
            go_ret2
            exact trims_nil HR.out HB.out
      · have HR : Hid (grown l e ⟨me, mn, Ao, no, co, os⟩ = (gr l me mn, 0)) := by rw [HG.out, if_neg (by decide), if_neg hord]; exact hid rfl
        have g1 : (mn != e + 1) = false := by
          simp only [bne_eq_false_iff_eq]
          omega
        have g2 : ¬me < tp := by omega
        clear hord
        have hs0 := (h.keep hb).more hs2
        have HLL : Hid (l.length ≤ 100000) := by rw [HL.out]; exact hid (by omega)
        have HLT : Hid (w.heap.size < w2.drew.heap.size) := HK.out.lt
        have K1 : Hid (w2.drew.cell? ⟨w.heap.size, 0, none⟩ = some (Value.int .i64 me) ∧ w2.drew.cell? ⟨w.heap.size, 1, none⟩ = some (Value.int .i64 mn) ∧ w2.drew.cell? ⟨w.heap.size, 2, none⟩ = some (Value.slice Ao no co)) := hid ⟨(drew_cell _ _).trans b0, (drew_cell _ _).trans b1, (drew_cell _ _).trans b2⟩
        by_cases hez : 0 < e
        · have hs := h.keep hb
          have hnp : 0 < n := by
            rcases Nat.eq_zero_or_pos n with h0 | h0
            · have := hen.1 h0
              omega
            · exact h0
          obtain ⟨b, off, rfl, hbB, c0, c1⟩ := hs.at_ (j := n - 1) (by omega)
          have htp2 : tp = Sl.E l (n - 1) := by rw [htp]; unfold top; rw [if_pos hez, HL.out]
          rw [← htp2] at c0
          have hwn : wrap64 ((n : Int) - 1) = (n : Int) - 1 := by simp only [wrap64]; omega
          have hn1 : (1 : Int) ≤ (n : Int) := by omega
          have hn2 : (n : Int) - 1 < (n : Int) := by omega
          clear htp htp2 hs hb
          go_wp2_with fail
          go_region_held3 (fun w' => w'.cell? ⟨w.heap.size, 0, none⟩ = some (Value.int .i64 me) ∧ w'.cell? ⟨w.heap.size, 1, none⟩ = some (Value.int .i64 mn) ∧ w'.cell? ⟨w.heap.size, 2, none⟩ = some (Value.slice Ao no co)) (first | (with_reducible exact K1.out) | exact ⟨q0, q1, q2⟩)
            (first
              | (go_at_call 42; refine (clone42 (some ⟨b, off, none⟩) n c l _ ⟨hs0.1.drew, hs0.2⟩ hn).mono ?_; rintro e5 w5 ⟨v5, rfl, ho5, hq0⟩; have hq1 := below_src hq0; have kb5 := HK.out.later hq1; have q0 : w5.cell? ⟨w.heap.size, 0, none⟩ = some (.int .i64 me) := kb5.cell 0; have q1 : w5.cell? ⟨w.heap.size, 1, none⟩ = some (.int .i64 mn) := kb5.cell 1; have q2 : w5.cell? ⟨w.heap.size, 2, none⟩ = some (.slice Ao no co) := kb5.cell 2)
              | (go_at_call 38; refine (grown38 _ v5 _ l ⟨me, mn, Ao, no, co, os⟩ w5 ho5 rfl hq1.size HLL.out).mono ?_; rintro e6 w6 ⟨v6, rfl, ho6, hb6⟩; have kb6 := kb5.below hb6 HLT.out; have q0 : w6.cell? ⟨w.heap.size, 0, none⟩ = some (.int .i64 me) := kb6.cell 0; have q1 : w6.cell? ⟨w.heap.size, 1, none⟩ = some (.int .i64 mn) := kb6.cell 1; have q2 : w6.cell? ⟨w.heap.size, 2, none⟩ = some (.slice Ao no co) := kb6.cell 2))
          have ho7 := owned_less ho6 (show w.heap.size ≤ _ from hs2)
          have hb7 := (bl_trans HB.out hq1 hs2).trans (hb6.mono hs2)
          have HO7 := hid ho7
          have HB7 := hid hb7
          clear ho6 ho7 hb6 hb7 ho5 hq0 hq1 kb5 kb6 q0 q1 q2
          go_wp2_with fail
          go_ret2
          exact trims_own HR.out HO7.out HB7.out
        · have htp2 : tp = 0 := by rw [htp]; unfold top; rw [if_neg hez]
          subst htp2
          clear htp hb
          go_wp2_with fail
          go_region_held3 (fun w' => w'.cell? ⟨w.heap.size, 0, none⟩ = some (Value.int .i64 me) ∧ w'.cell? ⟨w.heap.size, 1, none⟩ = some (Value.int .i64 mn) ∧ w'.cell? ⟨w.heap.size, 2, none⟩ = some (Value.slice Ao no co)) (first | (with_reducible exact K1.out) | exact ⟨q0, q1, q2⟩)
            (first
              | (go_at_call 42; refine (clone42 A n c l _ ⟨hs0.1.drew, hs0.2⟩ hn).mono ?_; rintro e5 w5 ⟨v5, rfl, ho5, hq0⟩; have hq1 := below_src hq0; have kb5 := HK.out.later hq1; have q0 : w5.cell? ⟨w.heap.size, 0, none⟩ = some (.int .i64 me) := kb5.cell 0; have q1 : w5.cell? ⟨w.heap.size, 1, none⟩ = some (.int .i64 mn) := kb5.cell 1; have q2 : w5.cell? ⟨w.heap.size, 2, none⟩ = some (.slice Ao no co) := kb5.cell 2)
              | (go_at_call 38; refine (grown38 _ v5 _ l ⟨me, mn, Ao, no, co, os⟩ w5 ho5 rfl hq1.size HLL.out).mono ?_; rintro e6 w6 ⟨v6, rfl, ho6, hb6⟩; have kb6 := kb5.below hb6 HLT.out; have q0 : w6.cell? ⟨w.heap.size, 0, none⟩ = some (.int .i64 me) := kb6.cell 0; have q1 : w6.cell? ⟨w.heap.size, 1, none⟩ = some (.int .i64 mn) := kb6.cell 1; have q2 : w6.cell? ⟨w.heap.size, 2, none⟩ = some (.slice Ao no co) := kb6.cell 2))
          have ho7 := owned_less ho6 (show w.heap.size ≤ _ from hs2)
          have hb7 := (bl_trans HB.out hq1 hs2).trans (hb6.mono hs2)
          have HO7 := hid ho7
          have HB7 := hid hb7
          clear ho6 ho7 hb6 hb7 ho5 hq0 hq1 kb5 kb6 q0 q1 q2
          go_wp2_with fail
          go_ret2
          exact trims_own HR.out HO7.out HB7.out
    · have HR : Hid (grown l e ⟨me, mn, Ao, no, co, os⟩ = ([], k)) := by rw [HG.out, if_pos hk0]; exact hid rfl
      go_wp2_with fail
      go_ret2
      exact trims_nil HR.out HB.out
  · rw [chk_bad hok] at hc
    have HR : Hid (grown l e ⟨me, mn, Ao, no, co, os⟩ = ([], 5)) := by unfold grown; rw [if_pos hok]; exact hid rfl
    clear hok
    go_enter Try.func26, Try.ntmps26
    go_wp2_with (go_at_call 11; refine stop_ (fun Ps hPs => ?_))
    refine hPs ?_
    clear hPs Ps
    rw [← hW]
    clear hW
    refine hc.mono ?_
    clear hc
    rintro e' w1 ⟨rfl, hb1⟩
    go_wp2_with fail
    go_ret2
    exact trims_nil HR.out (bl_trans hb hb1 hsW)
end Go.Proofs.Ytmlfbjcgmbdafaa
