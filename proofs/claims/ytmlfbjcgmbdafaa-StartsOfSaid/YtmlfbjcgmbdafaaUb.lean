/- Commits one behind the other, the document's way. -/
import Derived.Test.YtmlfbjcgmbdafaaUa
namespace Go.Proofs.Ytmlfbjcgmbdafaa
open Go.RowKit Go.Lg
set_option linter.unusedVariables false
set_option linter.unusedSimpArgs false

set_option maxHeartbeats 4000000 in
set_option maxRecDepth 100000 in
theorem follows39 (A : Option Addr) (n c : Nat) (cs : List Cm) (ep0 num0 : Int) (w : World) (h : CS w w.heap.size A n cs) (hn : n ≤ 9223372036854775807) :
    Calls Try.prog 39 #[.int .i64 ep0, .int .i64 num0, .slice A n c] w (Folds (fol ep0 num0 0 cs) w) := by
  have HL := hid h.2.1
  have kz := Blk.new w 44 #[.int .i64 0, .int .i64 0]
  have hb := (Below.refl w.heap.size w).alloc (Nat.le_refl _) (.cells #[.int .i64 0, .int .i64 0] 44)
  go_enter Try.func39, Try.ntmps39
  go_wp2_with fail
  obtain ⟨W, hW⟩ : ∃ W, W = w.alloc (.cells #[.int .i64 0, .int .i64 0] 44) := ⟨_, rfl⟩
  rw [← hW] at kz hb ⊢
  clear hW
  go_loopg [0, 1, 7] n (fun k a b i wr => ∃ (j : Nat) (ep num : Int), j ≤ n ∧ k = n - j ∧ i = .int .i64 j ∧ a = .int .i64 ep ∧ b = .int .i64 num ∧ Hid (fol ep0 num0 0 cs = fol ep num j (cs.drop j)) ∧ Below w.heap.size w wr ∧ Blk wr w.heap.size 44 #[.int .i64 0, .int .i64 0])
  case atStart => exact ⟨0, ep0, num0, by omega, rfl, rfl, rfl, rfl, hid (by simp), hb, kz⟩
  case round =>
    clear hb kz
    obtain ⟨j, ep, num, hj, rfl, rfl, rfl, rfl, hfo, hb, kz⟩ := hrel
    have hsz := hb.size
    by_cases hlt : j < n
    · have hw := h.keep hb
      obtain ⟨b, off, me, mn, Ao, no, co, os, rfl, hbB, hcj, hos, hno, c0, c1, c2⟩ := hw.at_ hlt
      have hji : (j : Int) < (n : Int) := by omega
      have hdrop : cs.drop j = ⟨me, mn, Ao, no, co, os⟩ :: cs.drop (j + 1) := by
        have hjl : j < cs.length := by rw [HL.out]; exact hlt
        rw [List.drop_eq_getElem_cons hjl]
        rw [List.getElem?_eq_getElem hjl] at hcj
        rw [Option.some.inj hcj]
      have hck := refcommit43 ⟨me, mn, Ao, no, co, os⟩ wr (hos.more hsz) hno
      have hin : (Cm.mk me mn Ao no co os).k = 0 → (1 ≤ mn ∧ mn ≤ 1048576) := by
        intro hk
        unfold Cm.k at hk
        split at hk
        · rename_i hi
          exact hi.2
        · cases hk
      obtain ⟨k, hk⟩ : ∃ k, (Cm.mk me mn Ao no co os).k = k := ⟨_, rfl⟩
      rw [hk] at hck hin
      have hfo2 : fol ep0 num0 0 cs = if k ≠ 0 then (k, j) else if mn - 1 ≠ num ∨ me < ep then (15, j) else fol me mn (j + 1) (cs.drop (j + 1)) := by
        rw [hfo.out, hdrop]
        simp only [fol, hk]
      have HF := hid hfo2
      have HIN := hid hin
      have HB1 := hid hb
      have HK1 := hid kz
      clear hfo2 hdrop hk hin hw hos hb kz hfo
      go_wp2_with (go_at_call 43; refine stop_ (fun Ps hPs => ?_))
      refine hPs ?_
      clear hPs Ps
      refine hck.mono ?_
      clear hck c0 c1 c2
      rintro e w2 ⟨rfl, hb2⟩
      have kz2 := HK1.out.later hb2
      have hB2 := bl_trans HB1.out hb2 hsz
      have hw2 := h.keep hB2
      obtain ⟨b', off', me', mn', Ao', no', co', os', hA, _, hcj', _, _, c0, c1, c2⟩ := hw2.at_ hlt
      rw [hcj] at hcj'
      simp only [Option.some.injEq, Cm.mk.injEq] at hcj'
      simp only [Option.some.injEq, Addr.mk.injEq, and_true] at hA
      obtain ⟨rfl, rfl⟩ := hA
      obtain ⟨rfl, rfl, _⟩ := hcj'
      have z0 : w2.cell? ⟨w.heap.size, 0, none⟩ = some (.int .i64 0) := kz2.cell 0
      have z1 : w2.cell? ⟨w.heap.size, 1, none⟩ = some (.int .i64 0) := kz2.cell 1
      have y0 := kz2.frozen 0
      have y1 := kz2.frozen 1
      have HKZ2 := hid kz2
      have HB2 := hid hB2
      clear hb2 kz2 hB2 hw2 hcj c2
      by_cases hk0 : k = 0
      · subst hk0
        obtain ⟨r1, r2⟩ := HIN.out rfl
        have hw1 : wrap64 (mn - 1) = mn - 1 := by simp only [wrap64]; omega
        by_cases ho : mn - 1 ≠ num ∨ me < ep
        · have HR : Hid (fol ep0 num0 0 cs = (15, j)) := by rw [HF.out, if_neg (by decide), if_pos ho]; exact hid rfl
          have ho2 : (mn - 1 != num) = true ∨ ((mn - 1 != num) = false ∧ me < ep) := by
            simp only [bne_iff_ne, bne_eq_false_iff_eq]
            omega
          clear ho
          have y2 : (w2.setCell ⟨w.heap.size, 0, none⟩ (.int .i64 15)).frozen? ⟨w.heap.size, 1, none⟩ = false := (HKZ2.out.set_ 0 (.int .i64 15)).frozen 1
          rcases ho2 with g1 | ⟨g1, g2⟩
          all_goals
            go_wp2_with fail
            refine bodyPost_ret (by simp [results, Try.results39, go_sem, z0, z1]; try rfl) rfl ?_
            exact folds_eq HR.out (below_two HB2.out (Nat.le_refl _) _ _)
        · have g1 : (mn - 1 != num) = false := by
            simp only [bne_eq_false_iff_eq]
            omega
          have g2 : ¬me < ep := by omega
          have HR : Hid (fol ep0 num0 0 cs = fol me mn (j + 1) (cs.drop (j + 1))) := by rw [HF.out, if_neg (by decide), if_neg ho]; exact hid rfl
          clear ho
          go_wp2_with fail
          go_quiet (fail)
          go_wp2_with fail
          go_roundg (n - (j + 1))
          case measure => omega
          case rel =>
            exact ⟨j + 1, me, mn, by omega, rfl, by go_num, rfl, rfl, HR, below_drewN HB2.out _, HKZ2.out.drewN _⟩
      · have HR : Hid (fol ep0 num0 0 cs = (k, j)) := by rw [HF.out, if_pos hk0]; exact hid rfl
        have g1 : (k != 0) = true := by simp [hk0]
        have y2 : (w2.setCell ⟨w.heap.size, 0, none⟩ (.int .i64 k)).frozen? ⟨w.heap.size, 1, none⟩ = false := (HKZ2.out.set_ 0 (.int .i64 k)).frozen 1
        go_wp2_with fail
        refine bodyPost_ret (by simp [results, Try.results39, go_sem, z0, z1]; try rfl) rfl ?_
        exact folds_eq HR.out (below_two HB2.out (Nat.le_refl _) _ _)
    · obtain rfl : j = n := by omega
      have HR : Hid (fol ep0 num0 0 cs = (0, 0)) := by
        rw [hfo.out, List.drop_of_length_le (by rw [HL.out]; omega)]
        exact hid rfl
      have e0 : wr.cell? ⟨w.heap.size, 0, none⟩ = some (.int .i64 0) := kz.cell 0
      have e1 : wr.cell? ⟨w.heap.size, 1, none⟩ = some (.int .i64 0) := kz.cell 1
      have y0 := kz.frozen 0
      have y1 := kz.frozen 1
      have y2 : (wr.setCell ⟨w.heap.size, 0, none⟩ (.int .i64 0)).frozen? ⟨w.heap.size, 1, none⟩ = false := (kz.set_ 0 (.int .i64 0)).frozen 1
      clear kz
      go_wp2_with fail
      refine bodyPost_ret (by simp [results, Try.results39, go_sem, e0, e1]; try rfl) rfl ?_
      exact folds_eq (b := 0) HR.out (below_two hb (Nat.le_refl _) _ _)
end Go.Proofs.Ytmlfbjcgmbdafaa
