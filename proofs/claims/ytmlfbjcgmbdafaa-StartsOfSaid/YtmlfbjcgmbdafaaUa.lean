/- The document's own checks of ops, batches, commits. -/
import Derived.Test.YtmlfbjcgmbdafaaSq
namespace Go.Proofs.Ytmlfbjcgmbdafaa
open Go.RowKit Go.Lg
set_option linter.unusedVariables false
set_option linter.unusedSimpArgs false

set_option maxHeartbeats 2000000 in
set_option maxRecDepth 100000 in
theorem refop56 (o : Op3) (w : World) : Calls Try.prog 56 #[o.v] w (Num (opk o) w) := by
  obtain ⟨p, k, v⟩ := o
  have hb := (Below.refl w.heap.size w).alloc (Nat.le_refl _) (.cells #[.bool p, .string k, .string v] 68)
  by_cases hok : (Op3.mk p k v).ok
  · have HR : Hid (opk ⟨p, k, v⟩ = 0) := if_pos hok
    obtain ⟨h1, h2, h3, h4⟩ := hok
    simp only at h1 h2 h3 h4
    have f1 : ¬(k.size : Int) < 1 := by omega
    have f2 : ¬(16 : Int) < (k.size : Int) := by omega
    have f3 : ¬(32 : Int) < (v.size : Int) := by omega
    cases p with
    | true =>
      clear h4
      go_enter Try.func56, Try.ntmps56
      go_wp2_with fail
      go_ret
      exact num_eq HR.out.symm hb
    | false =>
      have h5 := h4 rfl
      clear h4
      go_enter Try.func56, Try.ntmps56
      go_wp2_with fail
      go_ret
      exact num_eq HR.out.symm hb
  · have HR : Hid (opk ⟨p, k, v⟩ = 2) := if_neg hok
    have hc : (k.size : Int) < 1 ∨ (1 ≤ (k.size : Int) ∧ (16 : Int) < (k.size : Int)) ∨ (1 ≤ (k.size : Int) ∧ (k.size : Int) ≤ 16 ∧ (32 : Int) < (v.size : Int)) ∨ (1 ≤ (k.size : Int) ∧ (k.size : Int) ≤ 16 ∧ (v.size : Int) ≤ 32 ∧ p = false ∧ v.toList.isEmpty = false) := by
      unfold Op3.ok at hok
      simp only at hok
      by_cases hp : p = false
      · by_cases hv : v.toList.isEmpty = true
        · have : ¬(1 ≤ k.size ∧ k.size ≤ 16 ∧ v.size ≤ 32) := fun ⟨a, b, c⟩ => hok ⟨a, b, c, fun _ => hv⟩
          omega
        · have : v.toList.isEmpty = false := by simpa using hv
          simp only [hp, this, and_true]
          omega
      · have : ¬(1 ≤ k.size ∧ k.size ≤ 16 ∧ v.size ≤ 32) := fun ⟨a, b, c⟩ => hok ⟨a, b, c, fun h => absurd h hp⟩
        omega
    clear hok
    rcases hc with g1 | ⟨g1, g2⟩ | ⟨g1, g2, g3⟩ | ⟨g1, g2, g3, rfl, g4⟩
    all_goals
      go_enter Try.func56, Try.ntmps56
      go_wp2_with fail
      go_ret
      exact num_eq HR.out.symm hb
set_option maxHeartbeats 2000000 in
set_option maxRecDepth 100000 in
theorem refbatch52 (A : Option Addr) (n c : Nat) (os : List Op3) (w : World) (h : OS w w.heap.size A n os) (hn : n ≤ 9223372036854775807) :
    Calls Try.prog 52 #[.slice A n c] w (Num (bk os) w) := by
  have HL := hid h.2
  by_cases h0 : n = 0
  · have HR : Hid (bk os = 2) := if_pos (by rw [HL.out]; exact h0)
    have q1 : ((n : Int) == 0) = true := by simp [h0]
    clear h0
    go_enter Try.func52, Try.ntmps52
    go_wp2_with fail
    go_ret
    exact num_eq HR.out.symm (Below.refl _ _)
  · have q1 : ((n : Int) == 0) = false := by simp [h0]
    by_cases h8 : 8 < n
    · have HR : Hid (bk os = 3) := by
        unfold bk
        rw [if_neg (by rw [HL.out]; exact h0), if_pos (by rw [HL.out]; exact h8)]
        exact hid rfl
      have q2 : (8 : Int) < (n : Int) := by omega
      clear h0 h8
      go_enter Try.func52, Try.ntmps52
      go_wp2_with fail
      go_ret
      exact num_eq HR.out.symm (Below.refl _ _)
    · have q2 : ¬(8 : Int) < (n : Int) := by omega
      have HR : Hid (bk os = if ∀ o ∈ os, o.ok then 0 else 2) := by
        unfold bk
        rw [if_neg (by rw [HL.out]; exact h0), if_neg (by rw [HL.out]; exact h8)]
        exact hid rfl
      clear h0
      go_enter Try.func52, Try.ntmps52
      go_wp2_with fail
      go_loopg [3] n (fun k i wr => ∃ j : Nat, j ≤ n ∧ k = n - j ∧ i = .int .i64 j ∧ Hid (∀ i o, i < j → os[i]? = some o → o.ok) ∧ Below w.heap.size w wr)
      case atStart => exact ⟨0, by omega, rfl, rfl, hid (fun i o hi => absurd hi (Nat.not_lt_zero _)), Below.refl _ _⟩
      case round =>
        obtain ⟨j, hj, rfl, rfl, hgo, hb⟩ := hrel
        have hsz := hb.size
        by_cases hlt : j < n
        · have hw := h.keep hb
          obtain ⟨b, off, p, k, v, rfl, hbB, ho, c0, c1, c2⟩ := hw.at_ hlt
          have hji : (j : Int) < (n : Int) := by omega
          have hop := refop56 ⟨p, k, v⟩ wr
          have HO := hid ho
          have HB2 := hid hb
          clear ho hw hb
          by_cases hok : (Op3.mk p k v).ok
          · have e1 : opk ⟨p, k, v⟩ = 0 := if_pos hok
            rw [e1] at hop
            have HOK := hid hok
            clear e1 hok
            go_wp2_with (go_at_call 56; refine stop_ (fun Ps hPs => ?_))
            refine hPs ?_
            clear hPs Ps
            refine hop.mono ?_
            clear hop
            rintro e w2 ⟨rfl, hb3⟩
            have hb4 := bl_trans HB2.out hb3 hsz
            clear hb3 c0 c1 c2
            go_wp2_with fail
            go_roundg (n - (j + 1))
            case measure => omega
            case rel =>
              refine ⟨j + 1, by omega, rfl, by go_num, hid ?_, hb4⟩
              intro i o hi ho
              rcases Nat.lt_or_ge i j with h9 | h9
              · exact hgo.out i o h9 ho
              · obtain rfl : i = j := by omega
                rw [HO.out] at ho
                obtain rfl := Option.some.inj ho
                exact HOK.out
          · have e1 : opk ⟨p, k, v⟩ = 2 := if_neg hok
            rw [e1] at hop
            have HBAD : Hid (bk os = 2) := by
              rw [HR.out, if_neg fun hall => hok (hall _ (List.mem_of_getElem? HO.out))]
              exact hid rfl
            clear e1 hok
            go_wp2_with (go_at_call 56; refine stop_ (fun Ps hPs => ?_))
            refine hPs ?_
            clear hPs Ps
            refine hop.mono ?_
            clear hop
            rintro e w2 ⟨rfl, hb3⟩
            have hb4 := bl_trans HB2.out hb3 hsz
            clear hb3 c0 c1 c2
            go_wp2_with fail
            go_ret
            exact num_eq HBAD.out.symm hb4
        · obtain rfl : j = n := by omega
          have HG : Hid (bk os = 0) := by
            rw [HR.out, if_pos]
            · exact hid rfl
            · intro o ho
              obtain ⟨i, hi, rfl⟩ := List.getElem_of_mem ho
              exact hgo.out i _ (by rw [← HL.out]; exact hi) (List.getElem?_eq_getElem hi)
          go_wp2_with fail
          go_ret
          exact num_eq HG.out.symm hb

set_option maxHeartbeats 2000000 in
set_option maxRecDepth 100000 in
theorem refcommit43 (m : Cm) (w : World) (h : OS w w.heap.size m.A m.n m.os) (hn : m.n ≤ 9223372036854775807) : Calls Try.prog 43 #[m.v] w (Num m.k w) := by
  obtain ⟨ep, num, A, n, c, os⟩ := m
  simp only at h hn
  have hb := (Below.refl w.heap.size w).alloc (Nat.le_refl _) (.cells #[.int .i64 ep, .int .i64 num, .slice A n c] 40)
  have hbt := refbatch52 A n c os (w.alloc (.cells #[.int .i64 ep, .int .i64 num, .slice A n c] 40)) ((h.keep hb).more (by simp)) hn
  by_cases hi : (Cm.mk ep num A n c os).in_
  · have HR : Hid ((Cm.mk ep num A n c os).k = bk os) := if_pos hi
    obtain ⟨⟨i1, i2⟩, i3, i4⟩ := hi
    simp only at i1 i2 i3 i4
    have f1 : ¬ep < 1 := by omega
    have f2 : ¬1048576 < ep := by omega
    have f3 : ¬num < 1 := by omega
    have f4 : ¬1048576 < num := by omega
    obtain ⟨kk, hkk⟩ : ∃ k, bk os = k := ⟨_, rfl⟩
    rw [hkk] at hbt HR
    clear hkk h
    go_enter Try.func43, Try.ntmps43
    go_wp2_with (go_at_call 52; refine stop_ (fun Ps hPs => ?_))
    refine hPs ?_
    clear hPs Ps
    refine hbt.mono ?_
    clear hbt
    rintro e w2 ⟨rfl, hb2⟩
    have hb3 := bl_trans hb hb2 (by simp)
    go_wp2_with fail
    go_ret
    exact num_eq HR.out.symm hb3
  · have HR : Hid ((Cm.mk ep num A n c os).k = 2) := if_neg hi
    unfold Cm.in_ at hi
    simp only at hi
    clear hbt
    have hc : ep < 1 ∨ (¬ep < 1 ∧ 1048576 < ep) ∨ (¬ep < 1 ∧ ¬1048576 < ep ∧ num < 1) ∨ (¬ep < 1 ∧ ¬1048576 < ep ∧ ¬num < 1 ∧ 1048576 < num) := by omega
    clear hi
    rcases hc with g1 | ⟨g1, g2⟩ | ⟨g1, g2, g3⟩ | ⟨g1, g2, g3, g4⟩
    all_goals
      go_enter Try.func43, Try.ntmps43
      go_wp2_with fail
      go_ret
      exact num_eq HR.out.symm hb
end Go.Proofs.Ytmlfbjcgmbdafaa
