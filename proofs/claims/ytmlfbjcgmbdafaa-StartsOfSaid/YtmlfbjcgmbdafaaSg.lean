/- Starts: new lists of them. -/
import Derived.Test.YtmlfbjcgmbdafaaSe
import Derived.RegionTactic
import Derived.ChangeAlike
import Derived.BigRegion
namespace Go.Proofs.Ytmlfbjcgmbdafaa
open Go.RowKit Go.Lg
set_option linter.unusedVariables false
set_option linter.unusedSimpArgs false

theorem rd_bool {a b : Bool} (h : a = b) : Ending.returned (.bool a) = .returned (.bool b) := by rw [h]
theorem T22 : SlT Try.prog 22 58 2 16 := SlT.mk' (.agg #[.int .i64 0, .int .i64 0]) Try.underlying22 (by kernel_rfl) rfl (by decide) (by decide)
theorem sts_one (l : List (Int × Int)) : ∀ u ∈ sts l, u.oneCell' = true := by
  intro u hu
  simp only [sts, List.mem_flatMap] at hu
  obtain ⟨s, _, hu⟩ := hu
  simp at hu
  rcases hu with rfl | rfl <;> rfl
theorem sts_snoc (l : List (Int × Int)) (x y : Int) : sts (l ++ [(x, y)]) = sts l ++ (#[.int .i64 x, .int .i64 y] : Array Value).toList := by simp [sts]
/-- A new list of starts. -/
def NewS (l : List (Int × Int)) (w : World) (e : Ending) (w' : World) : Prop := ∃ v, e = .returned v ∧ w'.ownsRow w.heap.size 58 2 v l.length (sts l) ∧ Below w.heap.size w w'
theorem SS.of_own {w : World} {base c : Nat} {A : Option Addr} {l : List (Int × Int)} (h : w.ownsRow base 58 2 (.slice A l.length c) l.length (sts l)) : SS w w.heap.size A l.length l := ⟨Rd.of_own h, rfl⟩

set_option maxHeartbeats 4000000 in
set_option maxRecDepth 100000 in
theorem same14 (A A' : Option Addr) (n c n' c' B B' : Nat) (l l' : List (Int × Int)) (w : World) (h : SS w B A n l) (h' : SS w B' A' n' l') (hn : n ≤ 140737488355328) (hn' : n' ≤ 140737488355328) :
    Calls Try.prog 14 #[.slice A n c, .slice A' n' c'] w fun e w' => e = .returned (.bool (decide (l = l'))) ∧ ∃ d, w' = w.drewN d := by
  have HL := hid h.2
  have HL' := hid h'.2
  by_cases hnn : n = n'
  · subst hnn
    go_enter Try.func14, Try.ntmps14
    go_wp2_with fail
    go_loopg [5] n (fun k i wr => ∃ (j d : Nat), j ≤ n ∧ k = n - j ∧ i = .int .i64 j ∧ Hid (∀ i, i < j → l[i]? = l'[i]?) ∧ wr = w.drewN d)
    case atStart => exact ⟨0, 0, by omega, rfl, rfl, hid (fun i hi => absurd hi (Nat.not_lt_zero _)), rfl⟩
    case round =>
      obtain ⟨j, d, hj, rfl, rfl, hgo, hwr⟩ := hrel
      have hs : SS wr B A n l := by rw [hwr]; exact ⟨h.1.drewN d, h.2⟩
      have hs' : SS wr B' A' n l' := by rw [hwr]; exact ⟨h'.1.drewN d, h'.2⟩
      have HW := hid hwr
      clear hwr
      by_cases hlt : j < n
      · obtain ⟨b, off, rfl, hbB, c0, c1⟩ := hs.at_ hlt
        obtain ⟨b2, off2, rfl, hbB2, d0, d1⟩ := hs'.at_ hlt
        have hll : l[j]? = some (Sl.E l j, Sl.F l j) := by
          have hjl : j < l.length := by rw [HL.out]; exact hlt
          rw [List.getElem?_eq_getElem hjl]
          simp [Sl.E, Sl.F, hjl]
        have hll' : l'[j]? = some (Sl.E l' j, Sl.F l' j) := by
          have hjl : j < l'.length := by rw [HL'.out]; exact hlt
          rw [List.getElem?_eq_getElem hjl]
          simp [Sl.E, Sl.F, hjl]
        generalize Sl.E l j = x at c0 hll
        generalize Sl.F l j = y at c1 hll
        generalize Sl.E l' j = u at d0 hll'
        generalize Sl.F l' j = v at d1 hll'
        have G1 := hid hll
        have G2 := hid hll'
        have hji : (j : Int) < (n : Int) := by omega
        clear hll hll' hs hs'
        by_cases hxu : x = u
        · by_cases hyv : y = v
          · have q1 : (x != u) = false := by simp [hxu]
            have q2 : (y != v) = false := by simp [hyv]
            have HE : Hid (l[j]? = l'[j]?) := by rw [G1.out, G2.out, hxu, hyv]; exact hid rfl
            clear hxu hyv
            go_wp2_with fail
            go_quiet (fail)
            go_wp2_with fail
            go_roundg (n - (j + 1))
            case measure => omega
            case rel =>
              refine ⟨j + 1, d + nq, by omega, rfl, by go_num, hid ?_, by rw [HW.out, World.drewN_drewN]⟩
              intro i hi
              rcases Nat.lt_or_ge i j with h9 | h9
              · exact hgo.out i h9
              · obtain rfl : i = j := by omega
                exact HE.out
          · have q1 : (x != u) = false := by simp [hxu]
            have q2 : (y != v) = true := by simp [hyv]
            have HE : Hid (decide (l = l') = false) := decide_eq_false fun he => hyv (by
              have h9 := G1.out
              rw [he, G2.out] at h9
              simp at h9
              exact h9.2.symm)
            clear hxu hyv
            go_wp2_with fail
            go_quiet (fail)
            go_wp2_with fail
            go_ret
            exact ⟨rd_bool HE.out.symm, d + nq, by rw [HW.out, World.drewN_drewN]⟩
        · have q1 : (x != u) = true := by simp [hxu]
          have HE : Hid (decide (l = l') = false) := decide_eq_false fun he => hxu (by
            have h9 := G1.out
            rw [he, G2.out] at h9
            simp at h9
            exact h9.1.symm)
          clear hxu
          go_wp2_with fail
          go_quiet (fail)
          go_wp2_with fail
          go_ret
          exact ⟨rd_bool HE.out.symm, d + nq, by rw [HW.out, World.drewN_drewN]⟩
      · obtain rfl : j = n := by omega
        have HE : Hid (decide (l = l') = true) := decide_eq_true (List.ext_getElem? fun i => by
          rcases Nat.lt_or_ge i j with h9 | h9
          · exact hgo.out i h9
          · rw [List.getElem?_eq_none (by rw [HL.out]; exact h9), List.getElem?_eq_none (by rw [HL'.out]; exact h9)])
        go_wp2_with fail
        go_ret
        exact ⟨rd_bool HE.out.symm, d, HW.out⟩
  · have HE : Hid (decide (l = l') = false) := decide_eq_false fun he => hnn (by rw [← HL.out, ← HL'.out, he])
    have q1 : ((n : Int) != (n' : Int)) = true := by simp; omega
    clear hnn
    go_enter Try.func14, Try.ntmps14
    go_wp2_with fail
    go_ret
    exact ⟨rd_bool HE.out.symm, 0, rfl⟩

/-- The starts up to a number. -/
def trim (l : List (Int × Int)) (e m : Int) : List (Int × Int) × Int := if Sl.ok l e then (if 0 ≤ m ∧ m ≤ e then (l.take (Sl.cnt l m), 0) else ([], 2)) else ([], 5)
def Trims (r : List (Int × Int) × Int) (w : World) (e : Ending) (w' : World) : Prop := ∃ v, e = .returned (.tuple #[v, .int .i64 r.2]) ∧ w'.ownsRow w.heap.size 58 2 v r.1.length (sts r.1) ∧ Below w.heap.size w w'
theorem trims_nil {r : List (Int × Int) × Int} {k : Int} {w w' : World} (h : r = ([], k)) (hb : Below w.heap.size w w') : Trims r w (.returned (.tuple #[.slice none 0 0, .int .i64 k])) w' := by
  subst h
  exact ⟨_, rfl, World.ownsRow_nil _ _ _ _, hb⟩
theorem trims_own {r : List (Int × Int) × Int} {l2 : List (Int × Int)} {v : Value} {w w' : World} (h : r = (l2, 0)) (ho : w'.ownsRow w.heap.size 58 2 v l2.length (sts l2)) (hb : Below w.heap.size w w') : Trims r w (.returned (.tuple #[v, .int .i64 0])) w' := by
  subst h
  exact ⟨_, rfl, ho, hb⟩
theorem take_snoc {l : List (Int × Int)} {j : Nat} (h : j < l.length) : l.take (j + 1) = l.take j ++ [(Sl.E l j, Sl.F l j)] := by
  have e1 : (Sl.E l j, Sl.F l j) = l[j] := by simp [Sl.E, Sl.F, h]
  rw [List.take_succ_eq_append_getElem h, e1]

set_option maxHeartbeats 4000000 in
set_option maxRecDepth 100000 in
theorem trim12 (A : Option Addr) (n c : Nat) (l : List (Int × Int)) (e m : Int) (w : World) (h : SS w w.heap.size A n l) (hn : n ≤ 1000000) :
    Calls Try.prog 12 #[.slice A n c, .int .i64 e, .int .i64 m] w (Trims (trim l e m) w) := by
  have hc := check11 A n c l e w h (by omega)
  by_cases hok : Sl.ok l e
  · rw [chk_ok hok] at hc
    have HOK := hid hok
    have HL := hid h.2
    have hcs : m < 0 ∨ (0 ≤ m ∧ e < m) ∨ (0 ≤ m ∧ m ≤ e) := by omega
    clear hok
    rcases hcs with g1 | ⟨g1, g2⟩ | ⟨g1, g2⟩
    · have HR : Hid (trim l e m = ([], 2)) := by
        unfold trim
        rw [if_pos HOK.out, if_neg (by omega)]
        exact hid rfl
      go_enter Try.func12, Try.ntmps12
      go_wp2_with (go_at_call 11; refine hc.mono ?_; clear hc; rintro e' w1 ⟨rfl, hb⟩)
      go_ret2
      exact trims_nil HR.out hb
    · have HR : Hid (trim l e m = ([], 2)) := by
        unfold trim
        rw [if_pos HOK.out, if_neg (by omega)]
        exact hid rfl
      go_enter Try.func12, Try.ntmps12
      go_wp2_with (go_at_call 11; refine hc.mono ?_; clear hc; rintro e' w1 ⟨rfl, hb⟩)
      go_ret2
      exact trims_nil HR.out hb
    · have HR : Hid (trim l e m = (l.take (Sl.cnt l m), 0)) := by
        unfold trim
        rw [if_pos HOK.out, if_pos ⟨g1, g2⟩]
        exact hid rfl
      have g3 : ¬m < 0 := by omega
      have g4 : ¬e < m := by omega
      have hcl := Sl.cnt_le l m
      rw [h.2] at hcl
      obtain ⟨r, hr⟩ : ∃ r, r = Sl.cnt l m := ⟨_, rfl⟩
      rw [← hr] at hcl
      have HRR := hid hr
      clear hr
      go_enter Try.func12, Try.ntmps12
      go_wp2_with (go_at_call 11; refine hc.mono ?_; clear hc; rintro e' w1 ⟨rfl, hb⟩)
      go_loopg [9, 27] n (fun k v i wr => ∃ (j : Nat), j ≤ n ∧ k = n - j ∧ i = .int .i64 j ∧ wr.ownsRow w.heap.size 58 2 v (min j r) (sts (l.take (min j r))) ∧ Below w.heap.size w wr)
      case atStart => exact ⟨0, by omega, rfl, rfl, by rw [Nat.zero_min]; exact World.ownsRow_nil _ _ _ _, hb⟩
      case round =>
        clear hb
        obtain ⟨j, hj, rfl, rfl, ho, hb⟩ := hrel
        have hsz := hb.size
        by_cases hlt : j < n
        · have hw := h.keep hb
          obtain ⟨b, off, rfl, hbB, c0, c1⟩ := hw.at_ hlt
          obtain ⟨x, hx⟩ : ∃ x, x = Sl.E l j := ⟨_, rfl⟩
          obtain ⟨y, hy⟩ : ∃ y, y = Sl.F l j := ⟨_, rfl⟩
          rw [← hx] at c0
          rw [← hy] at c1
          have hji : (j : Int) < (n : Int) := by omega
          have ks := Blk.new wr 58 #[.int .i64 x, .int .i64 y]
          have s0 : (wr.alloc (.cells #[.int .i64 x, .int .i64 y] 58)).cell? ⟨wr.heap.size, 0, none⟩ = some (.int .i64 x) := ks.cell 0
          have s1 : (wr.alloc (.cells #[.int .i64 x, .int .i64 y] 58)).cell? ⟨wr.heap.size, 1, none⟩ = some (.int .i64 y) := ks.cell 1
          by_cases hjr : j < r
          · have hym : y ≤ m := by rw [hy]; exact Sl.cnt_in l m j (by rw [← HRR.out]; exact hjr)
            have e1 : min j r = j := by omega
            rw [e1] at ho
            have HST : Hid (sts (l.take (j + 1)) = sts (l.take j) ++ (#[.int .i64 x, .int .i64 y] : Array Value).toList) := by
              rw [take_snoc (by rw [HL.out]; exact hlt), sts_snoc, ← hx, ← hy]
              exact hid rfl
            have HO := hid (ho.alloc (.cells #[.int .i64 x, .int .i64 y] 58))
            have HB := hid (hb.alloc hsz (.cells #[.int .i64 x, .int .i64 y] 58))
            clear hx hy ks hw ho hb
            go_wp2_with (at_builtin; refine stop_ (fun Ps hPs => ?_))
            refine hPs ?_
            clear hPs Ps
            refine wpList_app1 T22 (.tmp 35) (.tmp 37) rfl rfl HO.out rfl rfl (by rw [World.size_alloc]; rfl) (by simp [Value.oneCell']) (by omega) (by simp; omega) fun v' w3 ho3 hg hat => ?_
            have hb3 : Below w.heap.size w w3 := below_append HB.out HO.out hg (by simp; omega)
            have HO3 := hid ho3
            clear hg hat ho3 s0 s1
            go_wp2_with fail
            go_roundg (n - (j + 1))
            case measure => omega
            case rel =>
              refine ⟨j + 1, by omega, rfl, by go_num, ?_, hb3⟩
              rw [show min (j + 1) r = j + 1 by omega, HST.out]
              exact HO3.out
          · have hym : m < y := by
              rw [hy]
              have h9 := Sl.cnt_out l m (by rw [← HRR.out, HL.out]; omega)
              rw [← HRR.out] at h9
              rcases Nat.lt_or_ge r j with h8 | h8
              · have := Sl.F_lt HOK.out h8 (by rw [HL.out]; exact hlt)
                omega
              · obtain rfl : r = j := by omega
                exact h9
            have HO := hid ho
            have HB := hid hb
            clear hx hy ks hw ho hb
            go_wp2_with fail
            go_roundg (n - (j + 1))
            case measure => omega
            case rel =>
              refine ⟨j + 1, by omega, rfl, by go_num, ?_, HB.out.alloc hsz _⟩
              rw [show min (j + 1) r = r by omega]
              have h9 := HO.out
              rw [show min j r = r by omega] at h9
              exact h9.alloc _
        · obtain rfl : j = n := by omega
          rw [show min j r = r by omega] at ho
          have HO := hid ho
          have hlr : (l.take r).length = r := by rw [List.length_take, HL.out]; omega
          have HLR := hid hlr
          clear ho hlr
          go_wp2_with fail
          go_ret2
          refine trims_own (l2 := l.take r) (by rw [HR.out, HRR.out]) ?_ hb
          rw [HLR.out]
          exact HO.out
  · rw [chk_bad hok] at hc
    have HR : Hid (trim l e m = ([], 5)) := by
      unfold trim
      rw [if_neg hok]
      exact hid rfl
    clear hok
    go_enter Try.func12, Try.ntmps12
    go_wp2_with (go_at_call 11; refine hc.mono ?_; clear hc; rintro e' w1 ⟨rfl, hb⟩)
    go_ret2
    exact trims_nil HR.out hb
end Go.Proofs.Ytmlfbjcgmbdafaa
