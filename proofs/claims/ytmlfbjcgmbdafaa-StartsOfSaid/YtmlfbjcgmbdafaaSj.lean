/- Starts: the document's front parts and forks; copies. -/
import Derived.Test.YtmlfbjcgmbdafaaSh
import Derived.Test.YtmlfbjcgmbdafaaSf
namespace Go.Proofs.Ytmlfbjcgmbdafaa
open Go.RowKit Go.Lg
set_option linter.unusedVariables false
set_option linter.unusedSimpArgs false

theorem T56 : SlT Try.prog 56 3 1 8 := SlT.mk' (.int .i64 0) Try.underlying56 (by kernel_rfl) rfl (by decide) (by decide)
set_option maxHeartbeats 1000000 in
set_option maxRecDepth 100000 in
theorem copy34 (A : Option Addr) (n c : Nat) (l : List (Int × Int)) (w : World) (h : SS w w.heap.size A n l) (hn : n ≤ 1000) :
    Calls Try.prog 34 #[.slice A n c] w (NewS l w) := by
  have HL := hid h.2
  go_enter Try.func34, Try.ntmps34
  go_wp2_with (at_builtin; refine stop_ (fun Ps hPs => ?_))
  refine hPs ?_
  clear hPs Ps
  refine wpList_app T22 (.tmp 3) (.tmp 4) rfl rfl (World.ownsRow_lit w #[] 0 (Nat.le_refl _) (Nat.zero_le _) rfl) rfl (h.1.alloc (Nat.le_refl _) _) rfl (sts_one l) (by omega) (by simp) fun v1 w1 hown hg hat => ?_
  have hb : Below w.heap.size w w1 := ((Below.refl _ _).alloc (Nat.le_refl _) _).grown hg (by simp) (by intro k hk; simp [Value.ownBlock] at hk; omega)
  have HO := hid hown
  clear hown hg hat
  go_wp2_with fail
  go_ret
  exact news_eq rfl HL.out.symm (by simpa using HO.out) hb

def spareS : List (Int × Int) := [(-5, 0), (-5, 1), (-5, 2)]
def lentS (l : List (Int × Int)) : List (Int × Int) := l ++ spareS
set_option maxHeartbeats 2000000 in
set_option maxRecDepth 100000 in
theorem lent15 (A : Option Addr) (n c : Nat) (l : List (Int × Int)) (w : World) (h : SS w w.heap.size A n l) (hn : n ≤ 900) :
    Calls Try.prog 15 #[.slice A n c] w (NewS (lentS l) w) := by
  have HL := hid h.2
  obtain ⟨B, hB⟩ : ∃ B, B = w.heap.size := ⟨_, rfl⟩
  have hB' := hid hB
  clear hB
  go_enter Try.func15, Try.ntmps15
  go_wp2_with (go_at_call 34; refine (copy34 A n c l _ h (by omega)).mono ?_; rintro e w1 ⟨v1, rfl, hown, hb⟩)
  rw [← hB'.out] at hown hb
  have hln : l.length ≤ 900 := by rw [HL.out]; exact hn
  go_loopg [3, 4] 3 (fun k v i wr => ∃ j : Nat, j ≤ 3 ∧ k = 3 - j ∧ i = .int .i64 j ∧ wr.ownsRow B 58 2 v (l.length + j) (sts (l ++ spareS.take j)) ∧ Below B w wr)
  case atStart => exact ⟨0, by omega, rfl, rfl, by simpa using hown, hb⟩
  case round =>
    obtain ⟨j, hj, rfl, rfl, hown, hb⟩ := hrel
    have hs := hb.size
    rw [← hB'.out] at hs
    by_cases hlt : j < 3
    · obtain rfl | rfl | rfl : j = 0 ∨ j = 1 ∨ j = 2 := by omega
      all_goals
        have HO := hid hown
        have HB := hid hb
        clear hown hb
        go_wp2_with (at_builtin; refine stop_ (fun Ps hPs => ?_))
        refine hPs ?_
        clear hPs Ps
        refine wpList_app1 T22 (.tmp 11) (.tmp 14) rfl rfl HO.out rfl rfl rfl (by simp [Value.oneCell']) (by omega) hs fun v1 w1 hown1 hg hat => ?_
        have hb1 := below_append HB.out HO.out hg hs
        have HO1 := hid hown1
        clear hown1 hg hat
        go_wp2_with fail
      · go_roundg 2
        case measure => omega
        case rel => exact ⟨1, by omega, by omega, rfl, by simpa [sts, spareS] using HO1.out, hb1⟩
      · go_roundg 1
        case measure => omega
        case rel => exact ⟨2, by omega, by omega, rfl, by simpa [sts, spareS] using HO1.out, hb1⟩
      · go_roundg 0
        case measure => omega
        case rel => exact ⟨3, by omega, by omega, rfl, by simpa [sts, spareS] using HO1.out, hb1⟩
    · obtain rfl : j = 3 := by omega
      have HO := hid hown
      clear hown
      go_wp2_with fail
      go_ret
      rw [hB'.out] at HO hb
      exact news_eq (l2 := l ++ spareS.take 3) rfl (by simp [lentS, spareS]) HO.out hb

set_option maxHeartbeats 4000000 in
set_option maxRecDepth 100000 in
theorem trim18 (A : Option Addr) (n c : Nat) (l : List (Int × Int)) (e m : Int) (w : World) (h : SS w w.heap.size A n l) (hn : n ≤ 1000000) :
    Calls Try.prog 18 #[.slice A n c, .int .i64 e, .int .i64 m] w (Trims (trim l e m) w) := by
  have hc := check19 A n c l e w h (by omega)
  by_cases hok : Sl.ok l e
  · rw [chk_ok hok] at hc
    have HOK := hid hok
    have HL := hid h.2
    have hcs : m < 0 ∨ (0 ≤ m ∧ e < m) ∨ (0 ≤ m ∧ m ≤ e) := by omega
    clear hok
    rcases hcs with g1 | ⟨g1, g2⟩ | ⟨g1, g2⟩
    · have HR : Hid (trim l e m = ([], 2)) := by
        unfold trim
        rw [if_pos HOK.out, if_neg (by omega)]
        exact hid rfl
      go_enter Try.func18, Try.ntmps18
      go_wp2_with (go_at_call 19; refine hc.mono ?_; clear hc; rintro e' w1 ⟨rfl, hb⟩)
      go_ret2
      exact trims_nil HR.out hb
    · have HR : Hid (trim l e m = ([], 2)) := by
        unfold trim
        rw [if_pos HOK.out, if_neg (by omega)]
        exact hid rfl
      go_enter Try.func18, Try.ntmps18
      go_wp2_with (go_at_call 19; refine hc.mono ?_; clear hc; rintro e' w1 ⟨rfl, hb⟩)
      go_ret2
      exact trims_nil HR.out hb
    · have HR : Hid (trim l e m = (l.take (Sl.cnt l m), 0)) := by
        unfold trim
        rw [if_pos HOK.out, if_pos ⟨g1, g2⟩]
        exact hid rfl
      have g3 : ¬m < 0 := by omega
      have g4 : ¬e < m := by omega
      go_enter Try.func18, Try.ntmps18
      go_wp2_with (go_at_call 19; refine hc.mono ?_; clear hc; rintro e' w1 ⟨rfl, hb⟩)
      go_loopg [9, 10] n (fun k v i wr => ∃ (j : Nat), j ≤ n ∧ k = n - j ∧ i = .int .i64 j ∧ wr.ownsRow w.heap.size 58 2 v j (sts (l.take j)) ∧ Hid (∀ i, i < j → Sl.F l i ≤ m) ∧ Below w.heap.size w wr)
      case atStart => exact ⟨0, by omega, rfl, rfl, World.ownsRow_nil _ _ _ _, hid (fun i hi => absurd hi (Nat.not_lt_zero _)), hb⟩
      case round =>
        clear hb
        obtain ⟨j, hj, rfl, rfl, ho, hgo, hb⟩ := hrel
        have hsz := hb.size
        have HO := hid ho
        have HB := hid hb
        have hlj : (l.take j).length = j := by rw [List.length_take, HL.out]; omega
        have HLJ := hid hlj
        clear ho hb hlj
        by_cases hlt : j < n
        · have hw := h.keep HB.out
          obtain ⟨b, off, rfl, hbB, c0, c1⟩ := hw.at_ hlt
          obtain ⟨x, hx⟩ : ∃ x, x = Sl.E l j := ⟨_, rfl⟩
          obtain ⟨y, hy⟩ : ∃ y, y = Sl.F l j := ⟨_, rfl⟩
          rw [← hx] at c0
          rw [← hy] at c1
          have hji : (j : Int) < (n : Int) := by omega
          have HY := hid hy
          have HST : Hid (sts (l.take (j + 1)) = sts (l.take j) ++ (#[.int .i64 x, .int .i64 y] : Array Value).toList) := by
            rw [take_snoc (by rw [HL.out]; exact hlt), sts_snoc, ← hx, ← hy]
            exact hid rfl
          clear hx hy hw
          by_cases hym : y ≤ m
          · go_wp2_with (at_builtin; refine stop_ (fun Ps hPs => ?_))
            refine hPs ?_
            clear hPs Ps
            refine wpList_app1 T22 (.tmp 39) (.tmp 44) rfl rfl HO.out rfl rfl rfl (by simp [Value.oneCell']) (by omega) hsz fun v' w3 ho3 hg hat => ?_
            have hb3 : Below w.heap.size w w3 := below_append HB.out HO.out hg hsz
            have HO3 := hid ho3
            clear hg hat ho3
            go_wp2_with fail
            go_roundg (n - (j + 1))
            case measure => omega
            case rel =>
              refine ⟨j + 1, by omega, rfl, by go_num, ?_, hid ?_, hb3⟩
              · rw [HST.out]
                exact HO3.out
              · intro i hi
                rcases Nat.lt_or_ge i j with h9 | h9
                · exact hgo.out i h9
                · obtain rfl : i = j := by omega
                  rw [← HY.out]
                  exact hym
          · have hc : Sl.cnt l m = j := Sl.cnt_of (by rw [HL.out]; omega) hgo.out (fun _ => by rw [← HY.out]; omega)
            have HC := hid hc
            clear hc
            go_wp2_with fail
            go_ret2
            refine trims_own (l2 := l.take j) (by rw [HR.out, HC.out]) ?_ HB.out
            rw [HLJ.out]
            exact HO.out
        · obtain rfl : j = n := by omega
          have hc : Sl.cnt l m = j := Sl.cnt_of (by rw [HL.out]; omega) hgo.out (fun h9 => by rw [HL.out] at h9; omega)
          have HC := hid hc
          clear hc
          go_wp2_with fail
          go_ret2
          refine trims_own (l2 := l.take j) (by rw [HR.out, HC.out]) ?_ HB.out
          rw [HLJ.out]
          exact HO.out
  · rw [chk_bad hok] at hc
    have HR : Hid (trim l e m = ([], 5)) := by
      unfold trim
      rw [if_neg hok]
      exact hid rfl
    clear hok
    go_enter Try.func18, Try.ntmps18
    go_wp2_with (go_at_call 19; refine hc.mono ?_; clear hc; rintro e' w1 ⟨rfl, hb⟩)
    go_ret2
    exact trims_nil HR.out hb
end Go.Proofs.Ytmlfbjcgmbdafaa
