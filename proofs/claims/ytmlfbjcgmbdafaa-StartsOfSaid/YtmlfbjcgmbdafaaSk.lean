/- Starts: where two logs part, the document's way. -/
import Derived.Test.YtmlfbjcgmbdafaaSj
namespace Go.Proofs.Ytmlfbjcgmbdafaa
open Go.RowKit Go.Lg
set_option linter.unusedVariables false
set_option linter.unusedSimpArgs false

/-- The numbers ahead of the first ones. -/
def ahead (l : List (Int × Int)) (j : Nat) : List Int := (List.range j).map fun i => Sl.F l i - 1
theorem ahead_succ (l : List (Int × Int)) (j : Nat) : ahead l (j + 1) = ahead l j ++ [Sl.F l j - 1] := by simp [ahead, List.range_succ]
theorem ahead_length (l : List (Int × Int)) (j : Nat) : (ahead l j).length = j := by simp [ahead]
theorem ahead_get (l : List (Int × Int)) (j i : Nat) (h : i < j) : (ahead l j)[i]? = some (Sl.F l i - 1) := by simp [ahead, h]
theorem ints_snoc (xs : List Int) (x : Int) : ints (xs ++ [x]) = ints xs ++ (#[Value.int .i64 x] : Array Value).toList := by simp [ints]
theorem ints_length (xs : List Int) : (ints xs).length = xs.length := by simp [ints]

set_option maxHeartbeats 8000000 in
set_option maxRecDepth 100000 in
theorem fork17 (A A' : Option Addr) (n c n' c' : Nat) (a b : List (Int × Int)) (ae be : Int) (w : World) (h : SS w w.heap.size A n a) (h' : SS w w.heap.size A' n' b) (hn : n ≤ 100000) (hn' : n' ≤ 100000) :
    Calls Try.prog 17 #[.slice A n c, .int .i64 ae, .slice A' n' c', .int .i64 be] w (Forked a ae b be w) := by
  have hc := check19 A n c a ae w h (by omega)
  by_cases hoa : Sl.ok a ae
  · rw [chk_ok hoa] at hc
    by_cases hob : Sl.ok b be
    · have HA := hid hoa
      have HB := hid hob
      have HL := hid h.2
      have HL' := hid h'.2
      clear hoa hob
      obtain ⟨B, hB⟩ : ∃ B, B = w.heap.size := ⟨_, rfl⟩
      have HBB := hid hB
      clear hB
      go_enter Try.func17, Try.ntmps17
      go_wp2_with (go_at_call 19; refine stop_ (fun Ps hPs => ?_))
      refine hPs ?_
      clear hPs Ps
      refine hc.mono ?_
      clear hc
      rintro e' w1 ⟨rfl, hb1⟩
      have hc2 := check19 A' n' c' b be w1 ((h'.keep hb1).more hb1.size) (by omega)
      rw [chk_ok HB.out] at hc2
      go_wp2_with (go_at_call 19; refine stop_ (fun Ps hPs => ?_))
      refine hPs ?_
      clear hPs Ps
      refine hc2.mono ?_
      clear hc2
      rintro e' w2 ⟨rfl, hb2⟩
      have hb := bl_trans hb1 hb2 hb1.size
      have ho := World.ownsRow_lit (base := w2.heap.size) (e := 3) (size := 1) w2 #[.int .i64 ae, .int .i64 be] 2 (Nat.le_refl _) (by decide) rfl
      have hbl := hb.alloc hb.size (.cells #[.int .i64 ae, .int .i64 be] 3)
      have ho := owned_less ho hb.size
      rw [← HBB.out] at ho hbl
      have hbw2 : B ≤ w2.heap.size := by rw [HBB.out]; exact hb.size
      have h := h
      have h' := h'
      rw [← HBB.out] at h h'
      clear hb1 hb2 hb
      go_wp2_with fail
      go_loopg [11, 12] n (fun k v i wr => ∃ (j : Nat), j ≤ n ∧ k = n - j ∧ i = .int .i64 j ∧ wr.ownsRow B 3 1 v (2 + j) (ints ([ae, be] ++ ahead a j)) ∧ Below B w wr)
      case atStart => exact ⟨0, by omega, rfl, rfl, ho, hbl⟩
      case round =>
        clear ho hbl
        obtain ⟨j, hj, rfl, rfl, ho, hb⟩ := hrel
        have hsz : B ≤ wr.heap.size := by rw [HBB.out]; exact hb.size
        have HO := hid ho
        have HBW := hid hb
        clear ho hb
        by_cases hlt : j < n
        · have hw := h.keep HBW.out
          obtain ⟨b1, off, rfl, hbB, c0, c1⟩ := hw.at_ hlt
          obtain ⟨y, hy⟩ : ∃ y, y = Sl.F a j := ⟨_, rfl⟩
          rw [← hy] at c1
          have hp1 : 1 ≤ y := by rw [hy]; exact Sl.F_pos HA.out (by rw [HL.out]; exact hlt)
          have hp2 : y ≤ 1048576 := by rw [hy]; exact Int.le_trans (Sl.F_end HA.out (by rw [HL.out]; exact hlt)) HA.out.1.2.1
          have hw1 : wrap64 (y - 1) = y - 1 := by simp only [wrap64]; omega
          have hji : (j : Int) < (n : Int) := by omega
          have HST : Hid (ints ([ae, be] ++ ahead a (j + 1)) = ints ([ae, be] ++ ahead a j) ++ (#[Value.int .i64 (y - 1)] : Array Value).toList) := by
            rw [ahead_succ, ← List.append_assoc, ints_snoc, ← hy]
            exact hid rfl
          clear hy hw c0
          go_wp2_with (at_builtin; refine stop_ (fun Ps hPs => ?_))
          refine hPs ?_
          clear hPs Ps
          refine wpList_app1 T56 (.tmp 37) (.tmp 44) rfl rfl HO.out rfl rfl rfl (by simp [Value.oneCell']) (by omega) hsz fun v' w3 ho3 hg hat => ?_
          have hb3 : Below B w w3 := below_append HBW.out HO.out hg hsz
          have HO3 := hid ho3
          clear hg hat ho3
          go_wp2_with fail
          go_roundg (n - (j + 1))
          case measure => omega
          case rel =>
            refine ⟨j + 1, by omega, rfl, by go_num, ?_, hb3⟩
            rw [HST.out]
            exact HO3.out
        · obtain rfl : j = n := by omega
          go_wp2_with fail
          go_loopg [11, 13] n' (fun k v i wr => ∃ (j' : Nat), j' ≤ n' ∧ k = n' - j' ∧ i = .int .i64 j' ∧ wr.ownsRow B 3 1 v (2 + j + j') (ints ([ae, be] ++ ahead a j ++ ahead b j')) ∧ Below B w wr)
          case atStart => exact ⟨0, by omega, rfl, rfl, by simpa [ahead] using HO.out, HBW.out⟩
          case round =>
            clear HO HBW hsz
            obtain ⟨j', hj', rfl, rfl, ho, hb⟩ := hrel
            have hsz : B ≤ wr.heap.size := by rw [HBB.out]; exact hb.size
            have HO := hid ho
            have HBW := hid hb
            clear ho hb
            by_cases hlt' : j' < n'
            · have hw := h'.keep HBW.out
              obtain ⟨b1, off, rfl, hbB, c0, c1⟩ := hw.at_ hlt'
              obtain ⟨y, hy⟩ : ∃ y, y = Sl.F b j' := ⟨_, rfl⟩
              rw [← hy] at c1
              have hp1 : 1 ≤ y := by rw [hy]; exact Sl.F_pos HB.out (by rw [HL'.out]; exact hlt')
              have hp2 : y ≤ 1048576 := by rw [hy]; exact Int.le_trans (Sl.F_end HB.out (by rw [HL'.out]; exact hlt')) HB.out.1.2.1
              have hw1 : wrap64 (y - 1) = y - 1 := by simp only [wrap64]; omega
              have hji : (j' : Int) < (n' : Int) := by omega
              have HST : Hid (ints ([ae, be] ++ ahead a j ++ ahead b (j' + 1)) = ints ([ae, be] ++ ahead a j ++ ahead b j') ++ (#[Value.int .i64 (y - 1)] : Array Value).toList) := by
                rw [ahead_succ, ← List.append_assoc, ints_snoc, ← hy]
                exact hid rfl
              clear hy hw c0
              go_wp2_with (at_builtin; refine stop_ (fun Ps hPs => ?_))
              refine hPs ?_
              clear hPs Ps
              refine wpList_app1 T56 (.tmp 52) (.tmp 59) rfl rfl HO.out rfl rfl rfl (by simp [Value.oneCell']) (by omega) hsz fun v' w3 ho3 hg hat => ?_
              have hb3 : Below B w w3 := below_append HBW.out HO.out hg hsz
              have HO3 := hid ho3
              clear hg hat ho3
              go_wp2_with fail
              go_roundg (n' - (j' + 1))
              case measure => omega
              case rel =>
                refine ⟨j' + 1, by omega, rfl, by go_num, ?_, hb3⟩
                rw [HST.out]
                exact HO3.out
            · obtain rfl : j' = n' := by omega
              obtain ⟨all, hall⟩ : ∃ l, l = [ae, be] ++ ahead a j ++ ahead b j' := ⟨_, rfl⟩
              have ho := HO.out
              rw [← hall] at ho
              obtain ⟨Av, cv, rfl, gv1, gv2⟩ := owned_slice ho
              have hra := Rd.of_own ho
              obtain ⟨m, hm⟩ : ∃ m, m = 2 + j + j' := ⟨_, rfl⟩
              rw [← hm] at hra ⊢
              have HM := hid hm
              have HALL := hid hall
              have hml : all.length = m := by rw [hall, hm]; simp [ahead_length]; omega
              have HML := hid hml
              have hm9 : m ≤ 300000 := by omega
              have hwa := h.keep HBW.out
              have hwb := h'.keep HBW.out
              have hZ : Hid (0 ≤ (0 : Int) ∧ (0 : Int) ≤ ae ∧ (0 : Int) ≤ be ∧ Sl.ep a 0 = Sl.ep b 0) := ⟨by omega, HA.out.1.1, HB.out.1.1, by rw [Sl.ep_zero HA.out, Sl.ep_zero HB.out]⟩
              clear HO ho hall hm hml gv1 gv2 hlt hlt'
              go_wp2_with fail
              go_loopg [14, 15] m (fun k g i wv => ∃ (p : Nat) (q : Int), p ≤ m ∧ k = m - p ∧ i = .int .i64 p ∧ g = .int .i64 q ∧ Hid (0 ≤ q ∧ q ≤ ae ∧ q ≤ be ∧ Sl.ep a q = Sl.ep b q) ∧ Hid (∀ i, i < p → ∀ y, all[i]? = some y → y ≤ ae → y ≤ be → Sl.ep a y = Sl.ep b y → y ≤ q) ∧ wv = wr)
              case atStart => exact ⟨0, 0, by omega, rfl, rfl, rfl, hZ, hid (fun i hi => absurd hi (Nat.not_lt_zero _)), rfl⟩
              case round =>
                obtain ⟨p, q, hp, rfl, rfl, rfl, hq, hgo, hwv⟩ := hrel
                subst hwv
                by_cases hpm : p < m
                · obtain ⟨bv, ov, u, rfl, hbv, hu, cv0⟩ := hra.at_ hpm
                  simp only [ints, List.getElem?_map, Option.map_eq_some_iff] at hu
                  obtain ⟨y, hy, rfl⟩ := hu
                  have HY := hid hy
                  have hpi : (p : Int) < (m : Int) := by omega
                  clear hy
                  have step : ∀ q' : Int, q ≤ q' → (y ≤ ae → y ≤ be → Sl.ep a y = Sl.ep b y → y ≤ q') → ∀ i, i < p + 1 → ∀ y, all[i]? = some y → y ≤ ae → y ≤ be → Sl.ep a y = Sl.ep b y → y ≤ q' := by
                    intro q' g1 g2 i hi y' g3 g4 g5 g6
                    rcases Nat.lt_or_ge i p with h9 | h9
                    · exact Int.le_trans (hgo.out i h9 y' g3 g4 g5 g6) g1
                    · obtain rfl : i = p := by omega
                      rw [HY.out] at g3
                      obtain rfl := Option.some.inj g3
                      exact g2 g4 g5 g6
                  have STEP := hid step
                  clear step
                  have hcs : y ≤ q ∨ (q < y ∧ ae < y) ∨ (q < y ∧ y ≤ ae ∧ be < y) ∨ (q < y ∧ y ≤ ae ∧ y ≤ be) := by omega
                  rcases hcs with g1 | ⟨g1, g2⟩ | ⟨g1, g2, g3⟩ | ⟨g1, g2, g3⟩
                  · have g9 : ¬q < y := by omega
                    have HS := hid (STEP.out q (Int.le_refl _) (fun _ _ _ => g1))
                    go_wp2_with fail
                    go_roundg (m - (p + 1))
                    case measure => omega
                    case rel => exact ⟨p + 1, q, by omega, rfl, by go_num, rfl, hq, HS, rfl⟩
                  · have g9 : ¬y ≤ ae := by omega
                    have HS := hid (STEP.out q (Int.le_refl _) (fun h1 _ _ => absurd h1 g9))
                    go_wp2_with fail
                    go_roundg (m - (p + 1))
                    case measure => omega
                    case rel => exact ⟨p + 1, q, by omega, rfl, by go_num, rfl, hq, HS, rfl⟩
                  · have g9 : ¬y ≤ be := by omega
                    have HS := hid (STEP.out q (Int.le_refl _) (fun _ h1 _ => absurd h1 g9))
                    go_wp2_with fail
                    go_roundg (m - (p + 1))
                    case measure => omega
                    case rel => exact ⟨p + 1, q, by omega, rfl, by go_num, rfl, hq, HS, rfl⟩
                  · have e1 := epoch35 A j c _ a y wr hwa (by omega)
                    have e2 := epoch35 A' j' c' _ b y wr hwb (by omega)
                    have HS := STEP.out
                    obtain ⟨x1, hx1⟩ : ∃ x, x = Sl.ep a y := ⟨_, rfl⟩
                    obtain ⟨x2, hx2⟩ : ∃ x, x = Sl.ep b y := ⟨_, rfl⟩
                    rw [← hx1] at e1 HS
                    rw [← hx2] at e2 HS
                    have X1 := hid hx1
                    have X2 := hid hx2
                    clear hx1 hx2
                    by_cases hee : x1 = x2
                    · have HS1 := hid (HS y (by omega) (fun _ _ _ => Int.le_refl _))
                      have HQ : Hid (0 ≤ y ∧ y ≤ ae ∧ y ≤ be ∧ Sl.ep a y = Sl.ep b y) := ⟨by have := hq.out.1; omega, g2, g3, by rw [← X1.out, ← X2.out]; exact hee⟩
                      have q9 : (x1 == x2) = true := by simp [hee]
                      clear HS hee
                      go_wp2_with (go_at_call 35; refine stop_ (fun Ps hPs => ?_))
                      refine hPs ?_
                      clear hPs Ps
                      refine e1.mono ?_
                      clear e1
                      rintro e' w9 ⟨rfl, rfl⟩
                      go_wp2_with (go_at_call 35; refine stop_ (fun Ps hPs => ?_))
                      refine hPs ?_
                      clear hPs Ps
                      refine e2.mono ?_
                      clear e2
                      rintro e' w9 ⟨rfl, rfl⟩
                      go_wp2_with fail
                      go_roundg (m - (p + 1))
                      case measure => omega
                      case rel => exact ⟨p + 1, y, by omega, rfl, by go_num, rfl, HQ, HS1, rfl⟩
                    · have HS1 := hid (HS q (Int.le_refl _) (fun _ _ h1 => absurd h1 hee))
                      have q9 : (x1 == x2) = false := by simp [hee]
                      clear HS hee
                      go_wp2_with (go_at_call 35; refine stop_ (fun Ps hPs => ?_))
                      refine hPs ?_
                      clear hPs Ps
                      refine e1.mono ?_
                      clear e1
                      rintro e' w9 ⟨rfl, rfl⟩
                      go_wp2_with (go_at_call 35; refine stop_ (fun Ps hPs => ?_))
                      refine hPs ?_
                      clear hPs Ps
                      refine e2.mono ?_
                      clear e2
                      rintro e' w9 ⟨rfl, rfl⟩
                      go_wp2_with fail
                      go_roundg (m - (p + 1))
                      case measure => omega
                      case rel => exact ⟨p + 1, q, by omega, rfl, by go_num, rfl, hq, HS1, rfl⟩
                · obtain rfl : p = m := by omega
                  have HF : Hid (FK a ae b be q 0) := .inl ⟨HA.out, HB.out, rfl, by
                    obtain ⟨z1, z2, z3, z4⟩ := hq.out
                    refine Sl.fork_best z1 z2 z3 z4 fun y hy g1 g2 g3 => ?_
                    have key : ∃ i, i < p ∧ all[i]? = some y := by
                      rw [HALL.out]
                      rcases hy with rfl | rfl | ⟨i, hi, rfl⟩ | ⟨i, hi, rfl⟩
                      · exact ⟨0, by have := HM.out; omega, rfl⟩
                      · exact ⟨1, by have := HM.out; omega, rfl⟩
                      · rw [HL.out] at hi
                        refine ⟨2 + i, by have := HM.out; omega, ?_⟩
                        rw [List.getElem?_append_left (by simp [ahead_length]; omega), List.getElem?_append_right (by simp)]
                        simp only [List.length_cons, List.length_nil]
                        rw [show 2 + i - (0 + 1 + 1) = i by omega]
                        exact ahead_get a j i hi
                      · rw [HL'.out] at hi
                        refine ⟨2 + j + i, by have := HM.out; omega, ?_⟩
                        rw [List.getElem?_append_right (by simp [ahead_length]; omega)]
                        simp only [List.length_append, List.length_cons, List.length_nil, ahead_length]
                        rw [show 2 + j + i - (0 + 1 + 1 + j) = i by omega]
                        exact ahead_get b j' i hi
                    obtain ⟨i, hi, hai⟩ := key
                    exact hgo.out i hi y hai g1 g2 g3⟩
                  go_wp2_with fail
                  go_ret2
                  exact ⟨q, 0, rfl, HF.out, by rw [← HBB.out]; exact HBW.out⟩
    · have HF : Hid (FK a ae b be 0 5) := .inr ⟨fun hq => hob hq.2, rfl, rfl⟩
      have HB := hid (chk_bad hob)
      clear hob
      go_enter Try.func17, Try.ntmps17
      go_wp2_with (go_at_call 19; refine stop_ (fun Ps hPs => ?_))
      refine hPs ?_
      clear hPs Ps
      refine hc.mono ?_
      clear hc
      rintro e' w1 ⟨rfl, hb1⟩
      have hc2 := check19 A' n' c' b be w1 ((h'.keep hb1).more hb1.size) (by omega)
      rw [HB.out] at hc2
      go_wp2_with (go_at_call 19; refine stop_ (fun Ps hPs => ?_))
      refine hPs ?_
      clear hPs Ps
      refine hc2.mono ?_
      clear hc2
      rintro e' w2 ⟨rfl, hb2⟩
      have hb := bl_trans hb1 hb2 hb1.size
      go_wp2_with fail
      go_ret2
      exact ⟨0, 5, rfl, HF.out, hb⟩
  · rw [chk_bad hoa] at hc
    have HF : Hid (FK a ae b be 0 5) := .inr ⟨fun hq => hoa hq.1, rfl, rfl⟩
    clear hoa
    go_enter Try.func17, Try.ntmps17
    go_wp2_with (go_at_call 19; refine hc.mono ?_; clear hc; rintro e' w1 ⟨rfl, hb⟩)
    go_ret2
    exact ⟨0, 5, rfl, HF.out, hb⟩
end Go.Proofs.Ytmlfbjcgmbdafaa
