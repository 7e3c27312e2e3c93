/- Starts: where two logs part, the program's way. -/
import Derived.Test.YtmlfbjcgmbdafaaSe
import Derived.WalkMore
namespace Go.Proofs.Ytmlfbjcgmbdafaa
open Go.RowKit Go.Lg
set_option linter.unusedVariables false
set_option linter.unusedSimpArgs false

/-- What a fork is told to be. -/
def FK (a : List (Int × Int)) (ae : Int) (b : List (Int × Int)) (be x k : Int) : Prop :=
  (Sl.ok a ae ∧ Sl.ok b be ∧ k = 0 ∧ Sl.Fork a ae b be x) ∨ (¬(Sl.ok a ae ∧ Sl.ok b be) ∧ x = 0 ∧ k = 5)
theorem fk_one {a b : List (Int × Int)} {ae be x k x' k' : Int} (h : FK a ae b be x k) (h' : FK a ae b be x' k') : x' = x ∧ k' = k := by
  rcases h with ⟨h1, h2, rfl, h4⟩ | ⟨h1, rfl, rfl⟩
  · rcases h' with ⟨g1, g2, rfl, g4⟩ | ⟨g1, rfl, rfl⟩
    · exact ⟨Sl.fork_one g4 h4, rfl⟩
    · exact absurd ⟨h1, h2⟩ g1
  · rcases h' with ⟨g1, g2, rfl, g4⟩ | ⟨g1, rfl, rfl⟩
    · exact absurd ⟨g1, g2⟩ h1
    · exact ⟨rfl, rfl⟩
def Forked (a : List (Int × Int)) (ae : Int) (b : List (Int × Int)) (be : Int) (w : World) (e : Ending) (w' : World) : Prop :=
  ∃ x k, e = .returned (.tuple #[.int .i64 x, .int .i64 k]) ∧ FK a ae b be x k ∧ Below w.heap.size w w'

set_option maxHeartbeats 8000000 in
set_option maxRecDepth 100000 in
theorem fork10 (A A' : Option Addr) (n c n' c' : Nat) (a b : List (Int × Int)) (ae be : Int) (w : World) (h : SS w w.heap.size A n a) (h' : SS w w.heap.size A' n' b) (hn : n ≤ 140737488355328) (hn' : n' ≤ 140737488355328) :
    Calls Try.prog 10 #[.slice A n c, .int .i64 ae, .slice A' n' c', .int .i64 be] w (Forked a ae b be w) := by
  have hc := check11 A n c a ae w h (by omega)
  by_cases hoa : Sl.ok a ae
  · rw [chk_ok hoa] at hc
    by_cases hob : Sl.ok b be
    · have HA := hid hoa
      have HB := hid hob
      have HL := hid h.2
      have HL' := hid h'.2
      clear hoa hob
      go_enter Try.func10, Try.ntmps10
      go_wp2_with fail
      go_step3
      go_wp2_with (go_at_call 11; refine stop_ (fun Ps hPs => ?_))
      refine hPs ?_
      clear hPs Ps
      refine hc.mono ?_
      clear hc
      rintro e' w1 ⟨rfl, hb1⟩
      have hc2 := check11 A' n' c' b be w1 ((h'.keep hb1).more hb1.size) (by omega)
      rw [chk_ok HB.out] at hc2
      go_wp2_with (go_at_call 11; refine stop_ (fun Ps hPs => ?_))
      refine hPs ?_
      clear hPs Ps
      refine hc2.mono ?_
      clear hc2
      rintro e' w2 ⟨rfl, hb2⟩
      have hb := bl_trans hb1 hb2 hb1.size
      clear hb1 hb2
      go_wp2_with fail
      go_step3
      go_wp2_with fail
      go_loopg [12, 13, 14] (n + n') (fun g f x y wr => ∃ (i k : Nat) (q : Int), i ≤ n ∧ k ≤ n' ∧ g = (n - i) + (n' - k) ∧ f = .int .i64 q ∧ x = .int .i64 i ∧ y = .int .i64 k ∧ Hid (Sl.Sofar a ae b be i k q) ∧ Below w.heap.size w wr)
      case atStart => exact ⟨0, 0, 0, by omega, by omega, by omega, rfl, rfl, rfl, Sl.sofar_start HA.out HB.out, hb⟩
      case round =>
        clear hb
        obtain ⟨i, k, q, hi, hk, rfl, rfl, rfl, rfl, hso, hb⟩ := hrel
        by_cases hd : i = n ∨ k = n'
        · have HF : Hid (FK a ae b be q 0) := .inl ⟨HA.out, HB.out, rfl, Sl.sofar_end hso.out (by rw [HL.out, HL'.out]; omega)⟩
          by_cases hin : i = n
          · have q1 : ((i : Int) == (n : Int)) = true := by simp [hin]
            clear hd hin
            go_wp2_with fail
            first | go_ret2 | (rw [Exit.noGoto_ret]; go_ret2)
            exact ⟨q, 0, rfl, HF.out, hb⟩
          · have q1 : ((i : Int) == (n : Int)) = false := by simp; omega
            have q2 : ((k : Int) == (n' : Int)) = true := by simp; omega
            clear hd hin
            go_wp2_with fail
            first | go_ret2 | (rw [Exit.noGoto_ret]; go_ret2)
            exact ⟨q, 0, rfl, HF.out, hb⟩
        · have q1 : ((i : Int) == (n : Int)) = false := by simp; omega
          have q2 : ((k : Int) == (n' : Int)) = false := by simp; omega
          have hin : i < n := by omega
          have hkn : k < n' := by omega
          have hin' : (i : Int) < (n : Int) := by omega
          have hkn' : (k : Int) < (n' : Int) := by omega
          have hw := h.keep hb
          have hw' := h'.keep hb
          obtain ⟨b1, o1, rfl, _, c0, c1⟩ := hw.at_ hin
          obtain ⟨b2, o2, rfl, _, d0, d1⟩ := hw'.at_ hkn
          obtain ⟨u1, hu1⟩ : ∃ u, u = Sl.E a i := ⟨_, rfl⟩
          obtain ⟨v1, hv1⟩ : ∃ u, u = Sl.F a i := ⟨_, rfl⟩
          obtain ⟨u2, hu2⟩ : ∃ u, u = Sl.E b k := ⟨_, rfl⟩
          obtain ⟨v2, hv2⟩ : ∃ u, u = Sl.F b k := ⟨_, rfl⟩
          rw [← hu1] at c0
          rw [← hv1] at c1
          rw [← hu2] at d0
          rw [← hv2] at d1
          have U1 := hid hu1
          have V1 := hid hv1
          have U2 := hid hu2
          have V2 := hid hv2
          have BB := hid hb
          clear hu1 hv1 hu2 hv2 hb hd
          rcases Int.lt_trichotomy u1 u2 with hlt | heq | hlt
          · have HS : Hid (Sl.Sofar a ae b be (i + 1) k q) := Sl.sofar_left HA.out HB.out (by rw [HL.out]; exact hin) (by rw [← U1.out, ← U2.out]; exact hlt) hso.out
            clear hw hw'
            go_wp2_with fail
            go_quiet (fail)
            go_wp2_with fail
            go_roundg (n - (i + 1) + (n' - k))
            case measure => omega
            case rel => exact ⟨i + 1, k, q, by omega, by omega, rfl, rfl, by go_num, rfl, HS, below_drewN BB.out nq⟩
          · have HS := hid (Sl.sofar_both HA.out HB.out (by rw [HL.out]; exact hin) (by rw [HL'.out]; exact hkn) (by rw [← U1.out, ← U2.out]; exact heq) hso.out)
            have hl1 : ∀ W, Below w.heap.size w W → Calls Try.prog 33 #[.slice (some ⟨b1, o1, none⟩) n c, .int .i64 ae, .int .i64 i] W fun e' w' => e' = .returned (.int .i64 (Sl.last a ae i)) ∧ w' = W := fun W hW =>
              last33 _ n c _ a ae i W (h.keep hW) hn hin (fun h9 => ⟨Sl.F_pos HA.out (by rw [HL.out]; exact h9), Int.le_trans (Sl.F_end HA.out (by rw [HL.out]; exact h9)) HA.out.1.2.1⟩)
            have hl2 : ∀ W, Below w.heap.size w W → Calls Try.prog 33 #[.slice (some ⟨b2, o2, none⟩) n' c', .int .i64 be, .int .i64 k] W fun e' w' => e' = .returned (.int .i64 (Sl.last b be k)) ∧ w' = W := fun W hW =>
              last33 _ n' c' _ b be k W (h'.keep hW) hn' hkn (fun h9 => ⟨Sl.F_pos HB.out (by rw [HL'.out]; exact h9), Int.le_trans (Sl.F_end HB.out (by rw [HL'.out]; exact h9)) HB.out.1.2.1⟩)
            obtain ⟨la, hla⟩ : ∃ x, x = Sl.last a ae i := ⟨_, rfl⟩
            obtain ⟨lb, hlb⟩ : ∃ x, x = Sl.last b be k := ⟨_, rfl⟩
            have HS2 : Hid (Sl.Sofar a ae b be (i + 1) (k + 1) (if max v1 v2 ≤ min la lb then min la lb else q)) := by rw [hla, hlb, V1.out, V2.out]; exact HS
            rw [← hla] at hl1
            rw [← hlb] at hl2
            have HL1 := hid hl1
            have HL2 := hid hl2
            have hge : ¬u1 < u2 := by omega
            have hge2 : ¬u2 < u1 := by omega
            clear hw hw' heq hla hlb hl1 hl2 HS
            go_wp2_with fail
            go_quiet (fail)
            go_wp2_with fail
            go_quiet (fail)
            go_wp2_with fail
            generalize hwx : World.drewN (World.drewN wr _) _ = wx
            have e1 : wx.cell? ⟨b1, o1 + i * 2 + 1, none⟩ = some (.int .i64 v1) := by rw [← hwx]; exact c1
            have e2 : wx.cell? ⟨b2, o2 + k * 2 + 1, none⟩ = some (.int .i64 v2) := by rw [← hwx]; exact d1
            have BX : Hid (Below w.heap.size w wx) := by rw [← hwx]; exact below_drewN (below_drewN BB.out _) _
            clear hwx c0 c1 d0 d1
            go_quiet (first | (go_at_call 33; with_reducible exact Calls.quiet_of_same (HL1.out _ (below_drewN BX.out _))) | (go_at_call 33; with_reducible exact Calls.quiet_of_same (HL2.out _ (below_drewN BX.out _))))
            generalize hfr : (if v1 < v2 then v2 else v1) = fr
            generalize hto : (if lb < la then lb else la) = to
            have HF2 : Hid (max v1 v2 = fr) := by
              rw [← hfr]
              show max v1 v2 = _
              split <;> omega
            have HT2 : Hid (min la lb = to) := by
              rw [← hto]
              show min la lb = _
              split <;> omega
            clear hfr hto e1 e2
            by_cases hr : fr ≤ to
            · have HS3 : Hid (Sl.Sofar a ae b be (i + 1) (k + 1) to) := by
                have h9 := HS2.out
                rw [HF2.out, HT2.out, if_pos hr] at h9
                exact h9
              go_wp2_with fail
              go_roundg (n - (i + 1) + (n' - (k + 1)))
              case measure => omega
              case rel => exact ⟨i + 1, k + 1, to, by omega, by omega, rfl, rfl, by go_num, by go_num, HS3, below_drewN BX.out _⟩
            · have HS3 : Hid (Sl.Sofar a ae b be (i + 1) (k + 1) q) := by
                have h9 := HS2.out
                rw [HF2.out, HT2.out, if_neg hr] at h9
                exact h9
              go_wp2_with fail
              go_roundg (n - (i + 1) + (n' - (k + 1)))
              case measure => omega
              case rel => exact ⟨i + 1, k + 1, q, by omega, by omega, rfl, rfl, by go_num, by go_num, HS3, below_drewN BX.out _⟩
          · have HS : Hid (Sl.Sofar a ae b be i (k + 1) q) := Sl.sofar_right HA.out HB.out (by rw [← U1.out, ← U2.out]; exact hlt) hso.out
            have hge : ¬u1 < u2 := by omega
            clear hw hw'
            go_wp2_with fail
            go_quiet (fail)
            go_wp2_with fail
            go_quiet (fail)
            go_wp2_with fail
            go_roundg (n - i + (n' - (k + 1)))
            case measure => omega
            case rel => exact ⟨i, k + 1, q, by omega, by omega, rfl, rfl, rfl, by go_num, HS, by first | exact below_drewN BB.out _ | exact below_drewN (below_drewN BB.out _) _⟩
    · have HF : Hid (FK a ae b be 0 5) := .inr ⟨fun hq => hob hq.2, rfl, rfl⟩
      have HB := hid (chk_bad hob)
      clear hob
      go_enter Try.func10, Try.ntmps10
      go_wp2_with fail
      go_step3
      go_wp2_with (go_at_call 11; refine stop_ (fun Ps hPs => ?_))
      refine hPs ?_
      clear hPs Ps
      refine hc.mono ?_
      clear hc
      rintro e' w1 ⟨rfl, hb1⟩
      have hc2 := check11 A' n' c' b be w1 ((h'.keep hb1).more hb1.size) (by omega)
      rw [HB.out] at hc2
      go_wp2_with (go_at_call 11; refine stop_ (fun Ps hPs => ?_))
      refine hPs ?_
      clear hPs Ps
      refine hc2.mono ?_
      clear hc2
      rintro e' w2 ⟨rfl, hb2⟩
      have hb := bl_trans hb1 hb2 hb1.size
      go_wp2_with fail
      first | go_ret2 | (rw [Exit.noGoto_ret]; go_ret2)
      exact ⟨0, 5, rfl, HF.out, hb⟩
  · rw [chk_bad hoa] at hc
    have HF : Hid (FK a ae b be 0 5) := .inr ⟨fun hq => hoa hq.1, rfl, rfl⟩
    clear hoa
    go_enter Try.func10, Try.ntmps10
    go_wp2_with fail
    go_step3
    go_wp2_with (go_at_call 11; refine hc.mono ?_; clear hc; rintro e' w1 ⟨rfl, hb⟩)
    first | go_ret2 | (rw [Exit.noGoto_ret]; go_ret2)
    exact ⟨0, 5, rfl, HF.out, hb⟩
end Go.Proofs.Ytmlfbjcgmbdafaa
