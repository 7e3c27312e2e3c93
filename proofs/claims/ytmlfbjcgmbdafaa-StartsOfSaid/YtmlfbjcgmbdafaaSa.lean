/- Starts: checking them. -/
import Derived.Test.YtmlfbjcgmbdafaaProg
import Derived.Test.YtmlfbjcgmbdafaaBase
import Derived.Test.YtmlfbjcgmbdafaaPl
namespace Go.Proofs.Ytmlfbjcgmbdafaa
open Go.RowKit Go.Lg
set_option linter.unusedVariables false
set_option linter.unusedSimpArgs false

/-- Starts as cells. -/
def sts (l : List (Int × Int)) : List Value := l.flatMap fun s => [.int .i64 s.1, .int .i64 s.2]
theorem sts_get : ∀ (l : List (Int × Int)) (j : Nat), j < l.length → (sts l)[j * 2]? = some (.int .i64 (Sl.E l j)) ∧ (sts l)[j * 2 + 1]? = some (.int .i64 (Sl.F l j))
  | [], j, h => absurd h (Nat.not_lt_zero _)
  | a :: l, 0, _ => ⟨rfl, rfl⟩
  | a :: l, j + 1, h => by
    have e1 : sts (a :: l) = [.int .i64 a.1, .int .i64 a.2] ++ sts l := rfl
    have e2 : (j + 1) * 2 = j * 2 + 1 + 1 := by omega
    have h1 := sts_get l j (by simpa using h)
    rw [e1, e2]
    exact h1
theorem sts_length (l : List (Int × Int)) : (sts l).length = l.length * 2 := by
  induction l with
  | nil => rfl
  | cons a l ih =>
    have e1 : sts (a :: l) = [.int .i64 a.1, .int .i64 a.2] ++ sts l := rfl
    rw [e1, List.length_append, ih]
    simp
    omega
theorem sts_append (a b : List (Int × Int)) : sts (a ++ b) = sts a ++ sts b := by simp [sts]
/-- Starts that are there. -/
def SS (w : World) (B : Nat) (A : Option Addr) (n : Nat) (l : List (Int × Int)) : Prop := Rd w B 2 A n (sts l) ∧ l.length = n
theorem SS.at_ {w : World} {B n : Nat} {A : Option Addr} {l : List (Int × Int)} {j : Nat} (h : SS w B A n l) (hj : j < n) :
    ∃ b off, A = some ⟨b, off, none⟩ ∧ b < B ∧ w.cell? ⟨b, off + j * 2, none⟩ = some (.int .i64 (Sl.E l j)) ∧ w.cell? ⟨b, off + j * 2 + 1, none⟩ = some (.int .i64 (Sl.F l j)) := by
  obtain ⟨h1, h2⟩ := h
  obtain ⟨b, off, rfl, hb, hc⟩ := h1.2 (by omega)
  obtain ⟨g1, g2⟩ := sts_get l j (by omega)
  exact ⟨b, off, rfl, hb, hc _ _ g1, by have := hc _ _ g2; rwa [← Nat.add_assoc] at this⟩
theorem SS.keep {w w' : World} {B n : Nat} {A : Option Addr} {l : List (Int × Int)} (h : SS w B A n l) (hb : Below B w w') : SS w' B A n l := ⟨h.1.below hb, h.2⟩
theorem SS.more {w : World} {B B' n : Nat} {A : Option Addr} {l : List (Int × Int)} (h : SS w B A n l) (hb : B ≤ B') : SS w B' A n l := ⟨h.1.more hb, h.2⟩
def Num (n : Int) (w : World) (e : Ending) (w' : World) : Prop := e = .returned (.int .i64 n) ∧ Below w.heap.size w w'
theorem bl_trans {B : Nat} {a b c : World} (h : Below B a b) (k : Below b.heap.size b c) (hB : B ≤ b.heap.size) : Below B a c :=
  h.trans (k.mono hB)
theorem chk_bad {l : List (Int × Int)} {e : Int} (h : ¬Sl.ok l e) : Sl.chk l e = 5 := if_neg h
theorem chk_ok {l : List (Int × Int)} {e : Int} (h : Sl.ok l e) : Sl.chk l e = 0 := if_pos h
theorem num_eq {n m : Int} {w w' : World} (h : n = m) (hb : Below w.heap.size w w') : Num m w (.returned (.int .i64 n)) w' := ⟨by rw [h], hb⟩

set_option maxHeartbeats 4000000 in
set_option maxRecDepth 100000 in
theorem check11 (A : Option Addr) (n c : Nat) (l : List (Int × Int)) (e : Int) (w : World) (h : SS w w.heap.size A n l) (hn : n ≤ 9223372036854775807) :
    Calls Try.prog 11 #[.slice A n c, .int .i64 e] w (Num (Sl.chk l e) w) := by
  have HL := hid h.2
  by_cases hh : Sl.head l e
  · obtain ⟨h1, h2, h3⟩ := hh
    rw [h.2] at h3
    have HH : Hid (Sl.head l e) := ⟨h1, h2, by rw [HL.out]; exact h3⟩
    have f1 : ¬e < 0 := by omega
    have f2 : ¬1048576 < e := by omega
    have f3 : ((n : Int) == 0) = (e == 0) := by
      rw [Bool.eq_iff_iff]
      simp only [beq_iff_eq]
      omega
    have hb := (Below.refl w.heap.size w).alloc (Nat.le_refl _) (.cells #[.int .i64 0, .int .i64 0] 58)
    have kl := Blk.new w 58 #[.int .i64 0, .int .i64 0]
    go_enter Try.func11, Try.ntmps11
    go_wp2_with fail
    obtain ⟨W, hW⟩ : ∃ W, W = w.alloc (.cells #[.int .i64 0, .int .i64 0] 58) := ⟨_, rfl⟩
    rw [← hW] at kl hb ⊢
    clear hW
    go_loopg [25] n (fun k i wr => ∃ (j : Nat) (x y : Int), j ≤ n ∧ k = n - j ∧ i = .int .i64 j ∧ Hid (x = (if j = 0 then 0 else Sl.E l (j - 1))) ∧ Hid (y = (if j = 0 then 0 else Sl.F l (j - 1))) ∧ Hid (∀ i, i < j → Sl.good l e i) ∧ Below w.heap.size w wr ∧ Blk wr w.heap.size 58 #[.int .i64 x, .int .i64 y])
    case atStart => exact ⟨0, 0, 0, by omega, rfl, rfl, hid rfl, hid rfl, hid (fun i hi => absurd hi (Nat.not_lt_zero _)), hb, kl⟩
    case round =>
      clear hb kl
      obtain ⟨j, x, y, hj, rfl, rfl, hx, hy, hgo, hb, kl⟩ := hrel
      by_cases hlt : j < n
      · have hw := h.keep hb
        obtain ⟨b, off, rfl, hbB, c0, c1⟩ := hw.at_ hlt
        obtain ⟨u, hu⟩ : ∃ u, u = Sl.E l j := ⟨_, rfl⟩
        obtain ⟨v, hv⟩ : ∃ v, v = Sl.F l j := ⟨_, rfl⟩
        rw [← hu] at c0
        rw [← hv] at c1
        have hji : (j : Int) < (n : Int) := by omega
        have HU := hid hu
        have HV := hid hv
        have HB := hid hb
        have HK := hid kl
        have kl2 := kl.alloc (.cells #[.int .i64 u, .int .i64 v] 58)
        have ks := Blk.new wr 58 #[.int .i64 u, .int .i64 v]
        have l0 : (wr.alloc (.cells #[.int .i64 u, .int .i64 v] 58)).cell? ⟨w.heap.size, 0, none⟩ = some (.int .i64 x) := kl2.cell 0
        have l1 : (wr.alloc (.cells #[.int .i64 u, .int .i64 v] 58)).cell? ⟨w.heap.size, 1, none⟩ = some (.int .i64 y) := kl2.cell 1
        have s0 : (wr.alloc (.cells #[.int .i64 u, .int .i64 v] 58)).cell? ⟨wr.heap.size, 0, none⟩ = some (.int .i64 u) := ks.cell 0
        have s1 : (wr.alloc (.cells #[.int .i64 u, .int .i64 v] 58)).cell? ⟨wr.heap.size, 1, none⟩ = some (.int .i64 v) := ks.cell 1
        have lf0 := kl2.frozen 0
        have m0 : wr.cell? ⟨w.heap.size, 0, none⟩ = some (.int .i64 x) := kl.cell 0
        have m1 : wr.cell? ⟨w.heap.size, 1, none⟩ = some (.int .i64 y) := kl.cell 1
        have lf1 : ((wr.setCell ⟨w.heap.size, 0, none⟩ (.int .i64 u)).alloc (.cells #[.int .i64 u, .int .i64 v] 58)).frozen? ⟨w.heap.size, 1, none⟩ = false := ((kl.set_ 0 (.int .i64 u)).alloc _).frozen 1
        have hlt9 : w.heap.size < wr.heap.size := kl.lt
        have hlt9' : w.heap.size ≤ wr.heap.size := Nat.le_of_lt hlt9
        clear hu hv hb kl kl2 ks hw
        by_cases hg : x < u ∧ u ≤ 1048576 ∧ y < v ∧ v ≤ e ∧ (j = 0 → v = 1)
        · obtain ⟨g1, g2, g3, g4, g5⟩ := hg
          have g1' : ¬u ≤ x := by omega
          have g2' : ¬1048576 < u := by omega
          have g3' : ¬v ≤ y := by omega
          have g4' : ¬e < v := by omega
          have HG := hid g5
          by_cases hj0 : j = 0
          · have q1 : ((j : Int) == 0) = true := by simp [hj0]
            have q2 : (v == 1) = true := by simp [g5 hj0]
            have q3 : (v != 1) = false := by simp [g5 hj0]
            clear g5 hj0
            go_wp2_with fail
            go_roundg (n - (j + 1))
            case measure => omega
            case rel =>
              refine ⟨j + 1, u, v, by omega, rfl, by go_num, hid (by simpa using HU.out), hid (by simpa using HV.out), hid ?_, ?_, ?_⟩
              · intro i hi
                rcases Nat.lt_or_ge i j with h9 | h9
                · exact hgo.out i h9
                · obtain rfl : i = j := by omega
                  exact ⟨by rw [← hx.out, ← HU.out]; exact g1, by rw [← HU.out]; exact g2, by rw [← hy.out, ← HV.out]; exact g3, by rw [← HV.out]; exact g4, by rw [← HV.out]; exact HG.out⟩
              · exact ((HB.out.setCell (p := ⟨w.heap.size, 0, none⟩) (Nat.le_refl _) _).setCell (p := ⟨w.heap.size, 1, none⟩) (Nat.le_refl _) _).alloc (by simpa using hlt9') _
              · exact ((HK.out.set_ 0 _).set_ 1 _).alloc _
          · have q1 : ((j : Int) == 0) = false := by simp [hj0]
            clear g5 hj0
            go_wp2_with fail
            go_roundg (n - (j + 1))
            case measure => omega
            case rel =>
              refine ⟨j + 1, u, v, by omega, rfl, by go_num, hid (by simpa using HU.out), hid (by simpa using HV.out), hid ?_, ?_, ?_⟩
              · intro i hi
                rcases Nat.lt_or_ge i j with h9 | h9
                · exact hgo.out i h9
                · obtain rfl : i = j := by omega
                  exact ⟨by rw [← hx.out, ← HU.out]; exact g1, by rw [← HU.out]; exact g2, by rw [← hy.out, ← HV.out]; exact g3, by rw [← HV.out]; exact g4, by rw [← HV.out]; exact HG.out⟩
              · exact ((HB.out.setCell (p := ⟨w.heap.size, 0, none⟩) (Nat.le_refl _) _).setCell (p := ⟨w.heap.size, 1, none⟩) (Nat.le_refl _) _).alloc (by simpa using hlt9') _
              · exact ((HK.out.set_ 0 _).set_ 1 _).alloc _
        · have hbad : ¬Sl.ok l e := fun hk => hg (by
            have h9 := hk.2 j (by rw [HL.out]; exact hlt)
            unfold Sl.good at h9
            rw [← hx.out, ← hy.out, ← HU.out, ← HV.out] at h9
            exact h9)
          have HBAD := hid (chk_bad hbad)
          clear hbad
          have hcs : u ≤ x ∨ (¬u ≤ x ∧ 1048576 < u) ∨ (¬u ≤ x ∧ ¬1048576 < u ∧ v ≤ y) ∨ (¬u ≤ x ∧ ¬1048576 < u ∧ ¬v ≤ y ∧ e < v) ∨ (¬u ≤ x ∧ ¬1048576 < u ∧ ¬v ≤ y ∧ ¬e < v ∧ ((j : Int) == 0) = true ∧ (v != 1) = true) := by
            simp only [beq_iff_eq, bne_iff_ne]
            omega
          clear hg
          rcases hcs with g1 | ⟨g1, g2⟩ | ⟨g1, g2, g3⟩ | ⟨g1, g2, g3, g4⟩ | ⟨g1, g2, g3, g4, g5, g6⟩
          all_goals
            go_wp2_with fail
            go_ret
            exact num_eq HBAD.out.symm (HB.out.alloc hlt9' _)
      · obtain rfl : j = n := by omega
        have HOK : Hid (Sl.chk l e = 0) := chk_ok ⟨HH.out, fun i hi => hgo.out i (by rw [← HL.out]; exact hi)⟩
        go_wp2_with fail
        go_ret
        exact num_eq HOK.out.symm hb
  · have hb : ¬Sl.ok l e := fun hk => hh hk.1
    have HB := hid (chk_bad hb)
    clear hb
    have hc : e < 0 ∨ (¬e < 0 ∧ 1048576 < e) ∨ (¬e < 0 ∧ ¬1048576 < e ∧ ((n : Int) == 0) = true ∧ (e == 0) = false) ∨ (¬e < 0 ∧ ¬1048576 < e ∧ ((n : Int) == 0) = false ∧ (e == 0) = true) := by
      unfold Sl.head at hh
      rw [h.2] at hh
      simp only [beq_iff_eq, beq_eq_false_iff_ne]
      omega
    clear hh
    rcases hc with f1 | ⟨f1, f2⟩ | ⟨f1, f2, f3, f4⟩ | ⟨f1, f2, f3, f4⟩
    all_goals
      go_enter Try.func11, Try.ntmps11
      go_wp2_with fail
      go_ret
      exact num_eq HB.out.symm (Below.refl _ _)
end Go.Proofs.Ytmlfbjcgmbdafaa
