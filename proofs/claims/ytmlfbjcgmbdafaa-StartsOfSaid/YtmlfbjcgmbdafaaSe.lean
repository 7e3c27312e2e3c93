/- Starts: both tellers of an epoch. -/
import Derived.Test.YtmlfbjcgmbdafaaSd
import Derived.Test.YtmlfbjcgmbdafaaSb
namespace Go.Proofs.Ytmlfbjcgmbdafaa
open Go.RowKit Go.Lg
set_option linter.unusedVariables false
set_option linter.unusedSimpArgs false

set_option maxHeartbeats 4000000 in
set_option maxRecDepth 100000 in
theorem epoch32 (A : Option Addr) (n c : Nat) (l : List (Int × Int)) (m e : Int) (w : World) (h : SS w w.heap.size A n l) (hn : n ≤ 140737488355328) (hok : Sl.ok l e) (hm : 1 ≤ m) (hme : m ≤ e) :
    Calls Try.prog 32 #[.slice A n c, .int .i64 m] w (Num (Sl.ep l m) w) := by
  have HL := hid h.2
  have hcp := Sl.pos_cnt hok (by omega) hme
  have hcl := Sl.cnt_le l m
  rw [h.2] at hcl
  have k0 := Blk.new w 22 #[.slice A n c]
  have k0 := k0.alloc (.cells #[.int .i64 m] 3)
  have k1 := Blk.new (w.alloc (.cells #[.slice A n c] 22)) 3 #[.int .i64 m]
  rw [World.size_alloc] at k1
  have hb := ((Below.refl w.heap.size w).alloc (Nat.le_refl _) (.cells #[.slice A n c] 22)).alloc (by simp) (.cells #[.int .i64 m] 3)
  obtain ⟨W, hW⟩ : ∃ W, W = (w.alloc (.cells #[.slice A n c] 22)).alloc (.cells #[.int .i64 m] 3) := ⟨_, rfl⟩
  rw [← hW] at k0 k1 hb
  have hs : SS W w.heap.size A n l := h.keep hb
  have hbx : Bx W w.heap.size A n c m := ⟨k0.cell 0, k1.cell 0⟩
  have hc := search47 w.heap.size A n c w.heap.size l m e W hs hbx hn hok
  obtain ⟨r, hr⟩ : ∃ r, r = Sl.cnt l m := ⟨_, rfl⟩
  rw [← hr] at hc hcl hcp
  obtain ⟨b, off, rfl, hbB, c0, c1⟩ := hs.at_ (j := r - 1) (by omega)
  have hep : Sl.ep l m = Sl.E l (r - 1) := Sl.ep_cnt (by omega)
  obtain ⟨x, hx⟩ : ∃ x, x = Sl.E l (r - 1) := ⟨_, rfl⟩
  rw [← hx] at c0
  have HX : Hid (x = Sl.ep l m) := by rw [hep, hx]; exact hid rfl
  have hr1 : wrap64 ((r : Int) - 1) = (r : Int) - 1 := by simp only [wrap64]; omega
  have hqn : (r : Int) - 1 < (n : Int) := by omega
  have hqp : (1 : Int) ≤ (r : Int) := by omega
  have hx0 := hbx.1
  have HB := hid hb
  clear hep hx hcp hr hb k0 k1 hbx c1
  go_enter Try.func32, Try.ntmps32
  go_wp2_with (go_at_call 47; refine stop_ (fun Ps hPs => ?_))
  refine hPs ?_
  clear hPs Ps
  rw [← hW]
  clear hW
  refine hc.mono ?_
  clear hc
  rintro e' w1 ⟨rfl, d, rfl⟩
  go_wp2_with fail
  go_ret
  exact ⟨rd_int HX.out, below_drewN HB.out d⟩

/-- An epoch told, or why not. -/
def at_ (l : List (Int × Int)) (e m : Int) : Int × Int := if Sl.ok l e then (if 0 ≤ m ∧ m ≤ e then (Sl.ep l m, 0) else (0, 2)) else (0, 5)
def Two (r : Int × Int) (w : World) (e : Ending) (w' : World) : Prop := e = .returned (.tuple #[.int .i64 r.1, .int .i64 r.2]) ∧ Below w.heap.size w w'
theorem two_eq {r : Int × Int} {a b : Int} {w w' : World} (h : r = (a, b)) (hb : Below w.heap.size w w') : Two r w (.returned (.tuple #[.int .i64 a, .int .i64 b])) w' := by
  subst h
  exact ⟨rfl, hb⟩

set_option maxHeartbeats 4000000 in
set_option maxRecDepth 100000 in
theorem at9 (A : Option Addr) (n c : Nat) (l : List (Int × Int)) (e m : Int) (w : World) (h : SS w w.heap.size A n l) (hn : n ≤ 140737488355328) :
    Calls Try.prog 9 #[.slice A n c, .int .i64 e, .int .i64 m] w (Two (at_ l e m) w) := by
  have hc := check11 A n c l e w h (by omega)
  by_cases hok : Sl.ok l e
  · rw [chk_ok hok] at hc
    have HOK := hid hok
    have hcs : m < 0 ∨ (0 ≤ m ∧ e < m) ∨ m = 0 ∨ (1 ≤ m ∧ m ≤ e) := by
      have := hok.1.1
      omega
    have he0 := hok.1.1
    clear hok
    rcases hcs with g1 | ⟨g1, g2⟩ | g1 | ⟨g1, g2⟩
    · have HR : Hid (at_ l e m = (0, 2)) := by
        unfold at_
        rw [if_pos HOK.out, if_neg (by omega)]
        exact hid rfl
      go_enter Try.func9, Try.ntmps9
      go_wp2_with (go_at_call 11; refine hc.mono ?_; clear hc; rintro e' w1 ⟨rfl, hb⟩)
      go_ret2
      exact two_eq HR.out hb
    · have HR : Hid (at_ l e m = (0, 2)) := by
        unfold at_
        rw [if_pos HOK.out, if_neg (by omega)]
        exact hid rfl
      go_enter Try.func9, Try.ntmps9
      go_wp2_with (go_at_call 11; refine hc.mono ?_; clear hc; rintro e' w1 ⟨rfl, hb⟩)
      go_ret2
      exact two_eq HR.out hb
    · have HR : Hid (at_ l e m = (0, 0)) := by
        unfold at_
        rw [if_pos HOK.out, if_pos (by omega), g1, Sl.ep_zero HOK.out]
        exact hid rfl
      have g2 : ¬m < 0 := by omega
      have g3 : ¬e < m := by omega
      have g4 : (m == 0) = true := by simp [g1]
      clear g1
      go_enter Try.func9, Try.ntmps9
      go_wp2_with (go_at_call 11; refine hc.mono ?_; clear hc; rintro e' w1 ⟨rfl, hb⟩)
      go_ret2
      exact two_eq HR.out hb
    · have HR : Hid (at_ l e m = (Sl.ep l m, 0)) := by
        unfold at_
        rw [if_pos HOK.out, if_pos (by omega)]
        exact hid rfl
      have g3 : ¬m < 0 := by omega
      have g4 : ¬e < m := by omega
      have g5 : (m == 0) = false := by simp; omega
      go_enter Try.func9, Try.ntmps9
      go_wp2_with (first | (go_at_call 11; refine hc.mono ?_; clear hc; rintro e' w1 ⟨rfl, hb⟩) | (go_at_call 32; refine (epoch32 A n c l m e w1 ((h.keep hb).more hb.size) hn HOK.out g1 g2).mono ?_; rintro e' w2 ⟨rfl, hb2⟩))
      go_ret2
      exact two_eq HR.out (bl_trans hb hb2 hb.size)
  · rw [chk_bad hok] at hc
    have HR : Hid (at_ l e m = (0, 5)) := by
      unfold at_
      rw [if_neg hok]
      exact hid rfl
    clear hok
    go_enter Try.func9, Try.ntmps9
    go_wp2_with (go_at_call 11; refine hc.mono ?_; clear hc; rintro e' w1 ⟨rfl, hb⟩)
    go_ret2
    exact two_eq HR.out hb

set_option maxHeartbeats 4000000 in
set_option maxRecDepth 100000 in
theorem at16 (A : Option Addr) (n c : Nat) (l : List (Int × Int)) (e m : Int) (w : World) (h : SS w w.heap.size A n l) (hn : n ≤ 140737488355328) :
    Calls Try.prog 16 #[.slice A n c, .int .i64 e, .int .i64 m] w (Two (at_ l e m) w) := by
  have hc := check19 A n c l e w h (by omega)
  by_cases hok : Sl.ok l e
  · rw [chk_ok hok] at hc
    have HOK := hid hok
    have hcs : m < 0 ∨ (0 ≤ m ∧ e < m) ∨ (0 ≤ m ∧ m ≤ e) := by omega
    clear hok
    rcases hcs with g1 | ⟨g1, g2⟩ | ⟨g1, g2⟩
    · have HR : Hid (at_ l e m = (0, 2)) := by
        unfold at_
        rw [if_pos HOK.out, if_neg (by omega)]
        exact hid rfl
      go_enter Try.func16, Try.ntmps16
      go_wp2_with (go_at_call 19; refine hc.mono ?_; clear hc; rintro e' w1 ⟨rfl, hb⟩)
      go_ret2
      exact two_eq HR.out hb
    · have HR : Hid (at_ l e m = (0, 2)) := by
        unfold at_
        rw [if_pos HOK.out, if_neg (by omega)]
        exact hid rfl
      go_enter Try.func16, Try.ntmps16
      go_wp2_with (go_at_call 19; refine hc.mono ?_; clear hc; rintro e' w1 ⟨rfl, hb⟩)
      go_ret2
      exact two_eq HR.out hb
    · have HR : Hid (at_ l e m = (Sl.ep l m, 0)) := by
        unfold at_
        rw [if_pos HOK.out, if_pos (by omega)]
        exact hid rfl
      have g3 : ¬m < 0 := by omega
      have g4 : ¬e < m := by omega
      go_enter Try.func16, Try.ntmps16
      go_wp2_with (first | (go_at_call 19; refine hc.mono ?_; clear hc; rintro e' w1 ⟨rfl, hb⟩) | (go_at_call 35; refine (epoch35 A n c _ l m w1 (h.keep hb) (by omega)).mono ?_; rintro e' w2 ⟨rfl, rfl⟩))
      go_ret2
      exact two_eq HR.out hb
  · rw [chk_bad hok] at hc
    have HR : Hid (at_ l e m = (0, 5)) := by
      unfold at_
      rw [if_neg hok]
      exact hid rfl
    clear hok
    go_enter Try.func16, Try.ntmps16
    go_wp2_with (go_at_call 19; refine hc.mono ?_; clear hc; rintro e' w1 ⟨rfl, hb⟩)
    go_ret2
    exact two_eq HR.out hb
end Go.Proofs.Ytmlfbjcgmbdafaa
