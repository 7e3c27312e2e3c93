/- Starts that grow. -/
import Derived.Test.YtmlfbjcgmbdafaaSq
import Derived.Test.YtmlfbjcgmbdafaaSh
namespace Go.Proofs.Ytmlfbjcgmbdafaa
open Go.RowKit Go.Lg
set_option linter.unusedVariables false
set_option linter.unusedSimpArgs false

/-- Starts with a commit behind. -/
def gr (l : List (Int × Int)) (ep num : Int) : List (Int × Int) := if 0 < l.length ∧ Sl.E l (l.length - 1) = ep then l else l ++ [(ep, num)]
/-- A list of starts in memory of the call's own. -/
def Own (B : Nat) (l : List (Int × Int)) (w : World) (e : Ending) (w' : World) : Prop := ∃ v, e = .returned v ∧ w'.ownsRow B 58 2 v l.length (sts l) ∧ Below B w w'
theorem own_eq {B n : Nat} {l l2 : List (Int × Int)} {v : Value} {w w' : World} (h : l = l2) (hn : n = l2.length) (ho : w'.ownsRow B 58 2 v n (sts l2)) (hb : Below B w w') : Own B l w (.returned v) w' := by
  subst h hn
  exact ⟨_, rfl, ho, hb⟩

set_option maxHeartbeats 2000000 in
set_option maxRecDepth 100000 in
theorem grown38 (B : Nat) (v : Value) (n : Nat) (l : List (Int × Int)) (m : Cm) (w : World) (ho : w.ownsRow B 58 2 v n (sts l)) (hl : l.length = n) (hB : B ≤ w.heap.size) (hn : n ≤ 100000) :
    Calls Try.prog 38 #[v, m.v] w (Own B (gr l m.ep m.num) w) := by
  obtain ⟨me, mn, Ao, no, co, os⟩ := m
  obtain ⟨A, c, rfl, g1, g2⟩ := owned_slice ho
  have hs : SS w w.heap.size A n l := ⟨Rd.of_own ho, hl⟩
  have kb := Blk.new w 40 #[.int .i64 me, .int .i64 mn, .slice Ao no co]
  have hb1 := (Below.refl B w).alloc hB (.cells #[.int .i64 me, .int .i64 mn, .slice Ao no co] 40)
  have ho1 := ho.alloc (.cells #[.int .i64 me, .int .i64 mn, .slice Ao no co] 40)
  obtain ⟨W, hW⟩ : ∃ W, W = w.alloc (.cells #[.int .i64 me, .int .i64 mn, .slice Ao no co] 40) := ⟨_, rfl⟩
  have hs1 := hs.keep ((Below.refl w.heap.size w).alloc (Nat.le_refl _) (.cells #[.int .i64 me, .int .i64 mn, .slice Ao no co] 40))
  rw [← hW] at kb hb1 ho1 hs1
  have b0 : W.cell? ⟨w.heap.size, 0, none⟩ = some (.int .i64 me) := kb.cell 0
  have b1 : W.cell? ⟨w.heap.size, 1, none⟩ = some (.int .i64 mn) := kb.cell 1
  have HO := hid ho1
  have HB1 := hid hb1
  have hBW : B ≤ W.heap.size := by rw [hW]; simp; omega
  have HL := hid hl
  clear kb hb1 ho1 ho hl
  by_cases hc : 0 < n ∧ Sl.E l (n - 1) = me
  · have HR : Hid (gr l me mn = l) := by unfold gr; rw [HL.out, if_pos hc]; exact hid rfl
    obtain ⟨h1, h2⟩ := hc
    obtain ⟨b, off, rfl, hbB, c0, c1⟩ := hs1.at_ (j := n - 1) (by omega)
    rw [h2] at c0
    have d1 : decide ((0 : Int) < (n : Int)) = true := decide_eq_true (by omega)
    have d2 : decide (0 < n) = true := decide_eq_true h1
    have d3 : (0 : Int) < (n : Int) := by omega
    have hw1 : wrap64 ((n : Int) - 1) = (n : Int) - 1 := by simp only [wrap64]; omega
    have hw2 : IntKind.i64.wrap ((n : Int) - 1) = (n : Int) - 1 := IntWalk.i64_in _ (by omega)
    have hn1 : (1 : Int) ≤ (n : Int) := by omega
    have hn2 : (n : Int) - 1 < (n : Int) := by omega
    clear h2 hs hs1
    go_enter Try.func38, Try.ntmps38
    go_wp2_with fail
    rw [← hW]
    clear hW
    go_quiet (fail)
    go_wp2_with fail
    go_ret
    exact own_eq (l2 := l) HR.out HL.out.symm HO.out (below_drewN HB1.out _)
  · have HR : Hid (gr l me mn = l ++ [(me, mn)]) := by unfold gr; rw [HL.out, if_neg hc]; exact hid rfl
    have HST : Hid (sts (l ++ [(me, mn)]) = sts l ++ (#[.int .i64 me, .int .i64 mn] : Array Value).toList) := sts_snoc l me mn
    have HLN : Hid (n + 1 = (l ++ [(me, mn)]).length) := by rw [List.length_append, HL.out]; exact hid rfl
    have fin : ∀ d, Code.wp Try.prog (Code.region 3 #[] false) (fun _ _ _ => True) { tmps := #[], defers := [] } (W.drewN d) → True := fun _ _ => trivial
    clear fin
    by_cases h1 : 0 < n
    · obtain ⟨b, off, rfl, hbB, c0, c1⟩ := hs1.at_ (j := n - 1) (by omega)
      have h2 : ¬Sl.E l (n - 1) = me := fun h => hc ⟨h1, h⟩
      obtain ⟨x, hx⟩ : ∃ x, x = Sl.E l (n - 1) := ⟨_, rfl⟩
      rw [← hx] at c0 h2
      have d4 : (x == me) = false := by simp [h2]
      have d1 : decide ((0 : Int) < (n : Int)) = true := decide_eq_true (by omega)
      have d2 : decide (0 < n) = true := decide_eq_true h1
      have d3 : (0 : Int) < (n : Int) := by omega
      have hw1 : wrap64 ((n : Int) - 1) = (n : Int) - 1 := by simp only [wrap64]; omega
      have hw2 : IntKind.i64.wrap ((n : Int) - 1) = (n : Int) - 1 := IntWalk.i64_in _ (by omega)
      have hn1 : (1 : Int) ≤ (n : Int) := by omega
      have hn2 : (n : Int) - 1 < (n : Int) := by omega
      clear hc h2 hx hs hs1
      go_enter Try.func38, Try.ntmps38
      go_wp2_with fail
      rw [← hW]
      clear hW
      go_quiet (fail)
      have HO2 := hid (own_drewN HO.out nq)
      have HB2 := hid (below_drewN HB1.out nq)
      go_wp2_with (at_builtin; refine stop_ (fun Ps hPs => ?_))
      refine hPs ?_
      clear hPs Ps
      refine wpList_app1 T22 (.tmp 22) (.tmp 28) rfl rfl HO2.out rfl rfl rfl (by simp [Value.oneCell']) (by omega) hBW fun v' w3 ho3 hg hat => ?_
      have hb3 := below_append HB2.out HO2.out hg hBW
      rw [← HST.out] at ho3
      have HO3 := hid ho3
      clear hg hat ho3
      go_wp2_with fail
      go_ret
      exact own_eq HR.out HLN.out HO3.out hb3
    · have hz : n = 0 := by omega
      have d1 : decide ((0 : Int) < (n : Int)) = false := decide_eq_false (by omega)
      have d2 : decide (0 < n) = false := decide_eq_false h1
      have d3 : (n : Int) ≤ 0 := by omega
      clear hc hz hs hs1
      go_enter Try.func38, Try.ntmps38
      go_wp2_with fail
      rw [← hW]
      clear hW
      go_quiet (fail)
      have HO2 := hid (own_drewN HO.out nq)
      have HB2 := hid (below_drewN HB1.out nq)
      go_wp2_with (at_builtin; refine stop_ (fun Ps hPs => ?_))
      refine hPs ?_
      clear hPs Ps
      refine wpList_app1 T22 (.tmp 22) (.tmp 28) rfl rfl HO2.out rfl rfl rfl (by simp [Value.oneCell']) (by omega) hBW fun v' w3 ho3 hg hat => ?_
      have hb3 := below_append HB2.out HO2.out hg hBW
      rw [← HST.out] at ho3
      have HO3 := hid ho3
      clear hg hat ho3
      go_wp2_with fail
      go_ret
      exact own_eq HR.out HLN.out HO3.out hb3

set_option maxHeartbeats 1000000 in
set_option maxRecDepth 100000 in
theorem clone42 (A : Option Addr) (n c : Nat) (l : List (Int × Int)) (w : World) (h : SS w w.heap.size A n l) (hn : n ≤ 1000) :
    Calls Try.prog 42 #[.slice A n c] w (NewS l w) := by
  have HL := hid h.2
  cases A with
  | none =>
    have h0 : n = 0 := by
      rcases Nat.eq_zero_or_pos n with q | q
      · exact q
      · obtain ⟨b, off, q2, _⟩ := h.1.2 (by omega); cases q2
    subst h0
    have hnil : l = [] := List.eq_nil_of_length_eq_zero HL.out
    subst hnil
    have q := fun w => Lib.run_eql_slice_nil (P := Try.prog) w 22 58 none 0 c 0 0 Try.underlying22
    go_enter Try.func42, Try.ntmps42
    go_wp2_with fail
    go_ret
    exact ⟨_, rfl, World.ownsRow_nil _ _ _ _, Below.refl _ _⟩
  | some a =>
    have q := fun w => Lib.run_eql_slice_nil (P := Try.prog) w 22 58 (some a) n c 0 0 Try.underlying22
    go_enter Try.func42, Try.ntmps42
    go_wp2_with (at_builtin; refine stop_ (fun Ps hPs => ?_))
    refine hPs ?_
    clear hPs Ps
    refine wpList_app T22 (.tmp 5) (.tmp 6) rfl rfl (World.ownsRow_lit w #[] 0 (Nat.le_refl _) (Nat.zero_le _) rfl) rfl (h.1.alloc (Nat.le_refl _) _) rfl (sts_one l) (by omega) (by simp) fun v1 w1 hown hg hat => ?_
    have hb : Below w.heap.size w w1 := ((Below.refl _ _).alloc (Nat.le_refl _) _).grown hg (by simp) (by intro k hk; simp [Value.ownBlock] at hk; omega)
    have HO := hid hown
    clear hown hg hat
    go_wp2_with fail
    go_ret
    exact news_eq rfl HL.out.symm (by simpa using HO.out) hb
end Go.Proofs.Ytmlfbjcgmbdafaa
