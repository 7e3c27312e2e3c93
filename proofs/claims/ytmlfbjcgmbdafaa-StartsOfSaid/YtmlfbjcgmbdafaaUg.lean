/- A commit lent. -/
import Derived.Test.YtmlfbjcgmbdafaaUf
namespace Go.Proofs.Ytmlfbjcgmbdafaa
open Go.RowKit Go.Lg
set_option linter.unusedVariables false
set_option linter.unusedSimpArgs false

/-- A commit whose ops have spare ones behind. -/
def LentIs (m : Cm) (w : World) (e : Ending) (w' : World) : Prop := ∃ A c, e = .returned (.agg #[.int .i64 m.ep, .int .i64 m.num, .slice A m.n c]) ∧ w'.ownsRow w.heap.size 68 3 (.slice A (m.n + 3) c) (m.n + 3) (opc (lentO m.os)) ∧ Below w.heap.size w w'
set_option maxHeartbeats 4000000 in
set_option maxRecDepth 100000 in
theorem lentcommit23 (m : Cm) (w : World) (h : OS w w.heap.size m.A m.n m.os) (hn : m.n ≤ 3518437208780) : Calls Try.prog 23 #[m.v] w (LentIs m w) := by
  obtain ⟨me, mn, Ao, no, co, os⟩ := m
  simp only at h hn
  have kb := (Blk.new w 40 #[.int .i64 me, .int .i64 mn, .slice Ao no co]).alloc (.cells #[.int .i64 0, .int .i64 0, .slice none 0 0] 40)
  have kr := Blk.new (w.alloc (.cells #[.int .i64 me, .int .i64 mn, .slice Ao no co] 40)) 40 #[.int .i64 0, .int .i64 0, .slice none 0 0]
  rw [World.size_alloc] at kr
  have hb := ((Below.refl w.heap.size w).alloc (Nat.le_refl _) (.cells #[.int .i64 me, .int .i64 mn, .slice Ao no co] 40)).alloc (by simp) (.cells #[.int .i64 0, .int .i64 0, .slice none 0 0] 40)
  obtain ⟨W, hW⟩ : ∃ W, W = (w.alloc (.cells #[.int .i64 me, .int .i64 mn, .slice Ao no co] 40)).alloc (.cells #[.int .i64 0, .int .i64 0, .slice none 0 0] 40) := ⟨_, rfl⟩
  rw [← hW] at kb kr hb
  have hs := hb.size
  have hos := (h.keep hb).more hs
  have K1 : Hid (W.drew.cell? ⟨w.heap.size, 0, none⟩ = some (Value.int .i64 me) ∧ W.drew.cell? ⟨w.heap.size, 1, none⟩ = some (Value.int .i64 mn) ∧ W.drew.cell? ⟨w.heap.size, 2, none⟩ = some (Value.slice Ao no co)) := hid ⟨(drew_cell _ _).trans (kb.cell 0), (drew_cell _ _).trans (kb.cell 1), (drew_cell _ _).trans (kb.cell 2)⟩
  have b0 : W.cell? ⟨w.heap.size, 0, none⟩ = some (.int .i64 me) := kb.cell 0
  have b1 : W.cell? ⟨w.heap.size, 1, none⟩ = some (.int .i64 mn) := kb.cell 1
  have b2 : W.cell? ⟨w.heap.size, 2, none⟩ = some (.slice Ao no co) := kb.cell 2
  have nbr : w.heap.size ≠ w.heap.size + 1 := by omega
  have HKB := hid kb
  have HKR := hid kr
  have HB := hid hb
  clear kb kr hb h
  go_enter Try.func23, Try.ntmps23
  go_wp2_with fail
  rw [← hW]
  clear hW
  go_region_held3 (fun w' => w'.cell? ⟨w.heap.size, 0, none⟩ = some (Value.int .i64 me) ∧ w'.cell? ⟨w.heap.size, 1, none⟩ = some (Value.int .i64 mn) ∧ w'.cell? ⟨w.heap.size, 2, none⟩ = some (Value.slice Ao no co)) (first | (with_reducible exact K1.out) | (with_reducible exact ⟨q0, q1, q2⟩) | (with_reducible exact K3.out))
    (first
      | (go_at_call 36; refine (lentops36 Ao no co os _ ⟨hos.1.drew, hos.2⟩ hn).mono ?_; rintro e5 w5 ⟨v5, rfl, ho5, hq0⟩; obtain ⟨A5, c5, rfl, g5, h5⟩ := owned_slice ho5; have i5 : (no : Int) ≤ (c5 : Int) := (by omega); have i6 : no ≤ c5 := (by omega); obtain ⟨b5, rfl⟩ := own_some ho5 (Or.inl (Nat.succ_pos _)); have hq1 := below_src hq0; have kb5 := HKB.out.later hq1; have kr5 := HKR.out.later hq1; have q0 : w5.cell? ⟨w.heap.size, 0, none⟩ = some (.int .i64 me) := kb5.cell 0; have q1 : w5.cell? ⟨w.heap.size, 1, none⟩ = some (.int .i64 mn) := kb5.cell 1; have q2 : w5.cell? ⟨w.heap.size, 2, none⟩ = some (.slice Ao no co) := kb5.cell 2; have r0 : w5.cell? ⟨w.heap.size + 1, 0, none⟩ = some (.int .i64 0) := kr5.cell 0; have r1 : w5.cell? ⟨w.heap.size + 1, 1, none⟩ = some (.int .i64 0) := kr5.cell 1; have r2 : w5.cell? ⟨w.heap.size + 1, 2, none⟩ = some (.slice none 0 0) := kr5.cell 2; have y0 := kr5.frozen 0; have y1 := kr5.frozen 1; have y2 := kr5.frozen 2; have K3 := hid (show (((w5.setCell ⟨w.heap.size + 1, 0, none⟩ (.int .i64 me)).setCell ⟨w.heap.size + 1, 1, none⟩ (.int .i64 mn)).setCell ⟨w.heap.size + 1, 2, none⟩ (.slice (some ⟨b5, 0, none⟩) no c5)).cell? ⟨w.heap.size, 0, none⟩ = some (Value.int .i64 me) ∧ (((w5.setCell ⟨w.heap.size + 1, 0, none⟩ (.int .i64 me)).setCell ⟨w.heap.size + 1, 1, none⟩ (.int .i64 mn)).setCell ⟨w.heap.size + 1, 2, none⟩ (.slice (some ⟨b5, 0, none⟩) no c5)).cell? ⟨w.heap.size, 1, none⟩ = some (Value.int .i64 mn) ∧ (((w5.setCell ⟨w.heap.size + 1, 0, none⟩ (.int .i64 me)).setCell ⟨w.heap.size + 1, 1, none⟩ (.int .i64 mn)).setCell ⟨w.heap.size + 1, 2, none⟩ (.slice (some ⟨b5, 0, none⟩) no c5)).cell? ⟨w.heap.size, 2, none⟩ = some (Value.slice Ao no co) from ⟨far3 q0 nbr _ _ _, far3 q1 nbr _ _ _, far3 q2 nbr _ _ _⟩)))
  have hg := gb_setCell (p := ⟨w.heap.size + 1, 2, none⟩) (.slice (some ⟨b5, 0, none⟩) no c5) (gb_setCell (p := ⟨w.heap.size + 1, 1, none⟩) (.int .i64 mn) (gb_setCell (p := ⟨w.heap.size + 1, 0, none⟩) (.int .i64 me) (World.grownBy.refl w5 (some (w.heap.size + 1)))))
  have ho6 := owned_less (owned_gb_far' ho5 hg HKR.out.lt) hs
  have hb6 := (((bl_trans HB.out hq1 hs).setCell (p := ⟨w.heap.size + 1, 0, none⟩) (Nat.le_succ _) (.int .i64 me)).setCell (p := ⟨w.heap.size + 1, 1, none⟩) (Nat.le_succ _) (.int .i64 mn)).setCell (p := ⟨w.heap.size + 1, 2, none⟩) (Nat.le_succ _) (.slice (some ⟨b5, 0, none⟩) no c5)
  rename_i hheld
  clear hheld K1 K3 hg kb5 kr5
  have HO6 := hid ho6
  have HB6 := hid hb6
  clear ho6 hb6 ho5 hq0 hq1
  go_wp2_with fail
  refine bodyPost_ret (by simp [results, Try.results23, go_sem, r0, r1, r2]; try rfl) rfl ?_
  exact ⟨_, c5, rfl, HO6.out, HB6.out⟩

end Go.Proofs.Ytmlfbjcgmbdafaa
