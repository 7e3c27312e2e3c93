/- Ops and a commit kept. -/
import Derived.Test.YtmlfbjcgmbdafaaUg
import Derived.Test.YtmlfbjcgmbdafaaSm
namespace Go.Proofs.Ytmlfbjcgmbdafaa
open Go.RowKit Go.Lg
set_option linter.unusedVariables false
set_option linter.unusedSimpArgs false

theorem lentO_length (os : List Op3) : (lentO os).length = os.length + 3 := by simp [lentO, spareO]
set_option maxHeartbeats 1000000 in
set_option maxRecDepth 100000 in
theorem kept45 (A A' : Option Addr) (n c n' c' : Nat) (os : List Op3) (w : World) (h : OS w w.heap.size A n (lentO os)) (h' : OS w w.heap.size A' n' os) (hn' : n' ≤ 3518437208780) :
    Calls Try.prog 45 #[.slice A n c, .slice A' n' c'] w (Yes w) := by
  have hnn : n = n' + 3 := by rw [← h.2, lentO_length, h'.2]
  subst hnn
  go_enter Try.func45, Try.ntmps45
  go_wp2_with (go_at_call 36; refine stop_ (fun Ps hPs => ?_))
  refine hPs ?_
  clear hPs Ps
  refine (lentops36 A' n' c' os w h' hn').mono ?_
  rintro e w1 ⟨v, rfl, ho, hb⟩
  obtain ⟨A1, c1, rfl, g1, g2⟩ := owned_slice ho
  have hc := same53 A A1 (n' + 3) c c1 _ _ (lentO os) w1 (h.keep hb) ⟨Rd.of_own ho, by rw [lentO_length, h'.2]⟩ (by omega)
  clear ho
  go_wp2_with (go_at_call 53; refine stop_ (fun Ps hPs => ?_))
  refine hPs ?_
  clear hPs Ps
  refine hc.mono ?_
  rintro e w2 ⟨rfl, d, rfl⟩
  go_wp2_with fail
  go_ret
  exact ⟨rfl, below_drewN hb d⟩

set_option maxHeartbeats 1000000 in
set_option maxRecDepth 100000 in
theorem samecommit44 (ep num : Int) (A A' : Option Addr) (n c c' B B' : Nat) (os : List Op3) (w : World) (h : OS w B A n os) (h' : OS w B' A' n os) (hB : B ≤ w.heap.size) (hB' : B' ≤ w.heap.size) (hn : n ≤ 140737488355328) :
    Calls Try.prog 44 #[.agg #[.int .i64 ep, .int .i64 num, .slice A n c], .agg #[.int .i64 ep, .int .i64 num, .slice A' n c']] w (Yes w) := by
  have ka := (Blk.new w 40 #[.int .i64 ep, .int .i64 num, .slice A n c]).alloc (.cells #[.int .i64 ep, .int .i64 num, .slice A' n c'] 40)
  have kb := Blk.new (w.alloc (.cells #[.int .i64 ep, .int .i64 num, .slice A n c] 40)) 40 #[.int .i64 ep, .int .i64 num, .slice A' n c']
  rw [World.size_alloc] at kb
  have hb := ((Below.refl w.heap.size w).alloc (Nat.le_refl _) (.cells #[.int .i64 ep, .int .i64 num, .slice A n c] 40)).alloc (by simp) (.cells #[.int .i64 ep, .int .i64 num, .slice A' n c'] 40)
  obtain ⟨W, hW⟩ : ∃ W, W = (w.alloc (.cells #[.int .i64 ep, .int .i64 num, .slice A n c] 40)).alloc (.cells #[.int .i64 ep, .int .i64 num, .slice A' n c'] 40) := ⟨_, rfl⟩
  rw [← hW] at ka kb hb
  have a0 : W.cell? ⟨w.heap.size, 0, none⟩ = some (.int .i64 ep) := ka.cell 0
  have a1 : W.cell? ⟨w.heap.size, 1, none⟩ = some (.int .i64 num) := ka.cell 1
  have a2 : W.cell? ⟨w.heap.size, 2, none⟩ = some (.slice A n c) := ka.cell 2
  have b0 : W.cell? ⟨w.heap.size + 1, 0, none⟩ = some (.int .i64 ep) := kb.cell 0
  have b1 : W.cell? ⟨w.heap.size + 1, 1, none⟩ = some (.int .i64 num) := kb.cell 1
  have b2 : W.cell? ⟨w.heap.size + 1, 2, none⟩ = some (.slice A' n c') := kb.cell 2
  have hc := same53 A A' n c c' w.heap.size w.heap.size os W ((h.more hB).keep hb) ((h'.more hB').keep hb) hn
  clear ka kb
  go_enter Try.func44, Try.ntmps44
  go_wp2_with (go_at_call 53; refine stop_ (fun Ps hPs => ?_))
  refine hPs ?_
  clear hPs Ps
  rw [← hW]
  clear hW
  refine hc.mono ?_
  rintro e w2 ⟨rfl, d, rfl⟩
  go_wp2_with fail
  go_ret
  exact ⟨rfl, below_drewN hb d⟩

set_option maxHeartbeats 4000000 in
set_option maxRecDepth 100000 in
theorem keptcommit29 (ep num : Int) (A A' : Option Addr) (n c c' : Nat) (os : List Op3) (w : World) (h : OS w w.heap.size A (n + 3) (lentO os)) (h' : OS w w.heap.size A' n os) (hc : n + 3 ≤ c) (hn : n ≤ 3518437208780) :
    Calls Try.prog 29 #[.agg #[.int .i64 ep, .int .i64 num, .slice A n c], .agg #[.int .i64 ep, .int .i64 num, .slice A' n c']] w (Yes w) := by
  have ka := (Blk.new w 40 #[.int .i64 ep, .int .i64 num, .slice A n c]).alloc (.cells #[.int .i64 ep, .int .i64 num, .slice A' n c'] 40)
  have kb := Blk.new (w.alloc (.cells #[.int .i64 ep, .int .i64 num, .slice A n c] 40)) 40 #[.int .i64 ep, .int .i64 num, .slice A' n c']
  rw [World.size_alloc] at kb
  have hb := ((Below.refl w.heap.size w).alloc (Nat.le_refl _) (.cells #[.int .i64 ep, .int .i64 num, .slice A n c] 40)).alloc (by simp) (.cells #[.int .i64 ep, .int .i64 num, .slice A' n c'] 40)
  obtain ⟨W, hW⟩ : ∃ W, W = (w.alloc (.cells #[.int .i64 ep, .int .i64 num, .slice A n c] 40)).alloc (.cells #[.int .i64 ep, .int .i64 num, .slice A' n c'] 40) := ⟨_, rfl⟩
  rw [← hW] at ka kb hb
  have hs := hb.size
  obtain ⟨b, off, rfl⟩ : ∃ b off, A = some ⟨b, off, none⟩ := by
    obtain ⟨b, off, p, k, v, h1, _⟩ := h.at_ (j := 0) (by omega)
    exact ⟨b, off, h1⟩
  have H1 := (h.keep hb).more hs
  have H2 := (h'.keep hb).more hs
  have HK := hid (kept45 (some ⟨b, off, none⟩) A' (n + 3) c n c' os W.drew ⟨H1.1.drew, H1.2⟩ ⟨H2.1.drew, H2.2⟩ hn)
  have a0 : W.cell? ⟨w.heap.size, 0, none⟩ = some (.int .i64 ep) := ka.cell 0
  have a1 : W.cell? ⟨w.heap.size, 1, none⟩ = some (.int .i64 num) := ka.cell 1
  have a2 : W.cell? ⟨w.heap.size, 2, none⟩ = some (.slice (some ⟨b, off, none⟩) n c) := ka.cell 2
  have b0 : W.cell? ⟨w.heap.size + 1, 0, none⟩ = some (.int .i64 ep) := kb.cell 0
  have b1 : W.cell? ⟨w.heap.size + 1, 1, none⟩ = some (.int .i64 num) := kb.cell 1
  have b2 : W.cell? ⟨w.heap.size + 1, 2, none⟩ = some (.slice A' n c') := kb.cell 2
  have K1 : Hid (W.drew.cell? ⟨w.heap.size, 0, none⟩ = some (.int .i64 ep) ∧ W.drew.cell? ⟨w.heap.size, 1, none⟩ = some (.int .i64 num) ∧ W.drew.cell? ⟨w.heap.size, 2, none⟩ = some (.slice (some ⟨b, off, none⟩) n c) ∧ W.drew.cell? ⟨w.heap.size + 1, 0, none⟩ = some (.int .i64 ep) ∧ W.drew.cell? ⟨w.heap.size + 1, 1, none⟩ = some (.int .i64 num) ∧ W.drew.cell? ⟨w.heap.size + 1, 2, none⟩ = some (.slice A' n c')) :=
    hid ⟨(drew_cell _ _).trans a0, (drew_cell _ _).trans a1, (drew_cell _ _).trans a2, (drew_cell _ _).trans b0, (drew_cell _ _).trans b1, (drew_cell _ _).trans b2⟩
  have HA := hid ka
  have HB := hid kb
  have HBW := hid hb
  have d1 : wrap64 ((n : Int) + 3) = ((n + 3 : Nat) : Int) := by simp only [wrap64]; omega
  have d2 : IntKind.i64.wrap ((n : Int) + 3) = ((n + 3 : Nat) : Int) := by rw [IntWalk.i64_in _ (by omega)]; omega
  have d3 : ((n + 3 : Nat) : Int) ≤ (c : Int) := by omega
  have d4 : (n : Int) + 3 ≤ (c : Int) := by omega
  have d5 : (0 : Int) ≤ (n : Int) + 3 := by omega
  have d6 : (0 : Int) ≤ ((n + 3 : Nat) : Int) := by omega
  clear ka kb hb h h' H1 H2
  go_enter Try.func29, Try.ntmps29
  go_wp2_with fail
  rw [← hW]
  clear hW
  go_region_held3 (fun w' => w'.cell? ⟨w.heap.size, 0, none⟩ = some (.int .i64 ep) ∧ w'.cell? ⟨w.heap.size, 1, none⟩ = some (.int .i64 num) ∧ w'.cell? ⟨w.heap.size, 2, none⟩ = some (.slice (some ⟨b, off, none⟩) n c) ∧ w'.cell? ⟨w.heap.size + 1, 0, none⟩ = some (.int .i64 ep) ∧ w'.cell? ⟨w.heap.size + 1, 1, none⟩ = some (.int .i64 num) ∧ w'.cell? ⟨w.heap.size + 1, 2, none⟩ = some (.slice A' n c')) (first | (with_reducible exact K1.out) | (with_reducible exact ⟨q0, q1, q2, q3, q4, q5⟩))
    (first
      | (go_at_call 45; refine HK.out.mono ?_; rintro e5 w5 ⟨rfl, hq0⟩; have hq1 := below_src hq0; have ka5 := HA.out.later hq1; have kb5 := HB.out.later hq1; have q0 : w5.cell? ⟨w.heap.size, 0, none⟩ = some (.int .i64 ep) := ka5.cell 0; have q1 : w5.cell? ⟨w.heap.size, 1, none⟩ = some (.int .i64 num) := ka5.cell 1; have q2 : w5.cell? ⟨w.heap.size, 2, none⟩ = some (.slice (some ⟨b, off, none⟩) n c) := ka5.cell 2; have q3 : w5.cell? ⟨w.heap.size + 1, 0, none⟩ = some (.int .i64 ep) := kb5.cell 0; have q4 : w5.cell? ⟨w.heap.size + 1, 1, none⟩ = some (.int .i64 num) := kb5.cell 1; have q5 : w5.cell? ⟨w.heap.size + 1, 2, none⟩ = some (.slice A' n c') := kb5.cell 2))
  have hb6 := bl_trans HBW.out hq1 hs
  go_wp2_with fail
  go_ret
  exact ⟨rfl, hb6⟩
end Go.Proofs.Ytmlfbjcgmbdafaa
