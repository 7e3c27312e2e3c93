/- Unlike pages have unlike bytes: the walk, Uv. -/
import Derived.Test.YtcfopaphpjmopaaUn
import Derived.Test.YtcfopaphpjmopaaCl
namespace Go.Proofs.Ytcfopaphpjmopaa
open Go.RowKit Go.Lg
set_option linter.unusedVariables false
set_option linter.unusedSimpArgs false

set_option maxHeartbeats 8000000 in
set_option maxRecDepth 100000 in
theorem unlike6_1za (e b1 b2 b3 b4 b5 b6 : Int) (l1 l2 : List UInt8) (m1 m2 : Nat) (d : Bool) (w : World) (he1 : 1 ≤ e) (he2 : e ≤ 1048576) (hl1 : l1.length = m1) (hl2 : l2.length = m2) (h60 : m1 ≤ 60) (h61 : m2 ≤ 60) (hmm : m1 ≤ m2)
    (hd : decide (l1.take m1 = l2.take m1) = d)
    (h14p : ∀ w, Calls Try.prog 14 #[(Pg.mk e 1 0 0 0 0).v] w (Coded l1 w)) (h14q : ∀ w, Calls Try.prog 14 #[(Pg.mk b1 b2 b3 b4 b5 b6).v] w (Coded l2 w))
    (h9 : ∀ w, Calls Try.prog 9 #[(Pg.mk e 1 0 0 0 0).v, (Pg.mk b1 b2 b3 b4 b5 b6).v] w fun e w' => e = .returned (.bool d) ∧ Below w.heap.size w w') :
    Calls Try.prog 6 #[(Pg.mk e 1 0 0 0 0).v, (Pg.mk b1 b2 b3 b4 b5 b6).v] w (Yes w) := by
  have hl := lives12
  have HD := hid hd
  have HL1 := hid hl1
  have HL2 := hid hl2
  have hmi : (m1 : Int) ≤ (m2 : Int) := by omega
  clear hd hl1 hl2
  go_enter Try.func6, Try.ntmps6
  go_wp2_with (go_at_call 12; refine stop_ (fun Ps hPs => ?_))
  refine hPs ?_
  clear hPs Ps
  refine (hl _).mono ?_
  clear hl
  rintro e' w1 ⟨rfl, hb⟩
  obtain ⟨hb, kA, kB⟩ := two_blocks hb
  obtain ⟨⟨pc0, pc1, pc2, pc3, pc4, pc5⟩, _⟩ := page_cells kA
  go_wp2_with (go_at_call 14; refine stop_ (fun Ps hPs => ?_))
  refine hPs ?_
  clear hPs Ps pc0 pc1 pc2 pc3 pc4 pc5
  refine (h14p _).mono ?_
  clear h14p
  rintro e' w2 ⟨v1, rfl, ho1, hbn⟩
  have kA := kA.later hbn
  have kB := kB.later hbn
  have ho1 := owned_less ho1 hb.size
  have hb := bl_trans hb hbn hb.size
  clear hbn
  obtain ⟨⟨qc0, qc1, qc2, qc3, qc4, qc5⟩, _⟩ := page_cells kB
  go_wp2_with (go_at_call 14; refine stop_ (fun Ps hPs => ?_))
  refine hPs ?_
  clear hPs Ps qc0 qc1 qc2 qc3 qc4 qc5
  refine (h14q _).mono ?_
  clear h14q
  rintro e' w3 ⟨v2, rfl, ho2, hbn⟩
  have kA := kA.later hbn
  have kB := kB.later hbn
  have ho1 := owned_later ho1 hbn
  have ho2 := owned_less ho2 hb.size
  have hb := bl_trans hb hbn hb.size
  clear hbn
  rw [HL1.out] at ho1
  rw [HL2.out] at ho2
  obtain ⟨A1, c1, rfl, q1, q2⟩ := owned_slice ho1
  obtain ⟨A2, c2, rfl, q3, q4⟩ := owned_slice ho2
  have hr1 := (Rd.of_own ho1).take (k := m1) (by omega)
  have hr2 := (Rd.of_own ho2).take (k := m1) (by omega)
  rw [Nat.mul_one, bts_take] at hr1 hr2
  have i1 : ((m1 : Nat) : Int) ≤ (c1 : Int) := by omega
  have i2 : ((m1 : Nat) : Int) ≤ (c2 : Int) := by omega
  have hmz : m1 ≤ 9223372036854775807 := by omega
  clear ho1 ho2
  obtain ⟨⟨pc0, pc1, pc2, pc3, pc4, pc5⟩, _⟩ := page_cells kA
  obtain ⟨⟨qc0, qc1, qc2, qc3, qc4, qc5⟩, _⟩ := page_cells kB
  go_wp2_with fail
  all_goals
    go_region_held3 (fun w' => (w'.cell? ⟨w.heap.size, 0, none⟩ = some (Value.int .i64 e) ∧ w'.cell? ⟨w.heap.size, 1, none⟩ = some (Value.int .u8 1) ∧ w'.cell? ⟨w.heap.size, 2, none⟩ = some (Value.int .i64 0) ∧ w'.cell? ⟨w.heap.size, 3, none⟩ = some (Value.int .u8 0) ∧ w'.cell? ⟨w.heap.size, 4, none⟩ = some (Value.int .i64 0) ∧ w'.cell? ⟨w.heap.size, 5, none⟩ = some (Value.int .i64 0)) ∧ (w'.cell? ⟨w.heap.size + 1, 0, none⟩ = some (Value.int .i64 b1) ∧ w'.cell? ⟨w.heap.size + 1, 1, none⟩ = some (Value.int .u8 b2) ∧ w'.cell? ⟨w.heap.size + 1, 2, none⟩ = some (Value.int .i64 b3) ∧ w'.cell? ⟨w.heap.size + 1, 3, none⟩ = some (Value.int .u8 b4) ∧ w'.cell? ⟨w.heap.size + 1, 4, none⟩ = some (Value.int .i64 b5) ∧ w'.cell? ⟨w.heap.size + 1, 5, none⟩ = some (Value.int .i64 b6))) (exact ⟨⟨pc0, pc1, pc2, pc3, pc4, pc5⟩, ⟨qc0, qc1, qc2, qc3, qc4, qc5⟩⟩)
      (first
        | (go_at_call 9; refine (h9 _).mono ?_; rintro e' w4 ⟨rfl, hq0⟩; have hq1 := below_src hq0; have kA := kA.later hq1; have kB := kB.later hq1; have hb := bl_trans hb hq1 hb.size; have hr1 := hr1.below hq1; have hr2 := hr2.below hq1; obtain ⟨⟨pc0, pc1, pc2, pc3, pc4, pc5⟩, _⟩ := page_cells kA; obtain ⟨⟨qc0, qc1, qc2, qc3, qc4, qc5⟩, _⟩ := page_cells kB)
        | (go_at_call 18; refine (same_at A1 A2 _ _ _ _ _ _ _ _ d _ HD.out hr1 hr2 hmz hmz).mono ?_; rintro e' w5 ⟨rfl, dd, hdd⟩; have hq1 := drewN_below hdd; clear hdd; have kA := kA.later hq1; have kB := kB.later hq1; have hb := bl_trans hb hq1 hb.size; obtain ⟨⟨pc0, pc1, pc2, pc3, pc4, pc5⟩, _⟩ := page_cells kA; obtain ⟨⟨qc0, qc1, qc2, qc3, qc4, qc5⟩, _⟩ := page_cells kB))
    go_wp2_with fail
    go_ret
    exact ⟨by simp, hb⟩
set_option maxHeartbeats 8000000 in
set_option maxRecDepth 100000 in
theorem unlike6_1na (e ac b1 b2 b3 b4 b5 b6 : Int) (l1 l2 : List UInt8) (m1 m2 : Nat) (d : Bool) (w : World) (he1 : 1 ≤ e) (he2 : e ≤ 1048576) (hac : ¬ac = 0) (hl1 : l1.length = m1) (hl2 : l2.length = m2) (h60 : m1 ≤ 60) (h61 : m2 ≤ 60) (hmm : m1 ≤ m2)
    (hd : decide (l1.take m1 = l2.take m1) = d)
    (h14p : ∀ w, Calls Try.prog 14 #[(Pg.mk e 1 ac 0 0 0).v] w (Coded l1 w)) (h14q : ∀ w, Calls Try.prog 14 #[(Pg.mk b1 b2 b3 b4 b5 b6).v] w (Coded l2 w))
    (h9 : ∀ w, Calls Try.prog 9 #[(Pg.mk e 1 ac 0 0 0).v, (Pg.mk b1 b2 b3 b4 b5 b6).v] w fun e w' => e = .returned (.bool d) ∧ Below w.heap.size w w') :
    Calls Try.prog 6 #[(Pg.mk e 1 ac 0 0 0).v, (Pg.mk b1 b2 b3 b4 b5 b6).v] w (Yes w) := by
  have hl := lives12
  have HD := hid hd
  have HL1 := hid hl1
  have HL2 := hid hl2
  have hmi : (m1 : Int) ≤ (m2 : Int) := by omega
  clear hd hl1 hl2
  go_enter Try.func6, Try.ntmps6
  go_wp2_with (go_at_call 12; refine stop_ (fun Ps hPs => ?_))
  refine hPs ?_
  clear hPs Ps
  refine (hl _).mono ?_
  clear hl
  rintro e' w1 ⟨rfl, hb⟩
  obtain ⟨hb, kA, kB⟩ := two_blocks hb
  obtain ⟨⟨pc0, pc1, pc2, pc3, pc4, pc5⟩, _⟩ := page_cells kA
  go_wp2_with (go_at_call 14; refine stop_ (fun Ps hPs => ?_))
  refine hPs ?_
  clear hPs Ps pc0 pc1 pc2 pc3 pc4 pc5
  refine (h14p _).mono ?_
  clear h14p
  rintro e' w2 ⟨v1, rfl, ho1, hbn⟩
  have kA := kA.later hbn
  have kB := kB.later hbn
  have ho1 := owned_less ho1 hb.size
  have hb := bl_trans hb hbn hb.size
  clear hbn
  obtain ⟨⟨qc0, qc1, qc2, qc3, qc4, qc5⟩, _⟩ := page_cells kB
  go_wp2_with (go_at_call 14; refine stop_ (fun Ps hPs => ?_))
  refine hPs ?_
  clear hPs Ps qc0 qc1 qc2 qc3 qc4 qc5
  refine (h14q _).mono ?_
  clear h14q
  rintro e' w3 ⟨v2, rfl, ho2, hbn⟩
  have kA := kA.later hbn
  have kB := kB.later hbn
  have ho1 := owned_later ho1 hbn
  have ho2 := owned_less ho2 hb.size
  have hb := bl_trans hb hbn hb.size
  clear hbn
  rw [HL1.out] at ho1
  rw [HL2.out] at ho2
  obtain ⟨A1, c1, rfl, q1, q2⟩ := owned_slice ho1
  obtain ⟨A2, c2, rfl, q3, q4⟩ := owned_slice ho2
  have hr1 := (Rd.of_own ho1).take (k := m1) (by omega)
  have hr2 := (Rd.of_own ho2).take (k := m1) (by omega)
  rw [Nat.mul_one, bts_take] at hr1 hr2
  have i1 : ((m1 : Nat) : Int) ≤ (c1 : Int) := by omega
  have i2 : ((m1 : Nat) : Int) ≤ (c2 : Int) := by omega
  have hmz : m1 ≤ 9223372036854775807 := by omega
  clear ho1 ho2
  obtain ⟨⟨pc0, pc1, pc2, pc3, pc4, pc5⟩, _⟩ := page_cells kA
  obtain ⟨⟨qc0, qc1, qc2, qc3, qc4, qc5⟩, _⟩ := page_cells kB
  go_wp2_with fail
  all_goals
    go_region_held3 (fun w' => (w'.cell? ⟨w.heap.size, 0, none⟩ = some (Value.int .i64 e) ∧ w'.cell? ⟨w.heap.size, 1, none⟩ = some (Value.int .u8 1) ∧ w'.cell? ⟨w.heap.size, 2, none⟩ = some (Value.int .i64 ac) ∧ w'.cell? ⟨w.heap.size, 3, none⟩ = some (Value.int .u8 0) ∧ w'.cell? ⟨w.heap.size, 4, none⟩ = some (Value.int .i64 0) ∧ w'.cell? ⟨w.heap.size, 5, none⟩ = some (Value.int .i64 0)) ∧ (w'.cell? ⟨w.heap.size + 1, 0, none⟩ = some (Value.int .i64 b1) ∧ w'.cell? ⟨w.heap.size + 1, 1, none⟩ = some (Value.int .u8 b2) ∧ w'.cell? ⟨w.heap.size + 1, 2, none⟩ = some (Value.int .i64 b3) ∧ w'.cell? ⟨w.heap.size + 1, 3, none⟩ = some (Value.int .u8 b4) ∧ w'.cell? ⟨w.heap.size + 1, 4, none⟩ = some (Value.int .i64 b5) ∧ w'.cell? ⟨w.heap.size + 1, 5, none⟩ = some (Value.int .i64 b6))) (exact ⟨⟨pc0, pc1, pc2, pc3, pc4, pc5⟩, ⟨qc0, qc1, qc2, qc3, qc4, qc5⟩⟩)
      (first
        | (go_at_call 9; refine (h9 _).mono ?_; rintro e' w4 ⟨rfl, hq0⟩; have hq1 := below_src hq0; have kA := kA.later hq1; have kB := kB.later hq1; have hb := bl_trans hb hq1 hb.size; have hr1 := hr1.below hq1; have hr2 := hr2.below hq1; obtain ⟨⟨pc0, pc1, pc2, pc3, pc4, pc5⟩, _⟩ := page_cells kA; obtain ⟨⟨qc0, qc1, qc2, qc3, qc4, qc5⟩, _⟩ := page_cells kB)
        | (go_at_call 18; refine (same_at A1 A2 _ _ _ _ _ _ _ _ d _ HD.out hr1 hr2 hmz hmz).mono ?_; rintro e' w5 ⟨rfl, dd, hdd⟩; have hq1 := drewN_below hdd; clear hdd; have kA := kA.later hq1; have kB := kB.later hq1; have hb := bl_trans hb hq1 hb.size; obtain ⟨⟨pc0, pc1, pc2, pc3, pc4, pc5⟩, _⟩ := page_cells kA; obtain ⟨⟨qc0, qc1, qc2, qc3, qc4, qc5⟩, _⟩ := page_cells kB))
    go_wp2_with fail
    go_ret
    exact ⟨by simp, hb⟩
set_option maxHeartbeats 8000000 in
set_option maxRecDepth 100000 in
theorem unlike6_1zb (e b1 b2 b3 b4 b5 b6 : Int) (l1 l2 : List UInt8) (m1 m2 : Nat) (d : Bool) (w : World) (he1 : 1 ≤ e) (he2 : e ≤ 1048576) (hl1 : l1.length = m1) (hl2 : l2.length = m2) (h60 : m1 ≤ 60) (h61 : m2 ≤ 60) (hmm : m2 < m1)
    (hd : decide (l1.take m2 = l2.take m2) = d)
    (h14p : ∀ w, Calls Try.prog 14 #[(Pg.mk e 1 0 0 0 0).v] w (Coded l1 w)) (h14q : ∀ w, Calls Try.prog 14 #[(Pg.mk b1 b2 b3 b4 b5 b6).v] w (Coded l2 w))
    (h9 : ∀ w, Calls Try.prog 9 #[(Pg.mk e 1 0 0 0 0).v, (Pg.mk b1 b2 b3 b4 b5 b6).v] w fun e w' => e = .returned (.bool d) ∧ Below w.heap.size w w') :
    Calls Try.prog 6 #[(Pg.mk e 1 0 0 0 0).v, (Pg.mk b1 b2 b3 b4 b5 b6).v] w (Yes w) := by
  have hl := lives12
  have HD := hid hd
  have HL1 := hid hl1
  have HL2 := hid hl2
  have hmi : (m2 : Int) < (m1 : Int) := by omega
  clear hd hl1 hl2
  go_enter Try.func6, Try.ntmps6
  go_wp2_with (go_at_call 12; refine stop_ (fun Ps hPs => ?_))
  refine hPs ?_
  clear hPs Ps
  refine (hl _).mono ?_
  clear hl
  rintro e' w1 ⟨rfl, hb⟩
  obtain ⟨hb, kA, kB⟩ := two_blocks hb
  obtain ⟨⟨pc0, pc1, pc2, pc3, pc4, pc5⟩, _⟩ := page_cells kA
  go_wp2_with (go_at_call 14; refine stop_ (fun Ps hPs => ?_))
  refine hPs ?_
  clear hPs Ps pc0 pc1 pc2 pc3 pc4 pc5
  refine (h14p _).mono ?_
  clear h14p
  rintro e' w2 ⟨v1, rfl, ho1, hbn⟩
  have kA := kA.later hbn
  have kB := kB.later hbn
  have ho1 := owned_less ho1 hb.size
  have hb := bl_trans hb hbn hb.size
  clear hbn
  obtain ⟨⟨qc0, qc1, qc2, qc3, qc4, qc5⟩, _⟩ := page_cells kB
  go_wp2_with (go_at_call 14; refine stop_ (fun Ps hPs => ?_))
  refine hPs ?_
  clear hPs Ps qc0 qc1 qc2 qc3 qc4 qc5
  refine (h14q _).mono ?_
  clear h14q
  rintro e' w3 ⟨v2, rfl, ho2, hbn⟩
  have kA := kA.later hbn
  have kB := kB.later hbn
  have ho1 := owned_later ho1 hbn
  have ho2 := owned_less ho2 hb.size
  have hb := bl_trans hb hbn hb.size
  clear hbn
  rw [HL1.out] at ho1
  rw [HL2.out] at ho2
  obtain ⟨A1, c1, rfl, q1, q2⟩ := owned_slice ho1
  obtain ⟨A2, c2, rfl, q3, q4⟩ := owned_slice ho2
  have hr1 := (Rd.of_own ho1).take (k := m2) (by omega)
  have hr2 := (Rd.of_own ho2).take (k := m2) (by omega)
  rw [Nat.mul_one, bts_take] at hr1 hr2
  have i1 : ((m2 : Nat) : Int) ≤ (c1 : Int) := by omega
  have i2 : ((m2 : Nat) : Int) ≤ (c2 : Int) := by omega
  have hmz : m2 ≤ 9223372036854775807 := by omega
  clear ho1 ho2
  obtain ⟨⟨pc0, pc1, pc2, pc3, pc4, pc5⟩, _⟩ := page_cells kA
  obtain ⟨⟨qc0, qc1, qc2, qc3, qc4, qc5⟩, _⟩ := page_cells kB
  go_wp2_with fail
  all_goals
    go_region_held3 (fun w' => (w'.cell? ⟨w.heap.size, 0, none⟩ = some (Value.int .i64 e) ∧ w'.cell? ⟨w.heap.size, 1, none⟩ = some (Value.int .u8 1) ∧ w'.cell? ⟨w.heap.size, 2, none⟩ = some (Value.int .i64 0) ∧ w'.cell? ⟨w.heap.size, 3, none⟩ = some (Value.int .u8 0) ∧ w'.cell? ⟨w.heap.size, 4, none⟩ = some (Value.int .i64 0) ∧ w'.cell? ⟨w.heap.size, 5, none⟩ = some (Value.int .i64 0)) ∧ (w'.cell? ⟨w.heap.size + 1, 0, none⟩ = some (Value.int .i64 b1) ∧ w'.cell? ⟨w.heap.size + 1, 1, none⟩ = some (Value.int .u8 b2) ∧ w'.cell? ⟨w.heap.size + 1, 2, none⟩ = some (Value.int .i64 b3) ∧ w'.cell? ⟨w.heap.size + 1, 3, none⟩ = some (Value.int .u8 b4) ∧ w'.cell? ⟨w.heap.size + 1, 4, none⟩ = some (Value.int .i64 b5) ∧ w'.cell? ⟨w.heap.size + 1, 5, none⟩ = some (Value.int .i64 b6))) (exact ⟨⟨pc0, pc1, pc2, pc3, pc4, pc5⟩, ⟨qc0, qc1, qc2, qc3, qc4, qc5⟩⟩)
      (first
        | (go_at_call 9; refine (h9 _).mono ?_; rintro e' w4 ⟨rfl, hq0⟩; have hq1 := below_src hq0; have kA := kA.later hq1; have kB := kB.later hq1; have hb := bl_trans hb hq1 hb.size; have hr1 := hr1.below hq1; have hr2 := hr2.below hq1; obtain ⟨⟨pc0, pc1, pc2, pc3, pc4, pc5⟩, _⟩ := page_cells kA; obtain ⟨⟨qc0, qc1, qc2, qc3, qc4, qc5⟩, _⟩ := page_cells kB)
        | (go_at_call 18; refine (same_at A1 A2 _ _ _ _ _ _ _ _ d _ HD.out hr1 hr2 hmz hmz).mono ?_; rintro e' w5 ⟨rfl, dd, hdd⟩; have hq1 := drewN_below hdd; clear hdd; have kA := kA.later hq1; have kB := kB.later hq1; have hb := bl_trans hb hq1 hb.size; obtain ⟨⟨pc0, pc1, pc2, pc3, pc4, pc5⟩, _⟩ := page_cells kA; obtain ⟨⟨qc0, qc1, qc2, qc3, qc4, qc5⟩, _⟩ := page_cells kB))
    go_wp2_with fail
    go_ret
    exact ⟨by simp, hb⟩
set_option maxHeartbeats 8000000 in
set_option maxRecDepth 100000 in
theorem unlike6_1nb (e ac b1 b2 b3 b4 b5 b6 : Int) (l1 l2 : List UInt8) (m1 m2 : Nat) (d : Bool) (w : World) (he1 : 1 ≤ e) (he2 : e ≤ 1048576) (hac : ¬ac = 0) (hl1 : l1.length = m1) (hl2 : l2.length = m2) (h60 : m1 ≤ 60) (h61 : m2 ≤ 60) (hmm : m2 < m1)
    (hd : decide (l1.take m2 = l2.take m2) = d)
    (h14p : ∀ w, Calls Try.prog 14 #[(Pg.mk e 1 ac 0 0 0).v] w (Coded l1 w)) (h14q : ∀ w, Calls Try.prog 14 #[(Pg.mk b1 b2 b3 b4 b5 b6).v] w (Coded l2 w))
    (h9 : ∀ w, Calls Try.prog 9 #[(Pg.mk e 1 ac 0 0 0).v, (Pg.mk b1 b2 b3 b4 b5 b6).v] w fun e w' => e = .returned (.bool d) ∧ Below w.heap.size w w') :
    Calls Try.prog 6 #[(Pg.mk e 1 ac 0 0 0).v, (Pg.mk b1 b2 b3 b4 b5 b6).v] w (Yes w) := by
  have hl := lives12
  have HD := hid hd
  have HL1 := hid hl1
  have HL2 := hid hl2
  have hmi : (m2 : Int) < (m1 : Int) := by omega
  clear hd hl1 hl2
  go_enter Try.func6, Try.ntmps6
  go_wp2_with (go_at_call 12; refine stop_ (fun Ps hPs => ?_))
  refine hPs ?_
  clear hPs Ps
  refine (hl _).mono ?_
  clear hl
  rintro e' w1 ⟨rfl, hb⟩
  obtain ⟨hb, kA, kB⟩ := two_blocks hb
  obtain ⟨⟨pc0, pc1, pc2, pc3, pc4, pc5⟩, _⟩ := page_cells kA
  go_wp2_with (go_at_call 14; refine stop_ (fun Ps hPs => ?_))
  refine hPs ?_
  clear hPs Ps pc0 pc1 pc2 pc3 pc4 pc5
  refine (h14p _).mono ?_
  clear h14p
  rintro e' w2 ⟨v1, rfl, ho1, hbn⟩
  have kA := kA.later hbn
  have kB := kB.later hbn
  have ho1 := owned_less ho1 hb.size
  have hb := bl_trans hb hbn hb.size
  clear hbn
  obtain ⟨⟨qc0, qc1, qc2, qc3, qc4, qc5⟩, _⟩ := page_cells kB
  go_wp2_with (go_at_call 14; refine stop_ (fun Ps hPs => ?_))
  refine hPs ?_
  clear hPs Ps qc0 qc1 qc2 qc3 qc4 qc5
  refine (h14q _).mono ?_
  clear h14q
  rintro e' w3 ⟨v2, rfl, ho2, hbn⟩
  have kA := kA.later hbn
  have kB := kB.later hbn
  have ho1 := owned_later ho1 hbn
  have ho2 := owned_less ho2 hb.size
  have hb := bl_trans hb hbn hb.size
  clear hbn
  rw [HL1.out] at ho1
  rw [HL2.out] at ho2
  obtain ⟨A1, c1, rfl, q1, q2⟩ := owned_slice ho1
  obtain ⟨A2, c2, rfl, q3, q4⟩ := owned_slice ho2
  have hr1 := (Rd.of_own ho1).take (k := m2) (by omega)
  have hr2 := (Rd.of_own ho2).take (k := m2) (by omega)
  rw [Nat.mul_one, bts_take] at hr1 hr2
  have i1 : ((m2 : Nat) : Int) ≤ (c1 : Int) := by omega
  have i2 : ((m2 : Nat) : Int) ≤ (c2 : Int) := by omega
  have hmz : m2 ≤ 9223372036854775807 := by omega
  clear ho1 ho2
  obtain ⟨⟨pc0, pc1, pc2, pc3, pc4, pc5⟩, _⟩ := page_cells kA
  obtain ⟨⟨qc0, qc1, qc2, qc3, qc4, qc5⟩, _⟩ := page_cells kB
  go_wp2_with fail
  all_goals
    go_region_held3 (fun w' => (w'.cell? ⟨w.heap.size, 0, none⟩ = some (Value.int .i64 e) ∧ w'.cell? ⟨w.heap.size, 1, none⟩ = some (Value.int .u8 1) ∧ w'.cell? ⟨w.heap.size, 2, none⟩ = some (Value.int .i64 ac) ∧ w'.cell? ⟨w.heap.size, 3, none⟩ = some (Value.int .u8 0) ∧ w'.cell? ⟨w.heap.size, 4, none⟩ = some (Value.int .i64 0) ∧ w'.cell? ⟨w.heap.size, 5, none⟩ = some (Value.int .i64 0)) ∧ (w'.cell? ⟨w.heap.size + 1, 0, none⟩ = some (Value.int .i64 b1) ∧ w'.cell? ⟨w.heap.size + 1, 1, none⟩ = some (Value.int .u8 b2) ∧ w'.cell? ⟨w.heap.size + 1, 2, none⟩ = some (Value.int .i64 b3) ∧ w'.cell? ⟨w.heap.size + 1, 3, none⟩ = some (Value.int .u8 b4) ∧ w'.cell? ⟨w.heap.size + 1, 4, none⟩ = some (Value.int .i64 b5) ∧ w'.cell? ⟨w.heap.size + 1, 5, none⟩ = some (Value.int .i64 b6))) (exact ⟨⟨pc0, pc1, pc2, pc3, pc4, pc5⟩, ⟨qc0, qc1, qc2, qc3, qc4, qc5⟩⟩)
      (first
        | (go_at_call 9; refine (h9 _).mono ?_; rintro e' w4 ⟨rfl, hq0⟩; have hq1 := below_src hq0; have kA := kA.later hq1; have kB := kB.later hq1; have hb := bl_trans hb hq1 hb.size; have hr1 := hr1.below hq1; have hr2 := hr2.below hq1; obtain ⟨⟨pc0, pc1, pc2, pc3, pc4, pc5⟩, _⟩ := page_cells kA; obtain ⟨⟨qc0, qc1, qc2, qc3, qc4, qc5⟩, _⟩ := page_cells kB)
        | (go_at_call 18; refine (same_at A1 A2 _ _ _ _ _ _ _ _ d _ HD.out hr1 hr2 hmz hmz).mono ?_; rintro e' w5 ⟨rfl, dd, hdd⟩; have hq1 := drewN_below hdd; clear hdd; have kA := kA.later hq1; have kB := kB.later hq1; have hb := bl_trans hb hq1 hb.size; obtain ⟨⟨pc0, pc1, pc2, pc3, pc4, pc5⟩, _⟩ := page_cells kA; obtain ⟨⟨qc0, qc1, qc2, qc3, qc4, qc5⟩, _⟩ := page_cells kB))
    go_wp2_with fail
    go_ret
    exact ⟨by simp, hb⟩
end Go.Proofs.Ytcfopaphpjmopaa
