/- A transaction that is not there, or that nobody made, refuses every call: the walk. -/
import Derived.Test.YtlbekgephjlffaaKi
namespace Go.Proofs.Ytlbekgephjlffaa
open Go.RowKit Go.Lg Go.Shelf
set_option linter.unusedVariables false
set_option linter.unusedSimpArgs false

/-- No txn. -/
def Bad (p : Value) (w : World) : Prop := p = .pointer none ∨ ∃ z, p = P z ∧ Blk w z 50 #[.bool false, .bool false, .slice none 0 0]
theorem Bad.later {p : Value} {w w' : World} (h : Bad p w) (hb : Below w.heap.size w w') : Bad p w' := by
  rcases h with h | ⟨z, h1, h2⟩
  · exact .inl h
  · exact .inr ⟨z, h1, h2.later hb⟩
def One (w : World) (e : Ending) (w' : World) : Prop := e = .returned (.int .i64 1) ∧ Below w.heap.size w w'
set_option maxRecDepth 100000 in
set_option maxHeartbeats 4000000 in
theorem bad26 {p : Value} {w : World} (h : Bad p w) : Calls Try.prog 26 #[p] w (fun e w' => e = .returned (.int .i64 1) ∧ w' = w) := by
  rcases h with rfl | ⟨z, rfl, h⟩
  · go_enter Try.func26, Try.ntmps26
    go_wp2_with fail
    go_ret
    exact ⟨rfl, rfl⟩
  · have c0 : w.cell? ⟨z, 0, none⟩ = some (.bool false) := h.cell 0
    clear h
    go_enter Try.func26, Try.ntmps26
    go_wp2_with fail
    go_ret
    exact ⟨rfl, rfl⟩
set_option maxRecDepth 100000 in
set_option maxHeartbeats 4000000 in
theorem bad25 {p : Value} {w : World} (h : Bad p w) (a : Bool) (k v : ByteArray) : Calls Try.prog 25 #[p, .agg #[.bool a, .string k, .string v]] w (One w) := by
  have hb := (Below.refl w.heap.size w).alloc (Nat.le_refl _) (.cells #[.bool a, .string k, .string v] 43)
  obtain ⟨W, hW⟩ : ∃ W, W = w.alloc (.cells #[.bool a, .string k, .string v] 43) := ⟨_, rfl⟩
  rw [← hW] at hb
  have hwr := bad26 (h.later hb)
  have HB := hid hb
  clear h hb
  go_enter Try.func25, Try.ntmps25
  go_wp2_with (go_at_call 26; refine stop_ (fun Ps hPs => ?_))
  refine hPs ?_
  clear hPs Ps
  rw [← hW]
  clear hW
  refine hwr.mono ?_
  clear hwr
  rintro e w1 ⟨rfl, h9⟩
  subst h9
  go_wp2_with fail
  go_ret
  exact ⟨rfl, HB.out⟩
set_option maxRecDepth 100000 in
set_option maxHeartbeats 4000000 in
theorem bad10 {p : Value} {w : World} (h : Bad p w) (k v : ByteArray) : Calls Try.prog 10 #[p, .string k, .string v] w (One w) := by
  have ha := bad25 h true k v
  clear h
  go_enter Try.func10, Try.ntmps10
  go_wp2_with (go_at_call 25; refine stop_ (fun Ps hPs => ?_))
  refine hPs ?_
  clear hPs Ps
  refine ha.mono ?_
  rintro e w1 ⟨rfl, hb⟩
  go_wp2_with fail
  go_ret
  exact ⟨rfl, hb⟩
set_option maxRecDepth 100000 in
set_option maxHeartbeats 4000000 in
theorem bad12 {p : Value} {w : World} (h : Bad p w) (k : ByteArray) : Calls Try.prog 12 #[p, .string k] w (One w) := by
  have ha := bad25 h false k s0
  clear h
  go_enter Try.func12, Try.ntmps12
  go_wp2_with (go_at_call 25; refine stop_ (fun Ps hPs => ?_))
  refine hPs ?_
  clear hPs Ps
  refine ha.mono ?_
  rintro e w1 ⟨rfl, hb⟩
  go_wp2_with fail
  go_ret
  exact ⟨rfl, hb⟩
set_option maxRecDepth 100000 in
set_option maxHeartbeats 4000000 in
theorem bad13 {p : Value} {w : World} (h : Bad p w) (n : Int) : Calls Try.prog 13 #[p, .int .i64 n] w (One w) := by
  have hwr := bad26 h
  clear h
  go_enter Try.func13, Try.ntmps13
  go_wp2_with (go_at_call 26; refine hwr.mono ?_; clear hwr; rintro e w1 ⟨rfl, rfl⟩)
  go_ret
  exact ⟨rfl, Below.refl _ _⟩
set_option maxRecDepth 100000 in
set_option maxHeartbeats 4000000 in
theorem bad18 {p : Value} {w : World} (h : Bad p w)  : Calls Try.prog 18 #[p] w (One w) := by
  have hwr := bad26 h
  clear h
  go_enter Try.func18, Try.ntmps18
  go_wp2_with (go_at_call 26; refine hwr.mono ?_; clear hwr; rintro e w1 ⟨rfl, rfl⟩)
  go_ret
  exact ⟨rfl, Below.refl _ _⟩
set_option maxRecDepth 100000 in
set_option maxHeartbeats 4000000 in
theorem bad11 {p : Value} {w : World} (h : Bad p w)  : Calls Try.prog 11 #[p] w (fun e w' => e = .returned (.int .i64 0) ∧ w' = w) := by
  have hwr := bad26 h
  clear h
  go_enter Try.func11, Try.ntmps11
  go_wp2_with (go_at_call 26; refine hwr.mono ?_; clear hwr; rintro e w1 ⟨rfl, rfl⟩)
  go_ret
  exact ⟨rfl, rfl⟩
set_option maxRecDepth 100000 in
set_option maxHeartbeats 4000000 in
theorem bad14 {p : Value} {w : World} (h : Bad p w) : Calls Try.prog 14 #[p] w (fun e w' => e = .returned (.tuple #[.slice none 0 0, .int .i64 1]) ∧ Below w.heap.size w w') := by
  have hb := (Below.refl w.heap.size w).alloc (Nat.le_refl _) (.cells #[p] 24)
  have kt := Blk.new w 24 #[p]
  obtain ⟨W, hW⟩ : ∃ W, W = w.alloc (.cells #[p] 24) := ⟨_, rfl⟩
  rw [← hW] at hb kt
  have t0 : W.cell? ⟨w.heap.size, 0, none⟩ = some p := kt.cell 0
  have hwr := bad26 (h.later hb)
  have HB := hid hb
  clear hb kt
  rcases h with rfl | ⟨z, rfl, h⟩
  · go_enter_defers Try.func14, Try.ntmps14
    go_wp2_with (go_at_call 26; refine stop_ (fun Ps hPs => ?_))
    refine hPs ?_
    clear hPs Ps
    rw [← hW]
    clear hW
    refine hwr.mono ?_
    clear hwr
    rintro e w1 ⟨rfl, h9⟩
    subst h9
    go_wp2_with fail
    refine ⟨_, results_tmp2 rfl _ _ _, ?_⟩
    exact ⟨rfl, HB.out⟩
  · clear h
    go_enter_defers Try.func14, Try.ntmps14
    go_wp2_with (go_at_call 26; refine stop_ (fun Ps hPs => ?_))
    refine hPs ?_
    clear hPs Ps
    rw [← hW]
    clear hW
    refine hwr.mono ?_
    clear hwr
    rintro e w1 ⟨rfl, h9⟩
    subst h9
    go_wp2_with fail
    refine ⟨_, results_tmp2 rfl _ _ _, ?_⟩
    exact ⟨rfl, HB.out⟩
set_option maxRecDepth 100000 in
set_option maxHeartbeats 4000000 in
theorem bad17 {p : Value} {w : World} (h : Bad p w) (key : ByteArray) : Calls Try.prog 17 #[p, .string key] w (Gets (s0, false, false) w) := by
  refine (callsIn_wide (n := 3)).1 ?_
  have hro : Fence.wide.round = none := rfl
  have t26 : Fence.wide.fn 26 := trivial
  obtain ⟨W, hW⟩ : ∃ W, (((w.alloc (.cells #[.string key] 9)).alloc (.cells #[.string ⟨#[]⟩] 9)).alloc (.cells #[.bool false] 4)).alloc (.cells #[.bool false] 4) = W := ⟨_, rfl⟩
  have bV := ((Boxed.new (w.alloc (.cells #[.string key] 9)) 9 (.string ⟨#[]⟩)).alloc (.cells #[.bool false] 4)).alloc (.cells #[.bool false] 4)
  have bM := (Boxed.new ((w.alloc (.cells #[.string key] 9)).alloc (.cells #[.string ⟨#[]⟩] 9)) 4 (.bool false)).alloc (.cells #[.bool false] 4)
  have bT := Boxed.new (((w.alloc (.cells #[.string key] 9)).alloc (.cells #[.string ⟨#[]⟩] 9)).alloc (.cells #[.bool false] 4)) 4 (.bool false)
  simp only [World.size_alloc] at bV bM bT
  have hB : Below w.heap.size w ((((w.alloc (.cells #[.string key] 9)).alloc (.cells #[.string ⟨#[]⟩] 9)).alloc (.cells #[.bool false] 4)).alloc (.cells #[.bool false] 4)) :=
    ((((Below.refl _ w).alloc (Nat.le_refl _) _).alloc (by simp) _).alloc (by simp; omega) _).alloc (by simp; omega) _
  rw [hW] at bV bM bT hB
  have hwr := bad26 (h.later hB)
  have cV := bV.cell
  have cM := bM.cell
  have cT := bT.cell
  have fV := bV.frozen
  have fM := bM.frozen
  have fT := bT.frozen
  obtain ⟨g1, g2, g3, g4, g5⟩ := three (b := w.heap.size) (.string ⟨#[]⟩) (.bool false) (.bool false) bV bM bT
  have G2 := hid (hB.trans g2)
  have c1 := g3.cell
  have c2 := g4.cell
  have c3 := g5.cell
  clear h g1 g2 g3 g4 g5 bV bM bT hB
  refine callsIn_of_wp_marks Try.func17 rfl trivial ?_ hro
  simp only [Try.ntmps17, List.size_toArray, List.length_cons, List.length_nil, Nat.reduceAdd, Nat.reduceSub, Array.replicate_succ, Array.replicate_zero, List.push_toArray, List.append_toArray, List.nil_append, List.cons_append]
  gi_wp2_with (gi_at_call 26; refine (callsIn_wide.2 hwr).mono ?_; clear hwr; rintro e w1 ⟨rfl, h9⟩; subst h9)
  refine ⟨_, ?_, gets_eq rfl G2.out⟩
  simp [results, Try.results17, Try.f17, go_sem, c1, c2, c3]
set_option maxRecDepth 100000 in
set_option maxHeartbeats 4000000 in
theorem nil6 (k n : Int) (key val : ByteArray) (w : World) : Calls Try.prog 6 #[.agg #[.int .i64 k, .string key, .string val, .int .i64 n]] w (Yes w) := by
  have ka := Blk.new w 29 #[.int .i64 k, .string key, .string val, .int .i64 n]
  have hb1 := (Below.refl w.heap.size w).alloc (Nat.le_refl _) (.cells #[.int .i64 k, .string key, .string val, .int .i64 n] 29)
  obtain ⟨w1, hw1⟩ : ∃ W, W = w.alloc (.cells #[.int .i64 k, .string key, .string val, .int .i64 n] 29) := ⟨_, rfl⟩
  rw [← hw1] at ka hb1
  have kz := Blk.new w1 50 #[.bool false, .bool false, .slice none 0 0]
  have hb2 := (Below.refl w1.heap.size w1).alloc (Nat.le_refl _) (.cells #[.bool false, .bool false, .slice none 0 0] 50)
  have hs1 : w1.heap.size = w.heap.size + 1 := by rw [hw1]; simp
  obtain ⟨w2, hw2⟩ : ∃ W, W = w1.alloc (.cells #[.bool false, .bool false, .slice none 0 0] 50) := ⟨_, rfl⟩
  rw [← hw2, hs1] at kz
  rw [← hw2] at hb2
  have hs2 : w2.heap.size = w.heap.size + 1 + 1 := by rw [hw2]; simp [hs1]
  have kl := Blk.new w2 24 #[.pointer none, P (w.heap.size + 1)]
  have hb3 := (Below.refl w2.heap.size w2).alloc (Nat.le_refl _) (.cells #[.pointer none, P (w.heap.size + 1)] 24)
  obtain ⟨w3, hw3⟩ : ∃ W, W = w2.alloc (.cells #[.pointer none, P (w.heap.size + 1)] 24) := ⟨_, rfl⟩
  rw [← hw3, hs2] at kl
  rw [← hw3] at hb3
  have ka3 := (ka.later hb2).later hb3
  have kz3 := kz.later hb3
  have hb := (hb1.trans (hb2.mono hb1.size)).trans (hb3.mono (by rw [hs2]; omega))
  have e1 : w3 = ((w.alloc (.cells #[.int .i64 k, .string key, .string val, .int .i64 n] 29)).alloc (.cells #[.bool false, .bool false, .slice none 0 0] 50)).alloc (.cells #[.pointer none, P (w.heap.size + 1)] 24) := by rw [hw3, hw2, hw1]
  clear ka kz hb1 hb2 hb3 hw1 hw2 hw3 hs1 hs2
  go_enter Try.func6, Try.ntmps6
  go_wp2_with fail
  rw [← e1]
  clear e1
  go_loopg [4] 2 (fun q i wr => ∃ j : Nat, j ≤ 2 ∧ q = 2 - j ∧ i = .int .i64 j ∧ Blk wr w.heap.size 29 #[.int .i64 k, .string key, .string val, .int .i64 n] ∧ Blk wr (w.heap.size + 1) 50 #[.bool false, .bool false, .slice none 0 0] ∧ Blk wr (w.heap.size + 1 + 1) 24 #[.pointer none, P (w.heap.size + 1)] ∧ Below w.heap.size w wr)
  case atStart => exact ⟨0, by omega, rfl, rfl, ka3, kz3, kl, hb⟩
  case round =>
    clear ka3 kz3 kl hb
    obtain ⟨j, hj, rfl, rfl, ka, kz, kl, hb⟩ := hrel
    by_cases hlt : j < 2
    · obtain ⟨p, hp, hbad⟩ : ∃ p, wr.cell? ⟨w.heap.size + 1 + 1, j, none⟩ = some p ∧ Bad p wr := by
        obtain rfl | rfl : j = 0 ∨ j = 1 := by omega
        · exact ⟨_, kl.cell 0, .inl rfl⟩
        · exact ⟨_, kl.cell 1, .inr ⟨_, rfl, kz⟩⟩
      have hji : (j : Int) < 2 := by omega
      have hle : w.heap.size ≤ wr.heap.size := hb.size
      go_wp2_with (go_at_call 14; refine stop_ (fun Ps hPs => ?_))
      refine hPs ?_
      clear hPs Ps hp
      refine (bad14 hbad).mono ?_
      rintro e u1 ⟨rfl, hbn⟩
      have hbad := hbad.later hbn
      have ka := ka.later hbn
      have kz := kz.later hbn
      have kl := kl.later hbn
      have hb := bl_trans hb hbn hle
      have hle : w.heap.size ≤ u1.heap.size := hb.size
      clear hbn
      have a1 : u1.cell? ⟨w.heap.size, 1, none⟩ = some (.string key) := ka.cell 1
      go_wp2_with (go_at_call 17; refine stop_ (fun Ps hPs => ?_))
      refine hPs ?_
      clear hPs Ps a1
      refine (bad17 hbad key).mono ?_
      rintro e u2 ⟨rfl, hbn⟩
      have hbad := hbad.later hbn
      have ka := ka.later hbn
      have kz := kz.later hbn
      have kl := kl.later hbn
      have hb := bl_trans hb hbn hle
      have hle : w.heap.size ≤ u2.heap.size := hb.size
      clear hbn
      have a1 : u2.cell? ⟨w.heap.size, 1, none⟩ = some (.string key) := ka.cell 1
      have a2 : u2.cell? ⟨w.heap.size, 2, none⟩ = some (.string val) := ka.cell 2
      go_wp2_with (go_at_call 10; refine stop_ (fun Ps hPs => ?_))
      refine hPs ?_
      clear hPs Ps a1 a2
      refine (bad10 hbad key val).mono ?_
      rintro e u3 ⟨rfl, hbn⟩
      have hbad := hbad.later hbn
      have ka := ka.later hbn
      have kz := kz.later hbn
      have kl := kl.later hbn
      have hb := bl_trans hb hbn hle
      have hle : w.heap.size ≤ u3.heap.size := hb.size
      clear hbn
      have a1 : u3.cell? ⟨w.heap.size, 1, none⟩ = some (.string key) := ka.cell 1
      go_wp2_with (go_at_call 12; refine stop_ (fun Ps hPs => ?_))
      refine hPs ?_
      clear hPs Ps a1
      refine (bad12 hbad key).mono ?_
      rintro e u4 ⟨rfl, hbn⟩
      have hbad := hbad.later hbn
      have ka := ka.later hbn
      have kz := kz.later hbn
      have kl := kl.later hbn
      have hb := bl_trans hb hbn hle
      have hle : w.heap.size ≤ u4.heap.size := hb.size
      clear hbn
      have a1 : u4.cell? ⟨w.heap.size, 3, none⟩ = some (.int .i64 n) := ka.cell 3
      go_wp2_with (go_at_call 13; refine stop_ (fun Ps hPs => ?_))
      refine hPs ?_
      clear hPs Ps a1
      refine (bad13 hbad n).mono ?_
      rintro e u5 ⟨rfl, hbn⟩
      have hbad := hbad.later hbn
      have ka := ka.later hbn
      have kz := kz.later hbn
      have kl := kl.later hbn
      have hb := bl_trans hb hbn hle
      have hle : w.heap.size ≤ u5.heap.size := hb.size
      clear hbn
      go_wp2_with (go_at_call 18; refine stop_ (fun Ps hPs => ?_))
      refine hPs ?_
      clear hPs Ps
      refine (bad18 hbad).mono ?_
      rintro e u6 ⟨rfl, hbn⟩
      have hbad := hbad.later hbn
      have ka := ka.later hbn
      have kz := kz.later hbn
      have kl := kl.later hbn
      have hb := bl_trans hb hbn hle
      clear hbn
      have q0 : (s0.toList.isEmpty) = true := s0_list
      go_wp2_with (go_at_call 11; refine stop_ (fun Ps hPs => ?_))
      refine hPs ?_
      clear hPs Ps
      refine (bad11 hbad).mono ?_
      rintro e u7 ⟨rfl, rfl⟩
      clear q0
      go_wp2_with fail
      go_roundg (2 - (j + 1))
      case measure => omega
      case rel => exact ⟨j + 1, by omega, rfl, by go_num, ka, kz, kl, hb⟩
    · obtain rfl : j = 2 := by omega
      have hle : w.heap.size ≤ wr.heap.size := hb.size
      go_wp2_with (go_at_call 8; refine stop_ (fun Ps hPs => ?_))
      refine hPs ?_
      clear hPs Ps
      refine (lives8 wr).mono ?_
      rintro e u1 ⟨rfl, hbn⟩
      have hb := bl_trans hb hbn hle
      go_wp2_with fail
      go_ret
      exact ⟨rfl, hb⟩
end Go.Proofs.Ytlbekgephjlffaa
