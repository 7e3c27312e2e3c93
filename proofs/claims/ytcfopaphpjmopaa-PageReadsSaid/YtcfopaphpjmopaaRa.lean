/- The reference's reader at any place of its bytes, with any bound. -/
import Derived.Test.YtcfopaphpjmopaaRef9b
namespace Go.Proofs.Ytcfopaphpjmopaa
open Go.RowKit Go.Lg
set_option linter.unusedVariables false
set_option linter.unusedSimpArgs false

set_option maxHeartbeats 800000 in
set_option maxRecDepth 100000 in
theorem rSm_ok (R : Nat) (A : Option Addr) (n c B : Nat) (l : List UInt8) (k m a t M : Nat) (w : World) (hR : Rdr w R A n c a false) (h : Rd w B 1 A n (bts l)) (hB : B ≤ w.heap.size) (hn : n ≤ c) (hcm : c ≤ maxLen) (hn2 : n ≤ 140737488355000) (hM : (M : Int) ≤ 1073741824) (hs : Vi.small M (l.drop a) = (k, m, 0)) (hm0 : 0 < m) (ht : t = a + m) (hm : t ≤ n) :
    Calls Try.prog 35 #[.pointer (some ⟨R, 0, none⟩), .int .i64 M] w fun e w' => e = .returned (.int .i64 k) ∧ Rdr w' R A n c t false ∧ w.grownBy w' (some R) := by
  have c0 := hR.cell 0
  have c1 := hR.cell 1
  have c2 := hR.cell 2
  simp only [List.getElem?_toArray, List.getElem?_cons_zero, List.getElem?_cons_succ] at c0 c1 c2
  have HS := hid hs
  have HR := hid hR
  have hcm0 := hid hcm
  unfold maxLen at hcm
  have hca : ¬ c = a := by omega
  have i2 : (a : Int) ≤ (n : Int) := by omega
  have hslice := h.drop (k := a) (cap := c) (by omega) hn
  rw [Nat.mul_one, bts_drop, if_neg hca] at hslice
  have HT := hid ht
  clear hs hR ht
  go_enter Try.func35, Try.ntmps35
  go_wp2_with fail
  go_region_held3 (fun w' => w'.cell? ⟨R, 0, none⟩ = some (.slice A n c) ∧ w'.cell? ⟨R, 1, none⟩ = some (.int .i64 a)) (first | exact ⟨c0, c1⟩ | exact ⟨q0, q1⟩)
    (first
      | (go_at_call 42; refine (refSmall_at _ (n - a) (c - a) B (l.drop a) M k m 0 _ hslice.drew (by omega) (by omega) HS.out).mono ?_; rintro e w2 ⟨rfl, hb2⟩; have q0 := (hb2.cell (p := ⟨R, 0, none⟩) HR.out.lt).trans c0; have q1 := (hb2.cell (p := ⟨R, 1, none⟩) HR.out.lt).trans c1))
  have hR2 : Blk w2 R 63 #[.slice A n c, .int .i64 (a : Nat), .bool false] := HR.out.later (below_src hb2)
  have hf1 := hR2.frozen 1
  have h0 : (((0 : Nat) : Int) != 0) = false := rfl
  have hset := hR2.set_ 1 (.int .i64 (t : Int))
  have HSET := hid hset
  have hg : w.grownBy w2 (some R) := gb_below (below_src hb2) _
  have hg2 := gb_setCell (p := ⟨R, 1, none⟩) (.int .i64 (t : Int)) hg
  have HG := hid hg2
  have hw : IntKind.i64.wrap ((a : Int) + (m : Int)) = (t : Int) := by rw [IntWalk.i64_in _ (by have := HT.out; omega), HT.out]; rfl
  have hw2 : wrap64 ((a : Int) + (m : Int)) = (t : Int) := by simp only [wrap64]; have := HT.out; omega
  clear hR2 hset hg hg2 h c0 c1 c2
  go_wp2_with fail
  go_ret
  exact ⟨rfl, HSET.out, HG.out⟩

set_option maxHeartbeats 800000 in
set_option maxRecDepth 100000 in
theorem rSm_in (R : Nat) (A : Option Addr) (n c B : Nat) (l : List UInt8) (a M : Nat) (w : World) (hR : Rdr w R A n c a false) (h : Rd w B 1 A n (bts l)) (hB : B ≤ w.heap.size) (hn : n ≤ c) (hcm : c ≤ maxLen) (hn2 : n ≤ 140737488355000) (hM : (M : Int) ≤ 1073741824) (hs : Vi.small M (l.drop a) = (0, 0, 5)) (ha : a ≤ n) (hca : ¬ c = a) :
    Calls Try.prog 35 #[.pointer (some ⟨R, 0, none⟩), .int .i64 M] w fun e w' => e = .returned (.int .i64 0) ∧ Rdr w' R A n c a true ∧ w.grownBy w' (some R) := by
  have c0 := hR.cell 0
  have c1 := hR.cell 1
  have c2 := hR.cell 2
  simp only [List.getElem?_toArray, List.getElem?_cons_zero, List.getElem?_cons_succ] at c0 c1 c2
  have HS := hid hs
  have HR := hid hR
  have hcm0 := hid hcm
  unfold maxLen at hcm
  have i2 : (a : Int) ≤ (n : Int) := by omega
  have hslice := h.drop (k := a) (cap := c) (by omega) hn
  rw [Nat.mul_one, bts_drop, if_neg hca] at hslice
  clear hs hR
  go_enter Try.func35, Try.ntmps35
  go_wp2_with fail
  go_region_held3 (fun w' => w'.cell? ⟨R, 0, none⟩ = some (.slice A n c) ∧ w'.cell? ⟨R, 1, none⟩ = some (.int .i64 a)) (first | exact ⟨c0, c1⟩ | exact ⟨q0, q1⟩)
    (first
      | (go_at_call 42; refine (refSmall_at _ (n - a) (c - a) B (l.drop a) M 0 0 5 _ hslice.drew (by omega) (by omega) HS.out).mono ?_; rintro e w2 ⟨rfl, hb2⟩; have q0 := (hb2.cell (p := ⟨R, 0, none⟩) HR.out.lt).trans c0; have q1 := (hb2.cell (p := ⟨R, 1, none⟩) HR.out.lt).trans c1))
  have hR2 : Blk w2 R 63 #[.slice A n c, .int .i64 (a : Nat), .bool false] := HR.out.later (below_src hb2)
  have hf1 := hR2.frozen 2
  have q2 := hR2.cell 2
  simp only [List.getElem?_toArray, List.getElem?_cons_zero, List.getElem?_cons_succ] at q2
  have h0 : (((5 : Nat) : Int) != 0) = true := rfl
  have hset := hR2.set_ 2 (.bool true)
  have HSET := hid hset
  have hg : w.grownBy w2 (some R) := gb_below (below_src hb2) _
  have hg2 := gb_setCell (p := ⟨R, 2, none⟩) (.bool true) hg
  have HG := hid hg2
  clear hR2 hset hg hg2 h c0 c1 c2
  go_wp2_with fail
  go_ret
  exact ⟨rfl, HSET.out, HG.out⟩

set_option maxHeartbeats 800000 in
set_option maxRecDepth 100000 in
theorem rSm_end (R : Nat) (A : Option Addr) (n c B : Nat) (l : List UInt8) (M : Nat) (w : World) (hR : Rdr w R A n c c false) (h : Rd w B 1 A n (bts l)) (hB : B ≤ w.heap.size) (hn : n ≤ c) (hcm : c ≤ maxLen) (hn2 : n ≤ 140737488355000) (hM : (M : Int) ≤ 1073741824) (hs : Vi.small M (l.drop c) = (0, 0, 5)) (ha : c ≤ n)  :
    Calls Try.prog 35 #[.pointer (some ⟨R, 0, none⟩), .int .i64 M] w fun e w' => e = .returned (.int .i64 0) ∧ Rdr w' R A n c c true ∧ w.grownBy w' (some R) := by
  have c0 := hR.cell 0
  have c1 := hR.cell 1
  have c2 := hR.cell 2
  simp only [List.getElem?_toArray, List.getElem?_cons_zero, List.getElem?_cons_succ] at c0 c1 c2
  have HS := hid hs
  have HR := hid hR
  have hcm0 := hid hcm
  unfold maxLen at hcm
  have i2 : (c : Int) ≤ (n : Int) := by omega
  have hslice := h.drop (k := c) (cap := c) (by omega) hn
  have hnc : n = c := by omega
  subst hnc
  rw [Nat.mul_one, bts_drop, if_pos rfl, Nat.sub_self] at hslice
  clear hs hR
  go_enter Try.func35, Try.ntmps35
  go_wp2_with fail
  go_region_held3 (fun w' => w'.cell? ⟨R, 0, none⟩ = some (.slice A n n) ∧ w'.cell? ⟨R, 1, none⟩ = some (.int .i64 n)) (first | exact ⟨c0, c1⟩ | exact ⟨q0, q1⟩)
    (first
      | (go_at_call 42; refine (refSmall_at _ 0 0 B (l.drop n) M 0 0 5 _ hslice.drew (by omega) (by omega) HS.out).mono ?_; rintro e w2 ⟨rfl, hb2⟩; have q0 := (hb2.cell (p := ⟨R, 0, none⟩) HR.out.lt).trans c0; have q1 := (hb2.cell (p := ⟨R, 1, none⟩) HR.out.lt).trans c1))
  have hR2 : Blk w2 R 63 #[.slice A n n, .int .i64 (n : Nat), .bool false] := HR.out.later (below_src hb2)
  have hf1 := hR2.frozen 2
  have q2 := hR2.cell 2
  simp only [List.getElem?_toArray, List.getElem?_cons_zero, List.getElem?_cons_succ] at q2
  have h0 : (((5 : Nat) : Int) != 0) = true := rfl
  have hset := hR2.set_ 2 (.bool true)
  have HSET := hid hset
  have hg : w.grownBy w2 (some R) := gb_below (below_src hb2) _
  have hg2 := gb_setCell (p := ⟨R, 2, none⟩) (.bool true) hg
  have HG := hid hg2
  clear hR2 hset hg hg2 h c0 c1 c2
  go_wp2_with fail
  go_ret
  exact ⟨rfl, HSET.out, HG.out⟩

theorem rSm_no (R : Nat) (A : Option Addr) (n c B : Nat) (l : List UInt8) (a M : Nat) (w : World) (hR : Rdr w R A n c a false) (h : Rd w B 1 A n (bts l)) (hB : B ≤ w.heap.size) (hn : n ≤ c) (hcm : c ≤ maxLen) (hn2 : n ≤ 140737488355000) (hM : (M : Int) ≤ 1073741824) (hs : Vi.small M (l.drop a) = (0, 0, 5)) (ha : a ≤ n) :
    Calls Try.prog 35 #[.pointer (some ⟨R, 0, none⟩), .int .i64 M] w fun e w' => e = .returned (.int .i64 0) ∧ Rdr w' R A n c a true ∧ w.grownBy w' (some R) := by
  by_cases hca : c = a
  · subst hca
    exact rSm_end R A n c B l M w hR h hB hn hcm hn2 hM hs ha
  · exact rSm_in R A n c B l a M w hR h hB hn hcm hn2 hM hs ha hca

set_option maxHeartbeats 800000 in
set_option maxRecDepth 100000 in
theorem rSm_bad (R : Nat) (A : Option Addr) (n c a : Nat) (M : Nat) (w : World) (hR : Rdr w R A n c a true) :
    Calls Try.prog 35 #[.pointer (some ⟨R, 0, none⟩), .int .i64 M] w fun e w' => e = .returned (.int .i64 0) ∧ Rdr w' R A n c a true ∧ w.grownBy w' (some R) := by
  have c2 := hR.cell 2
  simp only [List.getElem?_toArray, List.getElem?_cons_zero, List.getElem?_cons_succ] at c2
  have HR := hid hR
  clear hR
  go_enter Try.func35, Try.ntmps35
  go_wp2_with fail
  go_ret
  exact ⟨rfl, HR.out, World.grownBy.refl w (some R)⟩

/-- The reader's step. -/
def rst (M : Nat) (l : List UInt8) (a : Nat) (bad : Bool) : Nat × Nat × Bool :=
  if bad = true then (0, a, true) else if (Vi.small M (l.drop a)).2.2 = 0 then ((Vi.small M (l.drop a)).1, a + (Vi.small M (l.drop a)).2.1, false) else (0, a, true)
def RSm (R : Nat) (A : Option Addr) (n c : Nat) (s : Nat × Nat × Bool) (w : World) (e : Ending) (w' : World) : Prop :=
  e = .returned (.int .i64 s.1) ∧ Rdr w' R A n c s.2.1 s.2.2 ∧ w.grownBy w' (some R) ∧ s.2.1 ≤ n
theorem rSm_any (R : Nat) (A : Option Addr) (n c B : Nat) (l : List UInt8) (a M : Nat) (bad : Bool) (w : World) (hR : Rdr w R A n c a bad) (h : Rd w B 1 A n (bts l)) (hB : B ≤ w.heap.size) (hn : n ≤ c) (hcm : c ≤ maxLen) (hn2 : n ≤ 140737488355000) (hM : (M : Int) ≤ 1073741824) (ha : a ≤ n) :
    Calls Try.prog 35 #[.pointer (some ⟨R, 0, none⟩), .int .i64 M] w (RSm R A n c (rst M l a bad) w) := by
  have hl : l.length = n := by have := h.1; rw [bts_length] at this; omega
  cases bad with
  | true =>
    have e1 : rst M l a true = (0, a, true) := rfl
    rw [e1]
    exact (rSm_bad R A n c a M w hR).mono fun e w' ⟨h1, h2, h3⟩ => ⟨h1, h2, h3, ha⟩
  | false =>
    obtain ⟨k, m, e, hs⟩ : ∃ k m e, Vi.small M (l.drop a) = (k, m, e) := ⟨_, _, _, rfl⟩
    by_cases he : e = 0
    · subst he
      have h2 := Vi.small_len (m := M) (b := l.drop a) (by rw [hs])
      rw [hs, List.length_drop, hl] at h2
      obtain ⟨g1, g2, g3⟩ := h2
      have g1 : 0 < m := g1
      have g2 : m ≤ n - a := g2
      have e1 : rst M l a false = (k, a + m, false) := by simp [rst, hs]
      rw [e1]
      exact (rSm_ok R A n c B l k m a (a + m) M w hR h hB hn hcm hn2 hM hs g1 rfl (by omega)).mono fun e w' ⟨h1, h2, h3⟩ => ⟨h1, h2, h3, by show a + m ≤ n; omega⟩
    · have h1 := Vi.small_bad (m := M) (b := l.drop a) (by rw [hs]; exact he)
      have e1 : rst M l a false = (0, a, true) := by simp [rst, hs, he]
      rw [e1]
      exact (rSm_no R A n c B l a M w hR h hB hn hcm hn2 hM h1 ha).mono fun e w' ⟨h1, h2, h3⟩ => ⟨h1, h2, h3, ha⟩
end Go.Proofs.Ytcfopaphpjmopaa
