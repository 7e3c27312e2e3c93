/- The chapter's examples of layer 9. -/
import Derived.Lib.SlBytesConst
import Derived.Test.YthihhmmpkbdmnaaRScan
namespace Go.Proofs.Ythihhmmpkbdmnaa
open Go.RowKit Go.Lg
set_option linter.unusedVariables false
set_option linter.unusedSimpArgs false

theorem lit_rdv (w : World) (t : TypeId) (vs : List Value) (cs : Array Value) (h : cs.toList = vs) : Rd (w.alloc (.cells cs t)) (w.heap.size + 1) 1 (some ⟨w.heap.size, 0, none⟩) vs.length vs := by
  have := Rd.lit (sz := 1) w cs t (0, 0) vs.length (by rw [← h]; simp)
  rwa [h] at this

theorem ex9_scan : Vi.scan [1, 97, 0, 2, 98] = ([[97], []], 3) := by decide +kernel
theorem ex9_frame : ([] : List UInt8) ++ Vi.fr [97, 98] = [2, 97, 98] := by decide +kernel

theorem scan_as (A : Option Addr) (n c : Nat) (l : List UInt8) (q : List (List UInt8) × Nat) (w : World) (hq : Vi.scan l = q) (h : Rd w w.heap.size 1 A n (bts l)) (hn : n ≤ 2000000) (hc : n ≤ c) (hcm : c ≤ maxLen) :
    Calls Try.prog 29 #[.slice A n c] w fun e w' => ∃ v vs, e = .returned (.tuple #[v, .int .i64 q.2]) ∧ Recs w' w.heap.size v vs q.1 ∧ Below w.heap.size w w' := by
  subst hq; exact fScan_any A n c l w h hn hc hcm

theorem RR.below {w w' : World} {B n : Nat} {A : Option Addr} {vs : List Value} {rs : List (List UInt8)} (h : RR w B A n vs rs) (hb : Below B w w') : RR w' B A n vs rs :=
  ⟨h.1.below hb, h.2.1, fun i u r hu hr => by
    obtain ⟨Ai, ci, q1, q2, q3⟩ := h.2.2 i u r hu hr
    exact ⟨Ai, ci, q1, q2.below hb, q3⟩⟩
theorem RR.more {w : World} {B B' n : Nat} {A : Option Addr} {vs : List Value} {rs : List (List UInt8)} (h : RR w B A n vs rs) (hb : B ≤ B') : RR w B' A n vs rs :=
  ⟨h.1.more hb, h.2.1, fun i u r hu hr => by
    obtain ⟨Ai, ci, q1, q2, q3⟩ := h.2.2 i u r hu hr
    exact ⟨Ai, ci, q1, q2.more hb, q3⟩⟩

theorem ex9_lits (w : World) : RR (((w.alloc (.cells #[.int .u8 97] 5)).alloc (.cells #[] 5)).alloc (.cells #[.slice (some ⟨w.heap.size, 0, none⟩) 1 1, .slice (some ⟨w.heap.size + 1, 0, none⟩) 0 0] 22)) (w.heap.size + 1 + 1 + 1) (some ⟨w.heap.size + 1 + 1, 0, none⟩) 2
    [.slice (some ⟨w.heap.size, 0, none⟩) 1 1, .slice (some ⟨w.heap.size + 1, 0, none⟩) 0 0] [[97], []] := by
  have h0 := lit_rd w [97] #[.int .u8 97] rfl
  have hs : (w.alloc (.cells #[.int .u8 97] 5)).heap.size = w.heap.size + 1 := World.size_alloc _ _
  have hs2 : ((w.alloc (.cells #[.int .u8 97] 5)).alloc (.cells #[] 5)).heap.size = w.heap.size + 1 + 1 := by rw [World.size_alloc, hs]
  refine ⟨by have := lit_rdv ((w.alloc (.cells #[.int .u8 97] 5)).alloc (.cells #[] 5)) 22 _ #[.slice (some ⟨w.heap.size, 0, none⟩) 1 1, .slice (some ⟨w.heap.size + 1, 0, none⟩) 0 0] rfl; rwa [hs2] at this, rfl, ?_⟩
  intro i u r hu hr
  match i with
  | 0 =>
    simp at hu hr
    subst hu hr
    exact ⟨_, 1, rfl, ((h0.alloc (by rw [hs]; exact Nat.le_refl _) _).alloc (by rw [hs2]; omega) _).more (by omega), by decide⟩
  | 1 =>
    simp at hu hr
    subst hu hr
    exact ⟨_, 0, rfl, Rd.nil_, by decide⟩
  | i + 2 => simp at hu

set_option maxHeartbeats 800000 in
set_option maxRecDepth 100000 in
theorem lives9_any (w : World) : Calls Try.prog 31 #[] w fun e w' => e = .returned (.bool true) ∧ Below w.heap.size w w' := by
  have kc := fun (w : World) (C : Array Value) (n c : Nat) => Lib.run_convert_bytes_const (P := Try.prog) w 22 5 C n c Try.underlying22 Try.underlying5
  have hr := lit_rd w [1, 97, 0, 2, 98] #[.int .u8 1, .int .u8 97, .int .u8 0, .int .u8 2, .int .u8 98] rfl
  go_enter Try.func31, Try.ntmps31
  go_wp2_with fail
  refine (scan_as _ 5 5 [1, 97, 0, 2, 98] _ _ ex9_scan (by simpa using hr) (by decide) (by decide) (by decide)).mono ?_
  rintro e w1 ⟨v, vs, rfl, hrec, hb⟩
  have hb1 : Below w.heap.size w w1 := ((Below.refl _ _).alloc (Nat.le_refl _) _).trans (hb.mono (by simp))
  have hs1 := hb1.size
  clear hr hb
  have hab := Rd.lit (sz := 1) w1 #[.int .u8 97, .int .u8 98] 5 (2, 3) 2 rfl
  rw [show (#[Value.int .u8 97, Value.int .u8 98] : Array Value).toList = bts [97, 98] from rfl] at hab
  go_wp2_with fail
  refine (fAppend_any none _ 0 0 2 2 [] [97, 98] [2, 97, 98] _ Rd.nil_ (by simpa using hab) (by decide) (by decide) ex9_frame.symm).mono ?_
  rintro e w2 ⟨v2, rfl, hown, hb2⟩
  have hbx : Below w1.heap.size w1 w2 := ((Below.refl _ _).alloc (Nat.le_refl _) _).trans (hb2.mono (by simp))
  have hB2 : Below w.heap.size w w2 := hb1.trans (hbx.mono hs1)
  have hs2 := hB2.size
  have hrec2 := hrec.later hbx
  obtain ⟨A1, c1, rfl, _, _⟩ := owned_slice hrec2.out
  obtain ⟨A2, c2, rfl, _, _⟩ := owned_slice hown
  have hrr := hrec2.reads
  have hrd := Rd.of_own hown
  clear hab hbx hb2 hb1 hs1 hrec hrec2 hown
  go_wp2_with fail
  have hl2 := ex9_lits w2
  have hB3 : Below w2.heap.size w2 (((w2.alloc (.cells #[.int .u8 97] 5)).alloc (.cells #[] 5)).alloc (.cells #[.slice (some ⟨w2.heap.size, 0, none⟩) 1 1, .slice (some ⟨w2.heap.size + 1, 0, none⟩) 0 0] 22)) :=
    (((Below.refl _ _).alloc (Nat.le_refl _) _).alloc (by simp) _).alloc (by simp; omega) _
  generalize hw3 : (((w2.alloc (.cells #[.int .u8 97] 5)).alloc (.cells #[] 5)).alloc (.cells #[.slice (some ⟨w2.heap.size, 0, none⟩) 1 1, .slice (some ⟨w2.heap.size + 1, 0, none⟩) 0 0] 22)) = w3 at *
  clear hw3
  have hs3 := hB3.size
  refine (records_any _ _ 2 _ 2 _ _ _ _ _ [[97], []] [[97], []] _ (hrr.2.below hB3) hl2 (by decide) (by decide)).mono ?_
  rintro e w4 ⟨rfl, d, rfl⟩
  have hs24 : w2.heap.size ≤ (w3.drewN d).heap.size := hs3
  have hrd3 := (hrd.below hB3).drewN d
  have hB4 : Below w.heap.size w (w3.drewN d) := below_drewN (hB2.trans (hB3.mono hs2)) d
  have hl4 := lit_rd (w3.drewN d) [2, 97, 98] #[.int .u8 2, .int .u8 97, .int .u8 98] rfl
  clear hrr hl2 hrd hB3 hB2
  generalize w3.drewN d = w4 at *
  have hs4 := hB4.size
  go_wp2_with fail
  refine (same_self _ _ 3 _ 3 _ _ _ [2, 97, 98] _ ((hrd3.more (B' := w4.heap.size) ?_).alloc (Nat.le_refl _) _) (by simpa using hl4) (by decide) (by decide)).mono ?_
  · exact hs24
  rintro e w5 ⟨rfl, d5, rfl⟩
  go_wp2_with fail
  go_ret
  exact ⟨rfl, below_drewN (hB4.alloc hs4 _) d5⟩
end Go.Proofs.Ythihhmmpkbdmnaa
