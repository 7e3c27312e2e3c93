/- The walks through the reference's frames. -/
import Derived.Test.YthihhmmpkbdmnaaScan
namespace Go.Proofs.Ythihhmmpkbdmnaa
open Go.RowKit Go.Lg
set_option linter.unusedVariables false
set_option linter.unusedSimpArgs false

/-- A reader's block. -/
def Rdr (w : World) (R : Nat) (A : Option Addr) (n c a : Nat) (bad : Bool) : Prop := Blk w R 62 #[.slice A n c, .int .i64 a, .bool bad]

set_option maxHeartbeats 800000 in
set_option maxRecDepth 100000 in
theorem rSmall_ok (R : Nat) (A : Option Addr) (n c B : Nat) (l : List UInt8) (k m : Nat) (w : World) (hR : Rdr w R A n c 0 false) (h : Rd w B 1 A n (bts l)) (hB : B ≤ w.heap.size) (hn : n ≤ c) (hcm : c ≤ maxLen) (hs : Vi.small 131072 l = (k, m, 0)) (hm : m ≤ 10) :
    Calls Try.prog 43 #[.pointer (some ⟨R, 0, none⟩), .int .i64 131072] w fun e w' => e = .returned (.int .i64 k) ∧ Rdr w' R A n c m false ∧ w.grownBy w' (some R) := by
  have c0 := hR.cell 0
  have c1 := hR.cell 1
  have c2 := hR.cell 2
  simp only [List.getElem?_toArray, List.getElem?_cons_zero, List.getElem?_cons_succ] at c0 c1 c2
  have HS := hid hs
  have HR := hid hR
  unfold maxLen at hcm
  clear hs hR
  go_enter Try.func43, Try.ntmps43
  go_wp2_with fail
  go_region_held3 (fun w' => w'.cell? ⟨R, 0, none⟩ = some (.slice A n c) ∧ w'.cell? ⟨R, 1, none⟩ = some (.int .i64 0)) (first | exact ⟨c0, c1⟩ | exact ⟨q0, q1⟩)
    (first
      | (go_at_call 27; refine (refSmall_at A n c B l 131072 k m 0 _ h.drew (by omega) (by decide) HS.out).mono ?_; rintro e w2 ⟨rfl, hb2⟩; have q0 := (hb2.cell (p := ⟨R, 0, none⟩) HR.out.lt).trans c0; have q1 := (hb2.cell (p := ⟨R, 1, none⟩) HR.out.lt).trans c1))
  have hR2 : Blk w2 R 62 #[.slice A n c, .int .i64 (0 : Nat), .bool false] := HR.out.later (below_src hb2)
  have hf1 := hR2.frozen 1
  have h0 : (((0 : Nat) : Int) != 0) = false := rfl
  have hset := hR2.set_ 1 (.int .i64 (m : Int))
  have HSET := hid hset
  have hg : w.grownBy w2 (some R) := gb_below (below_src hb2) _
  have hg2 := gb_setCell (p := ⟨R, 1, none⟩) (.int .i64 (m : Int)) hg
  have HG := hid hg2
  clear hR2 hset hg hg2 h c0 c1 c2
  go_wp2_with fail
  go_ret
  exact ⟨rfl, HSET.out, HG.out⟩

set_option maxHeartbeats 800000 in
set_option maxRecDepth 100000 in
theorem rSmall_bad (R : Nat) (A : Option Addr) (n c B : Nat) (l : List UInt8) (w : World) (hR : Rdr w R A n c 0 false) (h : Rd w B 1 A n (bts l)) (hB : B ≤ w.heap.size) (hn : n ≤ c) (hcm : c ≤ maxLen) (hs : Vi.small 131072 l = (0, 0, 5)) :
    Calls Try.prog 43 #[.pointer (some ⟨R, 0, none⟩), .int .i64 131072] w fun e w' => e = .returned (.int .i64 0) ∧ Rdr w' R A n c 0 true ∧ w.grownBy w' (some R) := by
  have c0 := hR.cell 0
  have c1 := hR.cell 1
  have c2 := hR.cell 2
  simp only [List.getElem?_toArray, List.getElem?_cons_zero, List.getElem?_cons_succ] at c0 c1 c2
  have HS := hid hs
  have HR := hid hR
  unfold maxLen at hcm
  clear hs hR
  go_enter Try.func43, Try.ntmps43
  go_wp2_with fail
  go_region_held3 (fun w' => w'.cell? ⟨R, 0, none⟩ = some (.slice A n c) ∧ w'.cell? ⟨R, 1, none⟩ = some (.int .i64 0)) (first | exact ⟨c0, c1⟩ | exact ⟨q0, q1⟩)
    (first
      | (go_at_call 27; refine (refSmall_at A n c B l 131072 0 0 5 _ h.drew (by omega) (by decide) HS.out).mono ?_; rintro e w2 ⟨rfl, hb2⟩; have q0 := (hb2.cell (p := ⟨R, 0, none⟩) HR.out.lt).trans c0; have q1 := (hb2.cell (p := ⟨R, 1, none⟩) HR.out.lt).trans c1))
  have hR2 : Blk w2 R 62 #[.slice A n c, .int .i64 (0 : Nat), .bool false] := HR.out.later (below_src hb2)
  have hf1 := hR2.frozen 2
  have q2 := hR2.cell 2
  simp only [List.getElem?_toArray, List.getElem?_cons_zero, List.getElem?_cons_succ] at q2
  have h0 : (((5 : Nat) : Int) != 0) = true := rfl
  have hset := hR2.set_ 2 (.bool true)
  have HSET := hid hset
  have hg : w.grownBy w2 (some R) := gb_below (below_src hb2) _
  have hg2 := gb_setCell (p := ⟨R, 2, none⟩) (.bool true) hg
  have HG := hid hg2
  clear hR2 hset hg hg2 h c0 c1 c2
  go_wp2_with fail
  go_ret
  exact ⟨rfl, HSET.out, HG.out⟩

set_option maxHeartbeats 800000 in
set_option maxRecDepth 100000 in
theorem rBytes_bad (R : Nat) (A : Option Addr) (n c a : Nat) (k : Nat) (w : World) (hR : Rdr w R A n c a true) :
    Calls Try.prog 42 #[.pointer (some ⟨R, 0, none⟩), .int .i64 k] w fun e w' => e = .returned (.slice none 0 0) ∧ Rdr w' R A n c a true ∧ w.grownBy w' (some R) := by
  have c2 := hR.cell 2
  have hf2 := hR.frozen 2
  simp only [List.getElem?_toArray, List.getElem?_cons_zero, List.getElem?_cons_succ] at c2
  have HR := hid hR
  clear hR
  go_enter Try.func42, Try.ntmps42
  go_wp2_with fail
  go_quiet (fail)
  go_wp2_with fail
  go_ret
  exact ⟨rfl, Blk.set_ (Blk.drewN HR.out nq) 2 (.bool true), gb_setCell (p := ⟨R, 2, none⟩) (.bool true) (gb_drewN (World.grownBy.refl w (some R)) nq)⟩

set_option maxHeartbeats 800000 in
set_option maxRecDepth 100000 in
theorem rBytes_far (R : Nat) (A : Option Addr) (n c a : Nat) (k : Nat) (w : World) (hR : Rdr w R A n c a false) (hn : n ≤ 9223372036854775807) (ha : a ≤ n) (hk : n < a + k) :
    Calls Try.prog 42 #[.pointer (some ⟨R, 0, none⟩), .int .i64 k] w fun e w' => e = .returned (.slice none 0 0) ∧ Rdr w' R A n c a true ∧ w.grownBy w' (some R) := by
  have c0 := hR.cell 0
  have c1 := hR.cell 1
  have c2 := hR.cell 2
  have hf2 := hR.frozen 2
  simp only [List.getElem?_toArray, List.getElem?_cons_zero, List.getElem?_cons_succ] at c0 c1 c2
  have HR := hid hR
  have hlt : (n : Int) - (a : Int) < (k : Int) := by omega
  clear hR
  go_enter Try.func42, Try.ntmps42
  go_wp2_with fail
  go_quiet (fail)
  go_wp2_with fail
  go_ret
  exact ⟨rfl, Blk.set_ (Blk.drewN HR.out nq) 2 (.bool true), gb_setCell (p := ⟨R, 2, none⟩) (.bool true) (gb_drewN (World.grownBy.refl w (some R)) nq)⟩

set_option maxHeartbeats 800000 in
set_option maxRecDepth 100000 in
theorem rBytes_in (R : Nat) (A : Option Addr) (n c a t B : Nat) (k : Nat) (l r : List UInt8) (w : World) (hR : Rdr w R A n c a false) (h : Rd w B 1 A n (bts l)) (hB : B ≤ w.heap.size) (hn : n ≤ 140737488354000) (hc : n ≤ c) (hcm : c ≤ maxLen) (ht : t = a + k) (hk : t ≤ n) (hca : ¬ c = a) (hr : r = (l.take t).drop a) :
    Calls Try.prog 42 #[.pointer (some ⟨R, 0, none⟩), .int .i64 k] w fun e w' => ∃ v, e = .returned v ∧ w'.ownsRow w.heap.size 5 1 v r.length (bts r) ∧ Rdr w' R A n c t false ∧ w.grownBy w' (some R) := by
  have c0 := hR.cell 0
  have c1 := hR.cell 1
  have c2 := hR.cell 2
  simp only [List.getElem?_toArray, List.getElem?_cons_zero, List.getElem?_cons_succ] at c0 c1 c2
  have HR := hid hR
  have HT := hid ht
  have hlt : (k : Int) ≤ (n : Int) - (a : Int) := by omega
  have hat : a ≤ t := by omega
  unfold maxLen at hcm
  have hslice := (h.take hk).drop (k := a) (cap := c) hat (by omega)
  rw [Nat.mul_one, Nat.mul_one, bts_take, bts_drop, ← hr] at hslice
  clear hR ht hr
  rw [if_neg hca] at hslice
  go_enter Try.func42, Try.ntmps42
  go_wp2_with fail
  go_quiet (fail)
  go_wp2_with fail
  have hw : IntKind.i64.wrap ((a : Int) + (k : Int)) = (t : Int) := by rw [IntWalk.i64_in _ (by omega), HT.out]; rfl
  have i1 : (0 : Int) ≤ (a : Int) := by omega
  have i2 : (a : Int) ≤ (t : Int) := by omega
  have i3 : (t : Int) ≤ (c : Int) := by omega
  go_region_held3 (fun w' => w'.cell? ⟨R, 0, none⟩ = some (.slice A n c) ∧ w'.cell? ⟨R, 1, none⟩ = some (.int .i64 a)) (first | exact ⟨c0, c1⟩ | exact ⟨q0, q1⟩)
    (first
      | (refine step_app T22 (.tmp 27) (.tmp 42) rfl rfl (World.ownsRow_nil _ w.heap.size 5 1) rfl (hslice.drewN nq).drew rfl (bts_one r) (by omega) (Nat.le_refl _) ?_; intro v2 w2 hv2 hg hat2; have q0 : w2.cell? ⟨R, 0, none⟩ = some (.slice A n c) := World.grownBy.cell hg c0 (by simp [Value.ownBlock]); have q1 : w2.cell? ⟨R, 1, none⟩ = some (.int .i64 a) := World.grownBy.cell hg c1 (by simp [Value.ownBlock])))
  have hrl : t - a = r.length := by have := hslice.1; rw [bts_length] at this; omega
  rw [List.nil_append, Nat.zero_add, hrl] at hv2
  have hR2 : Blk w2 R 62 #[.slice A n c, .int .i64 (a : Nat), .bool false] := Blk.gb (Blk.drewN HR.out (nq + 1)) hg (by simp [Value.ownBlock])
  have hf1 := hR2.frozen 1
  have HSET := hid (hR2.set_ 1 (.int .i64 (t : Int)))
  have hg1 : w.grownBy w2 (some R) := ⟨hg.os, hg.tape, hg.output, hg.size, fun k hk _ => hg.block k hk (by simp [Value.ownBlock])⟩
  have HG := hid (gb_setCell (p := ⟨R, 1, none⟩) (.int .i64 (t : Int)) hg1)
  have hv3 := owned_gb hv2 (gb_setCell (w := w2) (a := w2) (p := ⟨R, 1, none⟩) (.int .i64 (t : Int)) (World.grownBy.refl _ _)) (fun g hg he => owned_blk_ne hv2 hR2 (by decide) g hg (Option.some.inj he))
  have HV := hid hv3
  clear hR2 hg1 hg hat2 hv2 hv3 hslice hrl c0 h
  go_wp2_with fail
  go_ret
  exact ⟨v2, rfl, HV.out, HSET.out, HG.out⟩

set_option maxHeartbeats 800000 in
set_option maxRecDepth 100000 in
theorem rBytes_end (R : Nat) (A : Option Addr) (n c t B : Nat) (k : Nat) (l r : List UInt8) (w : World) (hR : Rdr w R A n c c false) (h : Rd w B 1 A n (bts l)) (hB : B ≤ w.heap.size) (hn : n ≤ 140737488354000) (hc : n ≤ c) (hcm : c ≤ maxLen) (ht : t = c + k) (hk : t ≤ n) (hr : r = (l.take t).drop c) :
    Calls Try.prog 42 #[.pointer (some ⟨R, 0, none⟩), .int .i64 k] w fun e w' => ∃ v, e = .returned v ∧ w'.ownsRow w.heap.size 5 1 v r.length (bts r) ∧ Rdr w' R A n c t false ∧ w.grownBy w' (some R) := by
  have c0 := hR.cell 0
  have c1 := hR.cell 1
  have c2 := hR.cell 2
  simp only [List.getElem?_toArray, List.getElem?_cons_zero, List.getElem?_cons_succ] at c0 c1 c2
  have HR := hid hR
  have HT := hid ht
  have hlt : (k : Int) ≤ (n : Int) - (c : Int) := by omega
  have hat : c ≤ t := by omega
  unfold maxLen at hcm
  have hslice := (h.take hk).drop (k := c) (cap := c) hat (by omega)
  rw [Nat.mul_one, Nat.mul_one, bts_take, bts_drop, ← hr] at hslice
  clear hR ht hr
  rw [if_pos rfl] at hslice
  go_enter Try.func42, Try.ntmps42
  go_wp2_with fail
  go_quiet (fail)
  go_wp2_with fail
  have hw : IntKind.i64.wrap ((c : Int) + (k : Int)) = (t : Int) := by rw [IntWalk.i64_in _ (by omega), HT.out]; rfl
  have i1 : (0 : Int) ≤ (c : Int) := by omega
  have i2 : (c : Int) ≤ (t : Int) := by omega
  have i3 : (t : Int) ≤ (c : Int) := by omega
  go_region_held3 (fun w' => w'.cell? ⟨R, 0, none⟩ = some (.slice A n c) ∧ w'.cell? ⟨R, 1, none⟩ = some (.int .i64 c)) (first | exact ⟨c0, c1⟩ | exact ⟨q0, q1⟩)
    (first
      | (refine step_app T22 (.tmp 27) (.tmp 42) rfl rfl (World.ownsRow_nil _ w.heap.size 5 1) rfl (hslice.drewN nq).drew rfl (bts_one r) (by omega) (Nat.le_refl _) ?_; intro v2 w2 hv2 hg hat2; have q0 : w2.cell? ⟨R, 0, none⟩ = some (.slice A n c) := World.grownBy.cell hg c0 (by simp [Value.ownBlock]); have q1 : w2.cell? ⟨R, 1, none⟩ = some (.int .i64 c) := World.grownBy.cell hg c1 (by simp [Value.ownBlock])))
  have hrl : t - c = r.length := by have := hslice.1; rw [bts_length] at this; omega
  rw [List.nil_append, Nat.zero_add, hrl] at hv2
  have hR2 : Blk w2 R 62 #[.slice A n c, .int .i64 (c : Nat), .bool false] := Blk.gb (Blk.drewN HR.out (nq + 1)) hg (by simp [Value.ownBlock])
  have hf1 := hR2.frozen 1
  have HSET := hid (hR2.set_ 1 (.int .i64 (t : Int)))
  have hg1 : w.grownBy w2 (some R) := ⟨hg.os, hg.tape, hg.output, hg.size, fun k hk _ => hg.block k hk (by simp [Value.ownBlock])⟩
  have HG := hid (gb_setCell (p := ⟨R, 1, none⟩) (.int .i64 (t : Int)) hg1)
  have hv3 := owned_gb hv2 (gb_setCell (w := w2) (a := w2) (p := ⟨R, 1, none⟩) (.int .i64 (t : Int)) (World.grownBy.refl _ _)) (fun g hg he => owned_blk_ne hv2 hR2 (by decide) g hg (Option.some.inj he))
  have HV := hid hv3
  clear hR2 hg1 hg hat2 hv2 hv3 hslice hrl c0 h
  go_wp2_with fail
  go_ret
  exact ⟨v2, rfl, HV.out, HSET.out, HG.out⟩

theorem rBytes_ok (R : Nat) (A : Option Addr) (n c a t B : Nat) (k : Nat) (l r : List UInt8) (w : World) (hR : Rdr w R A n c a false) (h : Rd w B 1 A n (bts l)) (hB : B ≤ w.heap.size) (hn : n ≤ 140737488354000) (hc : n ≤ c) (hcm : c ≤ maxLen) (ht : t = a + k) (hk : t ≤ n) (hr : r = (l.take t).drop a) :
    Calls Try.prog 42 #[.pointer (some ⟨R, 0, none⟩), .int .i64 k] w fun e w' => ∃ v, e = .returned v ∧ w'.ownsRow w.heap.size 5 1 v r.length (bts r) ∧ Rdr w' R A n c t false ∧ w.grownBy w' (some R) := by
  by_cases hca : c = a
  · subst hca
    exact rBytes_end R A n c t B k l r w hR h hB hn hc hcm ht hk hr
  · exact rBytes_in R A n c a t B k l r w hR h hB hn hc hcm ht hk hca hr
end Go.Proofs.Ythihhmmpkbdmnaa
