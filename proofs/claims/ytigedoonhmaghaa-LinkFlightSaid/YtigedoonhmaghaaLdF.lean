/- Links: a letter more. -/
import Derived.Test.YtigedoonhmaghaaLcF
import Derived.Deep.DrawnRows
namespace Go.Proofs.Ytigedoonhmaghaa
open Go.RowKit Go.Lg
variable {F : Nat}
set_option linter.unusedVariables false
set_option linter.unusedSimpArgs false
attribute [local go_sem ↓] Go.wp_at_zero Go.wp_at_succ

theorem send_eq {rf : Bool} {B z : Nat} {sv : Value} {r e last' : Int} {ks' : List Key} {w w' : World} {en : Ending} (he : en = .returned (two r e)) (hl : Left F rf B z sv last' ks' w w') : Send F rf B z sv r e last' ks' w en w' := ⟨he, hl⟩
/-- Bytes lie in no link's own block. -/
theorem rd_z {rf : Bool} {B z : Nat} {last : Int} {sv : Value} {ls : List Lt} {w : World} (h : LX F rf w B z last sv ls) {g off : Nat} {x : Int} (hc : w.cell? ⟨g, off, none⟩ = some (.int .u8 x)) : g ≠ z := by
  rintro rfl
  obtain ⟨A, c, rfl, _, _⟩ := owned_slice h.own
  rw [h.blk.cell off] at hc
  have hs : (ocs rf last (.slice A ls.length c)).size = 3 := by cases rf <;> rfl
  have ho : off < 3 := by rw [← hs]; exact (Array.getElem?_eq_some_iff.1 hc).1
  obtain rfl | rfl | rfl : off = 0 ∨ off = 1 ∨ off = 2 := by omega
  all_goals cases rf <;> simp [ocs] at hc
theorem rd_setN {rf : Bool} {B z : Nat} {last : Int} {sv : Value} {ls : List Lt} {w : World} (h : LX F rf w B z last sv ls) {A : Option Addr} {n i : Nat} {b : List UInt8} (hr : Rd w w.heap.size 1 A n (bts b)) (x : Value) :
    Rd (w.setCell ⟨z, i, none⟩ x) (w.setCell ⟨z, i, none⟩ x).heap.size 1 A n (bts b) := by
  refine ⟨hr.1, fun hn => ?_⟩
  obtain ⟨g, off, rfl, hg, hcl⟩ := hr.2 hn
  have hl := hr.1
  rw [bts_length, Nat.mul_one] at hl
  have hne : g ≠ z := by
    have h0 := hcl 0 _ (bts_get b 0 (by omega))
    exact rd_z h h0
  refine ⟨g, off, rfl, by simpa [World.setCell] using hg, fun j u hu => ?_⟩
  rw [World.cell?_setCell_other _ _ _ _ (fun e => hne (by injection e with e1 e2; exact e1.symm))]
  exact hcl j u hu
theorem put_done {rf : Bool} {B z : Nat} {last to : Int} {sv : Value} {ls : List Lt} {w W w2 w3 : World} {o : Obj} {A2 A3 : Option Addr} {c2 c3 : Nat} {b : List UInt8} (hN : LX F rf W B z last sv ls ∧ w.grownBy W (some z)) (hl : ls.length < 512 ∧ b.length ≤ 40) (ht : to = 0 ∨ to = 1)
    (ho2 : w2.ownsRow W.heap.size 5 1 (.slice A2 b.length c2) b.length (bts b)) (hb2 : Below W.heap.size W w2)
    (hv3 : w3.ownsRow B 31 3 (.slice A3 (ls.length + 1) c3) (ls.length + 1) (ltc ls ++ [.int .i64 last, .int .i64 to, .slice A2 b.length c2])) (hg3 : (w2.alloc o).grownBy w3 sv.ownBlock)
    (hat3 : (Value.slice A3 (ls.length + 1) c3).ownBlock = sv.ownBlock ∨ (Value.slice A3 (ls.length + 1) c3).ownBlock = some (w2.alloc o).heap.size) :
    Left F rf B z sv last (ls.map Lt.k ++ [(last, to, b)]) w (w3.setCell ⟨z, ixL rf, none⟩ (.slice A3 (ls.length + 1) c3)) := by
  have hbX : Below W.heap.size W (w2.alloc o) := hb2.alloc hb2.size o
  refine Left.trans (Two.of_z hN.2) (fun g hg => .inl hg) (left_append (x := ⟨last, to, .slice A2 b.length c2, b⟩) hN.1 hl.1 hbX ⟨owned_less (ho2.alloc o) hN.1.leB, hl.2, ht⟩ (fun e => by have := (ho2.lt F e).1; have := hN.1.hF; omega) hv3 hg3 ?_)
  intro g hg
  rcases hat3 with h1 | h1
  · exact .inl (h1 ▸ hg)
  · rw [h1] at hg
    injection hg with hg
    refine .inr ?_
    rw [← hg]
    exact hbX.size
set_option maxHeartbeats 4000000 in
set_option maxRecDepth 100000 in
theorem put28_ok {B z : Nat} {last : Int} {sv : Value} {ls : List Lt} {w : World} (h : LX F false w B z last sv ls) (hlt : ls.length < 512) (h0 : 0 ≤ last) (h1 : last ≤ 4611686018427387904)
    (to : Int) (ht : to = 0 ∨ to = 1) (A : Option Addr) (n c : Nat) (b : List UInt8) (hr : Rd w w.heap.size 1 A n (bts b)) (h40 : b.length ≤ 40) :
    Calls Try.prog 28 #[P z, .int .i64 to, .slice A n c] w (Send F false B z sv (last + 1) 0 (last + 1) (ls.map Lt.k ++ [(last + 1, to, b)]) w) := by
  have hnb : n = b.length := by have := hr.1; rw [bts_length] at this; omega
  obtain ⟨As, cs, rfl, hc1, hc2⟩ := owned_slice h.own
  have kz : Blk w z 55 #[.bool true, .int .i64 last, .slice As ls.length cs] := h.blk
  have z1 : w.cell? ⟨z, 1, none⟩ = some (.int .i64 last) := kz.cell 1
  have z2 : w.cell? ⟨z, 2, none⟩ = some (.slice As ls.length cs) := kz.cell 2
  have f1 := kz.frozen 1
  have hrW := rd_setN h hr (i := 1) (.int .i64 (last + 1))
  have hNW : LX F false (w.setCell ⟨z, 1, none⟩ (.int .i64 (last + 1))) B z (last + 1) (.slice As ls.length cs) ls ∧ w.grownBy (w.setCell ⟨z, 1, none⟩ (.int .i64 (last + 1))) (some z) := h.setN (last + 1)
  obtain ⟨W, hW⟩ : ∃ W, W = w.setCell ⟨z, 1, none⟩ (.int .i64 (last + 1)) := ⟨_, rfl⟩
  rw [← hW] at hrW hNW
  have kW : Blk W z 55 #[.bool true, .int .i64 (last + 1), .slice As ls.length cs] := hNW.1.blk
  have y1 : W.cell? ⟨z, 1, none⟩ = some (.int .i64 (last + 1)) := kW.cell 1
  have y2 : W.cell? ⟨z, 2, none⟩ = some (.slice As ls.length cs) := kW.cell 2
  have q5 : (ls.length : Int) < 512 := by omega
  have H0 := hid hNW
  have HA := hid (clone38 A n c b W.drew hrW.drew (by omega))
  have HL := hid (And.intro hlt h40)
  have HT := hid ht
  clear h hr hrW hNW kz kW hlt h40 hnb ht
  go_enter Try.func28, Try.ntmps28
  go_wp2_with fail
  rw [← hW]
  clear hW z1 z2 f1
  go_region_law (first
    | (go_simp; (with_reducible refine HA.out.mono ?_); rintro e2 w2 ⟨v2, rfl, ho2, hb2⟩; obtain ⟨A2, c2, rfl, g2, g3⟩ := owned_slice ho2; have hq2 := below_src hb2; have kz2 := H0.out.1.blk.later hq2; have x1 : w2.cell? ⟨z, 1, none⟩ = some (.int .i64 (last + 1)) := kz2.cell 1; have x2 : w2.cell? ⟨z, 2, none⟩ = some (.slice As ls.length cs) := kz2.cell 2; have zl := kz2.lt; have x2a : (w2.alloc (.cells #[.int .i64 (last + 1), .int .i64 to, .slice A2 b.length c2] 31)).cell? ⟨z, 2, none⟩ = some (.slice As ls.length cs) := (World.cell?_alloc_lt w2 _ _ zl).trans x2)
    | (refine step_app T37 (.tmp 25) (.tmp 34) rfl rfl ((H0.out.1.later hq2).own.alloc _) rfl (Rd.lit w2 #[.int .i64 (last + 1), .int .i64 to, .slice A2 b.length c2] 31 (0, 0) 1 rfl) rfl (by simp [Value.oneCell']) (by have := HL.out.1; omega) (by have := (H0.out.1.later hq2).leB; simp; omega) ?_; intro v3 w3 hv3 hg3 hat3; obtain ⟨A3, c3, rfl, hd1, hd2⟩ := owned_slice hv3; have kz3 : Blk w3 z 55 #[.bool true, .int .i64 (last + 1), .slice As ls.length cs] := Blk.gb (((H0.out.1.later hq2).blk).alloc _) hg3 (fun e => H0.out.1.ne z e.symm rfl); have z1 : w3.cell? ⟨z, 1, none⟩ = some (.int .i64 (last + 1)) := kz3.cell 1; have z3 : w3.cell? ⟨z, 2, none⟩ = some (.slice As ls.length cs) := kz3.cell 2; have f3 := kz3.frozen 2))
  all_goals
    have HP := hid (put_done H0.out HL.out HT.out ho2 hq2 hv3 hg3 hat3)
    clear ho2 hv3 hg3 hat3 hb2 hq2 kz2 kz3
    go_wp2_with fail
    refine bodyPost_ret (results_tmp2 rfl _ _ _) rfl ?_
    exact send_eq rfl HP.out
set_option maxHeartbeats 4000000 in
set_option maxRecDepth 100000 in
theorem put28_long {B z : Nat} {last : Int} {sv : Value} {ls : List Lt} {w : World} (h : LX F false w B z last sv ls) (hlt : ¬ ls.length < 512)
    (to : Int) (A : Option Addr) (n c : Nat) :
    Calls Try.prog 28 #[P z, .int .i64 to, .slice A n c] w (Send F false B z sv 0 3 last (ls.map Lt.k) w) := by
  obtain ⟨As, cs, rfl, hc1, hc2⟩ := owned_slice h.own
  have kz : Blk w z 55 #[.bool true, .int .i64 last, .slice As ls.length cs] := h.blk
  have z2 : w.cell? ⟨z, 2, none⟩ = some (.slice As ls.length cs) := kz.cell 2
  have q5 : (512 : Int) ≤ (ls.length : Int) := by omega
  have H := hid (Left.same h (Below.refl _ _))
  clear h kz hlt
  go_enter Try.func28, Try.ntmps28
  go_wp2_with fail
  refine bodyPost_ret (results_tmp2 rfl _ _ _) rfl ?_
  exact send_eq rfl H.out
end Go.Proofs.Ytigedoonhmaghaa
