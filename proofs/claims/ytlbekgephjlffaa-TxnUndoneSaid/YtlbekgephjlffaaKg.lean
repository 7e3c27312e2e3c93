/- Txns: what the last op on a key leaves: the program's Get, that ranges over slices.Backward. -/
import Derived.Test.YtlbekgephjlffaaKf
import Derived.RangeFuncNested
import Derived.RangeFuncBound
import Derived.RangeFuncCalls
import Derived.RangeFuncLeaves
import Derived.Shelf.Abstract
import Derived.Shelf.RegionOpen
import Derived.OwnWalkIn
import Derived.TacticsInMore
import Derived.LoopNIn
import Derived.LoopIn
namespace Go.Proofs.Ytlbekgephjlffaa
open Go.RowKit Go.Lg Go.Shelf
set_option linter.unusedVariables false
set_option linter.unusedSimpArgs false
attribute [local go_sem] Oper.semAt_some

def upto {α : Type} (f : Nat → α) (k : Nat) : List α := (List.range k).map f
theorem upto_succ {α : Type} (f : Nat → α) (k : Nat) : upto f (k + 1) = upto f k ++ [f k] := by simp [upto, List.range_succ]
theorem upto_length {α : Type} (f : Nat → α) (k : Nat) : (upto f k).length = k := by simp [upto]
/-- What comes at round k, from the end. -/
def back (os : List Op3) (n k : Nat) : Nat × Op3 := (n - 1 - k, os.getD (n - 1 - k) ⟨false, ⟨#[]⟩, ⟨#[]⟩⟩)
abbrev encs (x : Nat × Op3) : Array Value := #[.int .i64 (x.1 : Int), .agg #[.bool x.2.put, .string x.2.key, .string x.2.val]]

set_option maxRecDepth 100000 in
set_option maxHeartbeats 2000000 in
theorem back39_in (F : Fence) (n : Nat) (hf : F.fn 39) (hro : F.round = none) (hn : 1 ≤ n) (l Bs n₀ len cap : Nat) (A : Option Addr) (os : List Op3) (hl : len ≤ 8) (hBn : Bs < n₀) (J Jx : List (Nat × Op3) → World → Prop)
    (hY : ∀ pre x W, J pre W → pre.length < len → YieldAt F (n - 1) Try.prog l (encs x) W fun e W' =>
      (e = .returned (.bool true) ∧ J (pre ++ [x]) W' ∧ Below n₀ W W') ∨ (e = .returned (.bool false) ∧ Jx (pre ++ [x]) W'))
    (W : World) (hBs : W.cell? ⟨Bs, 0, none⟩ = some (.slice A len cap)) (hos : OS W n₀ A len os) (hlc : len ≤ cap) (h0 : J [] W) :
    CallsIn F n Try.prog 39 #[.func (.yield l) #[] #[], .pointer (some ⟨Bs, 0, none⟩)] W fun e W' => (∃ v, e = .returned v) ∧
      ((∃ ys, ys = upto (back os len) len ∧ J ys W') ∨ (∃ pre, (∃ k, k ≤ len ∧ pre = upto (back os len) k) ∧ Jx pre W')) := by
  refine callsIn_of_wp Try.func39 rfl hf ?_ hro
  simp only [Try.ntmps39, List.size_toArray, List.length_cons, List.length_nil, Nat.reduceAdd, Nat.reduceSub, Array.replicate_succ, Array.replicate_zero, List.push_toArray, List.append_toArray, List.nil_append, List.cons_append]
  gi_wp2
  gi_loopw [3] (fun i wr => ∃ (k j : Nat) (x : Int), k + j = len ∧ i = .int .i64 x ∧ x = (j : Int) - 1 ∧ J (upto (back os len) k) wr ∧ Below n₀ W wr)
    (fun i _ => (intOf i + 1).toNat)
  case atStart => exact ⟨0, len, (len : Int) - 1, by omega, by go_num, rfl, h0, Below.refl _ _⟩
  case round =>
    obtain ⟨k, j, x, hkj, rfl, hx, hJs, hnx⟩ := hrel
    have hbs := (hnx.cell (p := ⟨Bs, 0, none⟩) hBn).trans hBs
    cases j with
    | zero =>
      have hneg : ¬(0 : Int) ≤ x := by omega
      obtain rfl : k = len := by omega
      clear hx
      gi_wp2
      go_end0
      exact ⟨⟨_, rfl⟩, .inl hJs⟩
    | succ j =>
      obtain rfl : x = (j : Int) := by omega
      have hlt : j < len := by omega
      obtain ⟨b, off, p, key, v, rfl, hbB, ho, c0, c1, c2⟩ := (hos.keep hnx).at_ hlt
      have hji : (j : Int) < (len : Int) := by omega
      have hbk : back os len k = (j, ⟨p, key, v⟩) := by
        unfold back
        have : len - 1 - k = j := by omega
        rw [this, List.getD_eq_getElem?_getD, ho]
        rfl
      obtain ⟨fn, tmps, assign, body, hy, hR⟩ := hY _ (j, ⟨p, key, v⟩) wr hJs (by rw [upto_length]; omega)
      dsimp only [encs] at hy
      have HBK := hid hbk
      clear hx ho hbk
      gi_wp2
      refine hR.mono ?_
      rintro e W3 (⟨rfl, hJ3, hk3⟩ | ⟨rfl, hJx3⟩)
      · gi_wp2
        go_roundw
        case rel => exact ⟨k + 1, j, (j : Int) - 1, by omega, by go_num, rfl, by rw [upto_succ, HBK.out]; exact hJ3, hnx.trans hk3⟩
        case measure => simp [intOf]
      · gi_wp2
        refine bodyPost_ret (results_none rfl _ _ _) rfl ?_
        exact ⟨⟨_, rfl⟩, .inr ⟨_, ⟨k + 1, by omega, by rw [upto_succ, HBK.out]⟩, hJx3⟩⟩
set_option maxHeartbeats 1000000 in
theorem back31_in (F : Fence) (n : Nat) (hf : F.fn 31) (hro : F.round = none) (a : Option Addr) (len cap : Nat) (w : World) :
    CallsIn F n Try.prog 31 #[.slice a len cap] w fun e w' => e = .returned (.func (.func 39) #[] #[.pointer (some ⟨w.heap.size, 0, none⟩)]) ∧ w' = w.alloc (.cells #[.slice a len cap] 33) := by
  refine callsIn_of_wp Try.func31 rfl hf ?_ hro
  simp only [Try.ntmps31, List.size_toArray, List.length_cons, List.length_nil, Nat.reduceAdd, Nat.reduceSub, Array.replicate_succ, Array.replicate_zero, List.push_toArray, List.append_toArray, List.nil_append, List.cons_append]
  gi_wp2
  go_ret
  exact ⟨rfl, rfl⟩
theorem back_stops (F : Fence) (n : Nat) (hf : F.fn 39) (hro : F.round = none) (hn : 1 ≤ n) (Bs n₀ len cap : Nat) (A : Option Addr) (os : List Op3) (hl : len ≤ 8) (w : World) (hBn : Bs < n₀) (hn₀ : n₀ ≤ w.heap.size)
    (hc : w.cell? ⟨Bs, 0, none⟩ = some (.slice A len cap)) (hos : OS w n₀ A len os) (hlc : len ≤ cap) :
    SeqStopsK F n Try.prog 39 #[.pointer (some ⟨Bs, 0, none⟩)] encs (Below n₀) (fun ys => ys = upto (back os len) len) (fun pre => ∃ k, k ≤ len ∧ pre = upto (back os len) k) len w := fun l J Jx W hW _ _ hY h0 =>
  back39_in F n hf hro hn l Bs n₀ len cap A os hl hBn J Jx hY W ((hW.cell (p := ⟨Bs, 0, none⟩) (by show Bs < _; omega)).trans hc) (hos.keep (hW.mono hn₀)) hlc h0
end Go.Proofs.Ytlbekgephjlffaa
