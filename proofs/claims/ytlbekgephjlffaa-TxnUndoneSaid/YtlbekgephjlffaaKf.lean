/- Txns: what the last op on a key leaves: the document's Get. -/
import Derived.Test.YtlbekgephjlffaaKe
import Derived.OwnWalk
namespace Go.Proofs.Ytlbekgephjlffaa
open Go.RowKit Go.Lg
set_option linter.unusedVariables false
set_option linter.unusedSimpArgs false

/-- The last op on a key. -/
def last (key : ByteArray) (os : List Op3) : Option Op3 := os.reverse.find? fun o => o.key.toList == key.toList
theorem last_nil (key : ByteArray) : last key [] = none := rfl
theorem last_hit {key : ByteArray} {os : List Op3} {o : Op3} (h : (o.key.toList == key.toList) = true) : last key (os ++ [o]) = some o := by unfold last; rw [List.reverse_append, List.reverse_singleton, List.singleton_append, List.find?_cons, h]
theorem last_miss {key : ByteArray} {os : List Op3} {o : Op3} (h : (o.key.toList == key.toList) = false) : last key (os ++ [o]) = last key os := by unfold last; rw [List.reverse_append, List.reverse_singleton, List.singleton_append, List.find?_cons, h]
def told (r : Option Op3) : ByteArray × Bool × Bool := match r with | some o => (o.val, true, o.put) | none => (⟨#[]⟩, false, false)
def getR (o : Bool) (key : ByteArray) (os : List Op3) : ByteArray × Bool × Bool := if o = true then (⟨#[]⟩, false, false) else told (last key os)
def Gets (r : ByteArray × Bool × Bool) (w : World) (e : Ending) (w' : World) : Prop := e = .returned (.tuple #[.string r.1, .bool r.2.1, .bool r.2.2]) ∧ Below w.heap.size w w'
theorem gets_eq {r : ByteArray × Bool × Bool} {a : ByteArray} {b c : Bool} {w w' : World} (h : r = (a, b, c)) (hb : Below w.heap.size w w') : Gets r w (.returned (.tuple #[.string a, .bool b, .bool c])) w' := by
  subst h
  exact ⟨rfl, hb⟩
set_option maxHeartbeats 2000000 in
set_option maxRecDepth 100000 in
theorem get22 {B z : Nat} {o : Bool} {sv : Value} {os : List Op3} {w : World} (h : TX true w B z o sv os) (key : ByteArray) : Calls Try.prog 22 #[P z, .string key] w (Gets (getR o key os) w) := by
  have hl8 := h.le
  obtain ⟨A, c, rfl, hc1, hc2⟩ := owned_slice h.own
  have kz : Blk w z 62 #[.bool true, .slice A os.length c, .bool o] := h.blk
  have z2 : w.cell? ⟨z, 1, none⟩ = some (.slice A os.length c) := kz.cell 1
  have hos := h.os
  cases o with
  | true =>
    have hwr : Calls Try.prog 37 #[P z] w (fun e w' => e = .returned (.int .i64 6) ∧ w' = w) := asked37 h
    clear h kz
    go_enter Try.func22, Try.ntmps22
    go_wp2_with (go_at_call 37; refine hwr.mono ?_; clear hwr; rintro e w1 ⟨rfl, rfl⟩)
    refine bodyPost_ret (results_tmp3 rfl _ _ _) rfl ?_
    exact gets_eq rfl (Below.refl _ _)
  | false =>
    have hwr : Calls Try.prog 37 #[P z] w (fun e w' => e = .returned (.int .i64 0) ∧ w' = w) := asked37 h
    have HG := hid (show getR false key os = told (last key os) from rfl)
    clear h kz
    obtain ⟨n, hn⟩ : ∃ n, n = os.length := ⟨_, rfl⟩
    rw [← hn] at hl8 hc1 z2 hos
    have HN := hid hn
    clear hn
    go_enter Try.func22, Try.ntmps22
    go_wp2_with (go_at_call 37; refine hwr.mono ?_; clear hwr; rintro e w1 ⟨rfl, rfl⟩)
    go_loopg [7] n (fun k i wr => ∃ (j : Nat) (x : Int), j ≤ n ∧ k = j ∧ i = .int .i64 x ∧ x = (j : Int) - 1 ∧ Hid (last key os = last key (os.take j)) ∧ wr = w1)
    case atStart => exact ⟨n, (n : Int) - 1, Nat.le_refl _, rfl, by go_num, rfl, hid (by rw [HN.out, List.take_length]), rfl⟩
    case round =>
      obtain ⟨j, x, hj, rfl, rfl, hx, hla, rfl⟩ := hrel
      cases gk with
      | zero =>
        have hneg : ¬(0 : Int) ≤ x := by omega
        clear hx
        go_wp2_with fail
        refine bodyPost_ret (results_tmp3 rfl _ _ _) rfl ?_
        exact gets_eq (by rw [HG.out, hla.out, List.take_zero, last_nil]; rfl) (Below.refl _ _)
      | succ j =>
        obtain rfl : x = (j : Int) := by omega
        have hlt : j < n := by omega
        obtain ⟨b, off, p, k, v, rfl, hbB, ho, c0, c1, c2⟩ := hos.at_ hlt
        have hji : (j : Int) < (n : Int) := by omega
        have ht : os.take (j + 1) = os.take j ++ [⟨p, k, v⟩] := take_succ_get? ho
        rw [ht] at hla
        clear ho ht hx
        cases hk : (k.toList == key.toList)
        rotate_left 1
        · have HL := hid (last_hit (os := os.take j) (o := ⟨p, k, v⟩) hk)
          go_wp2_with fail
          go_quiet (fail)
          go_wp2_with fail
          refine bodyPost_ret (results_tmp3 rfl _ _ _) rfl ?_
          exact gets_eq (by rw [HG.out, hla.out, HL.out]; rfl) (below_drewN (Below.refl _ _) nq)
        · have HL := hid (last_miss (os := os.take j) (o := ⟨p, k, v⟩) hk)
          go_wp2_with fail
          go_roundg j
          case measure => omega
          case rel => exact ⟨j, (j : Int) - 1, by omega, rfl, by go_num, rfl, hid (by rw [hla.out, HL.out]), rfl⟩
end Go.Proofs.Ytlbekgephjlffaa
