/- Ops that are the same; ops lent. -/
import Derived.Test.YtmlfbjcgmbdafaaTb
namespace Go.Proofs.Ytmlfbjcgmbdafaa
open Go.RowKit Go.Lg
set_option linter.unusedVariables false
set_option linter.unusedSimpArgs false

set_option maxHeartbeats 2000000 in
set_option maxRecDepth 100000 in
theorem same53 (A A' : Option Addr) (n c c' B B' : Nat) (os : List Op3) (w : World) (h : OS w B A n os) (h' : OS w B' A' n os) (hn : n ≤ 140737488355328) :
    Calls Try.prog 53 #[.slice A n c, .slice A' n c'] w fun e w' => e = .returned (.bool true) ∧ ∃ d, w' = w.drewN d := by
  go_enter Try.func53, Try.ntmps53
  go_wp2_with fail
  go_loopg [5] n (fun k i wr => ∃ (j d : Nat), j ≤ n ∧ k = n - j ∧ i = .int .i64 j ∧ wr = w.drewN d)
  case atStart => exact ⟨0, 0, by omega, rfl, rfl, rfl⟩
  case round =>
    obtain ⟨j, d, hj, rfl, rfl, hwr⟩ := hrel
    have hs : OS wr B A n os := by rw [hwr]; exact ⟨h.1.drewN d, h.2⟩
    have hs' : OS wr B' A' n os := by rw [hwr]; exact ⟨h'.1.drewN d, h'.2⟩
    have HW := hid hwr
    clear hwr
    by_cases hlt : j < n
    · obtain ⟨b, off, p, k, v, rfl, hbB, ho, c0, c1, c2⟩ := hs.at_ hlt
      obtain ⟨b2, off2, p', k', v', rfl, hbB2, ho', d0, d1, d2⟩ := hs'.at_ hlt
      rw [ho] at ho'
      simp only [Option.some.injEq, Op3.mk.injEq] at ho'
      obtain ⟨rfl, rfl, rfl⟩ := ho'
      have hji : (j : Int) < (n : Int) := by omega
      clear ho hs hs' h h'
      go_wp2_with fail
      go_quiet (fail)
      go_wp2_with fail
      go_roundg (n - (j + 1))
      case measure => omega
      case rel =>
        exact ⟨j + 1, d + nq, by omega, rfl, by go_num, by rw [HW.out, World.drewN_drewN]⟩
    · obtain rfl : j = n := by omega
      go_wp2_with fail
      go_ret
      exact ⟨rfl, d, HW.out⟩

def spareO : List Op3 := List.replicate 3 ⟨true, ⟨#[98, 101, 104, 105, 110, 100]⟩, ⟨#[]⟩⟩
def lentO (os : List Op3) : List Op3 := os ++ spareO
theorem opc_app (a b : List Op3) : opc (a ++ b) = opc a ++ opc b := by simp [opc]
set_option maxHeartbeats 2000000 in
set_option maxRecDepth 100000 in
theorem lentops36 (A : Option Addr) (n c : Nat) (os : List Op3) (w : World) (h : OS w w.heap.size A n os) (hn : n ≤ 3518437208780) :
    Calls Try.prog 36 #[.slice A n c] w (NewO (lentO os) (n + 3) w) := by
  have HL := hid h.2
  obtain ⟨B, hB⟩ : ∃ B, B = w.heap.size := ⟨_, rfl⟩
  have hB' := hid hB
  clear hB
  go_enter Try.func36, Try.ntmps36
  go_wp2_with (go_at_call 49; refine (copyops49 A n c os _ h (by omega)).mono ?_; rintro e w1 ⟨v1, rfl, hown, hb⟩)
  rw [← hB'.out] at hown hb
  go_loopg [3, 4] 3 (fun k v i wr => ∃ j : Nat, j ≤ 3 ∧ k = 3 - j ∧ i = .int .i64 j ∧ wr.ownsRow B 68 3 v (n + j) (opc (os ++ spareO.take j)) ∧ Below B w wr)
  case atStart => exact ⟨0, by omega, rfl, rfl, by simpa using hown, hb⟩
  case round =>
    obtain ⟨j, hj, rfl, rfl, hown, hb⟩ := hrel
    have hs := hb.size
    rw [← hB'.out] at hs
    by_cases hlt : j < 3
    · have hsp : spareO.take (j + 1) = spareO.take j ++ [⟨true, ⟨#[98, 101, 104, 105, 110, 100]⟩, ⟨#[]⟩⟩] := by
        obtain rfl | rfl | rfl : j = 0 ∨ j = 1 ∨ j = 2 := by omega
        all_goals rfl
      have HSP := hid hsp
      have hji : (j : Int) < 3 := by omega
      have HO := hid hown
      have HB := hid hb
      clear hown hb hsp
      go_wp2_with (at_builtin; refine stop_ (fun Ps hPs => ?_))
      refine hPs ?_
      clear hPs Ps
      refine wpList_app1 T38 (.tmp 11) (.tmp 13) rfl rfl HO.out rfl rfl rfl (by simp [Value.oneCell']) (by omega) hs fun v1 w1 hown1 hg hat => ?_
      have hb1 := below_append HB.out HO.out hg hs
      have HO1 := hid hown1
      clear hown1 hg hat
      go_wp2_with fail
      go_roundg (3 - (j + 1))
      case measure => omega
      case rel =>
        refine ⟨j + 1, by omega, rfl, by go_num, ?_, hb1⟩
        rw [HSP.out, ← List.append_assoc, opc_app _ [_]]
        exact HO1.out
    · obtain rfl : j = 3 := by omega
      have HO := hid hown
      clear hown
      go_wp2_with fail
      go_ret
      exact newo_eq (by rw [← hB'.out]; exact HO.out) (by rw [← hB'.out]; exact hb)
end Go.Proofs.Ytmlfbjcgmbdafaa
