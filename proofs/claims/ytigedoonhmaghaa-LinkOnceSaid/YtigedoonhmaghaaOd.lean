/- LinkOnce: of however many acts. -/
import Derived.Test.YtigedoonhmaghaaOc
namespace Go.Proofs.Ytigedoonhmaghaa
open Go.RowKit Go.Lg
set_option linter.unusedVariables false
set_option linter.unusedSimpArgs false
set_option maxHeartbeats 2000000 in
set_option maxRecDepth 100000 in
theorem small14b (A : Option Addr) (n c : Nat) (l : List Am) (w : World) (h : AS w w.heap.size A n l) (hn : n ≤ 9223372036854775807) :
    Calls Try.prog 14 #[.slice A n c] w fun e w' => e = .returned (.bool (decide (Small l))) ∧ w' = w := by
  have HL := hid h.2.1
  have HR := hid h
  clear h
  go_enter Try.func14, Try.ntmps14
  go_wp2_with fail
  go_loopg [3] n (fun g i wr => ∃ k : Nat, k ≤ n ∧ g = n - k ∧ i = .int .i64 k ∧ wr = w ∧ Hid (∀ (j : Nat) (x : Am), j < k → l[j]? = some x → x.m ≤ 40))
  case atStart => exact ⟨0, by omega, rfl, rfl, rfl, hid fun j x hj => absurd hj (by omega)⟩
  case round =>
    obtain ⟨k, hk, rfl, rfl, rfl, A0⟩ := hrel
    by_cases hlt : k < n
    · obtain ⟨b, off, x, rfl, hb, hx, hok, c0, c1, c2⟩ := HR.out.at_ hlt
      have hki : (k : Int) < (n : Int) := by omega
      have HX := hid hx
      clear hx hok c0 c1
      by_cases h40 : 40 < x.m
      · have h4i : (40 : Int) < (x.m : Int) := by omega
        have HH := hid h40
        clear h40
        go_wp2_with fail
        go_ret
        refine ⟨?_, rfl⟩
        rw [decide_eq_false (fun hs => by have h1 := hs.1 x (List.mem_of_getElem? HX.out); have h2 := HH.out; omega)]
        rfl
      · have h4i : ¬ (40 : Int) < (x.m : Int) := by omega
        have HH := hid h40
        clear h40
        go_wp2_with fail
        go_roundg (n - (k + 1))
        case measure => omega
        case rel =>
          refine ⟨k + 1, by omega, rfl, by go_num, rfl, hid fun j y hj hy => ?_⟩
          rcases Nat.lt_or_ge j k with h1 | h1
          · exact A0.out j y h1 hy
          · obtain rfl : j = k := by omega
            rw [HX.out] at hy
            have := HH.out
            obtain rfl := Option.some.inj hy
            omega
    · obtain rfl : k = n := by omega
      have hki : ¬ (k : Int) < (k : Int) := by omega
      have HA : Hid (∀ x ∈ l, x.m ≤ 40) := hid fun x hx => by
        obtain ⟨j, hj⟩ := List.mem_iff_getElem?.1 hx
        exact A0.out j x (by have := (List.getElem?_eq_some_iff.1 hj).1; have := HL.out; omega) hj
      by_cases h12 : k ≤ 1200
      · have h12i : (k : Int) ≤ 1200 := by omega
        have HS := hid (show Small l from ⟨HA.out, by have := HL.out; omega⟩)
        go_wp2_with fail
        go_ret
        refine ⟨?_, rfl⟩
        rw [decide_eq_true HS.out]
        rfl
      · have h12i : ¬ (k : Int) ≤ 1200 := by omega
        have HS := hid (show ¬ Small l from fun hs => by have := hs.2; have := HL.out; omega)
        go_wp2_with fail
        go_ret
        refine ⟨?_, rfl⟩
        rw [decide_eq_false HS.out]
        rfl
set_option maxRecDepth 100000 in
set_option maxHeartbeats 2000000 in
theorem once4_many (A : Option Addr) (n c : Nat) (l : List Am) (w : World) (h : AS w w.heap.size A n l) (hn : n ≤ 9223372036854775807) (hS : ¬ Small l) :
    Calls Try.prog 4 #[.slice A n c] w fun e w' => e = .returned (.bool true) ∧ Below w.heap.size w w' := by
  have HA := hid h
  have HV := hid (lives8 w)
  clear h
  go_enter Try.func4, Try.ntmps4
  go_wp2_with (go_at_call 8; refine stop_ (fun Ps hPs => ?_))
  refine hPs ?_
  clear hPs Ps
  refine HV.out.mono ?_
  rintro e w0 ⟨rfl, hb0⟩
  have hA0 := HA.out.below hb0
  have hs0 := hb0.size
  have hsm := small14b A n c l w0 ⟨hA0.1.more hs0, hA0.2.1, fun x hx => by
    have h9 := hA0.2.2 x hx
    exact ⟨h9.rd.more hs0, h9.kind, h9.n, h9.le, h9.max⟩⟩ hn
  rw [decide_eq_false hS] at hsm
  have HSM := hid hsm
  have HB0 := hid hb0
  clear hsm hS hb0 hs0 hA0 HA HV hn
  go_wp2_with (go_at_call 14; refine stop_ (fun Ps hPs => ?_))
  refine hPs ?_
  clear hPs Ps
  refine HSM.out.mono ?_
  rintro e w00 ⟨rfl, h9⟩
  subst h9
  clear HSM
  go_wp2_with fail
  go_ret
  exact ⟨rfl, HB0.out⟩
theorem once4_all (A : Option Addr) (n c : Nat) (l : List Am) (w : World) (h : AS w w.heap.size A n l) (hn : n ≤ 9223372036854775807) :
    Calls Try.prog 4 #[.slice A n c] w fun e w' => e = .returned (.bool true) ∧ Below w.heap.size w w' := by
  by_cases hS : Small l
  · exact once4 A n c l w h (by have := hS.2; have := h.2.1; omega)
  · exact once4_many A n c l w h hn hS
end Go.Proofs.Ytigedoonhmaghaa
