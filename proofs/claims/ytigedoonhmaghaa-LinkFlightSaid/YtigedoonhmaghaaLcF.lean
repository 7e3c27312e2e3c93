/- Links: a letter's place, by the program and by the document. -/
import Derived.Test.YtigedoonhmaghaaLbF
namespace Go.Proofs.Ytigedoonhmaghaa
open Go.RowKit Go.Lg
variable {F : Nat}
set_option linter.unusedVariables false
set_option linter.unusedSimpArgs false

/-- The place as it is told. -/
def fxi (n : Int) (ls : List Lt) : Int := match fx n (ls.map Lt.k) with | none => -1 | some i => (i : Int)
theorem fx_no {n : Int} {ls : List Lt} (h : ∀ (j : Nat) (x : Lt), ls[j]? = some x → x.n ≠ n) : fx n (ls.map Lt.k) = none := by
  rw [fx, List.findIdx?_eq_none_iff]
  intro k hk
  obtain ⟨x, hx, rfl⟩ := List.mem_map.1 hk
  obtain ⟨j, hj⟩ := List.mem_iff_getElem?.1 hx
  exact beq_false_of_ne (h j x hj)
theorem fx_at {n : Int} {ls : List Lt} {i : Nat} {x : Lt} (hx : ls[i]? = some x) (hn : x.n = n) (h : ∀ (j : Nat) (y : Lt), j < i → ls[j]? = some y → y.n ≠ n) : fx n (ls.map Lt.k) = some i := by
  rw [fx, List.findIdx?_eq_some_iff_getElem]
  obtain ⟨hi, he⟩ := List.getElem?_eq_some_iff.1 hx
  refine ⟨by simpa using hi, ?_, fun j hj => ?_⟩
  · simp only [List.getElem_map, he]
    simpa [Lt.k] using hn
  · have := h j (ls[j]'(by omega)) hj (List.getElem?_eq_getElem _)
    simpa [Lt.k] using this
/-- The closure. -/
theorem same43 (x : Lt) (n : Int) (b : Nat) (w : World) (hc : w.cell? ⟨b, 0, none⟩ = some (.int .i64 n)) : Calls Try.prog 43 #[.agg #[.int .i64 x.n, .int .i64 x.to, x.v], P b] w fun e w' => e = .returned (.bool (x.n == n)) ∧ Below w.heap.size w w' := by
  obtain ⟨xn, xt, xv, xb⟩ := x
  have hb := (Below.refl w.heap.size w).alloc (Nat.le_refl _) (.cells #[.int .i64 xn, .int .i64 xt, xv] 31)
  have k0 : (w.alloc (.cells #[.int .i64 xn, .int .i64 xt, xv] 31)).cell? ⟨w.heap.size, 0, none⟩ = some (.int .i64 xn) := (Blk.new w 31 #[.int .i64 xn, .int .i64 xt, xv]).cell 0
  have k1 : (w.alloc (.cells #[.int .i64 xn, .int .i64 xt, xv] 31)).cell? ⟨b, 0, none⟩ = some (.int .i64 n) := (World.cell?_alloc_lt w _ _ (World.block_lt_of_cell? w _ hc)).trans hc
  go_enter Try.func43, Try.ntmps43
  go_wp2_with fail
  go_ret
  exact ⟨rfl, hb⟩
theorem ltAt {w : World} {B n : Nat} {A : Option Addr} {ls : List Lt} {j : Nat} {x : Lt} (h : Rd w B 3 A n (ltc ls)) (hx : ls[j]? = some x) :
    ∃ b off, A = some ⟨b, off, none⟩ ∧ b < B ∧ w.cell? ⟨b, off + j * 3, none⟩ = some (.int .i64 x.n) ∧ w.cell? ⟨b, off + j * 3 + 1, none⟩ = some (.int .i64 x.to) ∧ w.cell? ⟨b, off + j * 3 + 2, none⟩ = some x.v := by
  have hj := (List.getElem?_eq_some_iff.1 hx).1
  have hl := h.1
  rw [ltc_length] at hl
  obtain ⟨b, off, e, hb, hc⟩ := h.2 (by omega)
  obtain ⟨g1, g2, g3⟩ := ltc_get ls j x hx
  exact ⟨b, off, e, hb, hc _ _ g1, by rw [Nat.add_assoc]; exact hc _ _ g2, by rw [Nat.add_assoc]; exact hc _ _ g3⟩
/-- The place told, in memory as it was. -/
def Place (n : Int) (ls : List Lt) (w : World) (e : Ending) (w' : World) : Prop := e = .returned (.int .i64 (fxi n ls)) ∧ Below w.heap.size w w'
theorem fxi_at {n : Int} {ls : List Lt} {i : Nat} {x : Lt} (hx : ls[i]? = some x) (hn : x.n = n) (h : ∀ (j : Nat) (y : Lt), j < i → ls[j]? = some y → y.n ≠ n) : fxi n ls = i := by simp only [fxi, fx_at hx hn h]
theorem fxi_no {n : Int} {ls : List Lt} (h : ∀ (j : Nat) (x : Lt), ls[j]? = some x → x.n ≠ n) : fxi n ls = -1 := by simp only [fxi, fx_no h]
theorem more_ {n : Int} {ls : List Lt} {k : Nat} {x : Lt} (hx : ls[k]? = some x) (hn : x.n ≠ n) (h : ∀ (j : Nat) (y : Lt), j < k → ls[j]? = some y → y.n ≠ n) : ∀ (j : Nat) (y : Lt), j < k + 1 → ls[j]? = some y → y.n ≠ n := by
  intro j y hj hy
  rcases Nat.lt_or_ge j k with h1 | h1
  · exact h j y h1 hy
  · obtain rfl : j = k := by omega
    rw [hx] at hy
    exact Option.some.inj hy ▸ hn
set_option maxHeartbeats 2000000 in
set_option maxRecDepth 100000 in
theorem index42 (A : Option Addr) (c b : Nat) (n : Int) (ls : List Lt) (w : World) (h : Rd w w.heap.size 3 A ls.length (ltc ls)) (hle : ls.length ≤ 512) (hn : w.cell? ⟨b, 0, none⟩ = some (.int .i64 n)) :
    Calls Try.prog 42 #[.slice A ls.length c, .func (.func 43) #[] #[P b]] w (Place n ls w) := by
  have hbl : b < w.heap.size := World.block_lt_of_cell? w _ hn
  obtain ⟨m, hm⟩ : ∃ m, m = ls.length := ⟨_, rfl⟩
  rw [← hm] at h hle ⊢
  have HM := hid hm
  clear hm
  go_enter Try.func42, Try.ntmps42
  go_wp2_with fail
  go_loopg [5, 8] m (fun g _ i wr => ∃ k : Nat, k ≤ m ∧ g = m - k ∧ i = .int .i64 k ∧ Hid (Below w.heap.size w wr) ∧ Hid (∀ (j : Nat) (y : Lt), j < k → ls[j]? = some y → y.n ≠ n))
  case atStart => exact ⟨0, by omega, rfl, rfl, hid (Below.refl _ _), hid fun j y hj => absurd hj (by omega)⟩
  case round =>
    obtain ⟨k, hk, rfl, rfl, BW, A0⟩ := hrel
    by_cases hlt : k < m
    · obtain ⟨x, hx⟩ : ∃ x, ls[k]? = some x := ⟨ls[k]'(by rw [← HM.out]; exact hlt), List.getElem?_eq_getElem _⟩
      obtain ⟨g, off, rfl, hg, c0, c1, c2⟩ := ltAt (h.below BW.out) hx
      have hcl := same43 x n b wr ((BW.out.cell (p := ⟨b, 0, none⟩) hbl).trans hn)
      obtain ⟨xn, xt, xv, xb⟩ := x
      have hki : (k : Int) < (m : Int) := by omega
      have HX := hid hx
      have HR := hid h
      clear hx h hn
      by_cases he : xn = n
      · have hq : (xn == n) = true := by simpa using he
        simp only [hq] at hcl
        have HE := hid he
        have HCL := hid hcl
        clear he hq hcl
        go_wp2_with fail
        refine HCL.out.mono ?_
        rintro e w2 ⟨rfl, hb2⟩
        go_wp2_with fail
        go_ret
        refine ⟨?_, BW.out.trans (hb2.mono BW.out.size)⟩
        rw [fxi_at HX.out HE.out A0.out]
        rfl
      · have hq : (xn == n) = false := beq_false_of_ne he
        simp only [hq] at hcl
        have HE := hid he
        have HCL := hid hcl
        clear he hq hcl
        go_wp2_with fail
        refine HCL.out.mono ?_
        rintro e w2 ⟨rfl, hb2⟩
        go_wp2_with fail
        go_roundg (m - (k + 1))
        case measure => omega
        case rel => exact ⟨k + 1, by omega, rfl, by go_num, hid (BW.out.trans (hb2.mono BW.out.size)), hid (more_ HX.out HE.out A0.out)⟩
    · obtain rfl : k = m := by omega
      go_wp2_with fail
      go_ret
      refine ⟨?_, BW.out⟩
      rw [fxi_no (fun j x hx => A0.out j x (by have := (List.getElem?_eq_some_iff.1 hx).1; have := HM.out; omega) hx)]
      rfl
set_option maxHeartbeats 2000000 in
set_option maxRecDepth 100000 in
theorem find29 {B z : Nat} {last : Int} {sv : Value} {ls : List Lt} {w : World} (h : LX F false w B z last sv ls) (n : Int) : Calls Try.prog 29 #[P z, .int .i64 n] w (Place n ls w) := by
  obtain ⟨A, c, rfl, hc1, hc2⟩ := owned_slice h.own
  have hb := (Below.refl w.heap.size w).alloc (Nat.le_refl _) (.cells #[.int .i64 n] 3)
  have kb : Blk (w.alloc (.cells #[.int .i64 n] 3)) z 55 #[.bool true, .int .i64 last, .slice A ls.length c] := (h.later hb).blk
  have k0 : (w.alloc (.cells #[.int .i64 n] 3)).cell? ⟨z, 2, none⟩ = some (.slice A ls.length c) := kb.cell 2
  have hi := index42 A c w.heap.size n ls (w.alloc (.cells #[.int .i64 n] 3)) (Rd.of_own (h.later hb).own) h.le ((Blk.new w 3 #[.int .i64 n]).cell 0)
  have HI := hid hi
  have HB := hid hb
  clear h hi kb hb
  go_enter Try.func29, Try.ntmps29
  go_wp2_with (go_at_call 42; refine HI.out.mono ?_; rintro e w2 ⟨rfl, hb2⟩)
  go_ret
  exact ⟨rfl, HB.out.trans (hb2.mono HB.out.size)⟩
set_option maxHeartbeats 2000000 in
set_option maxRecDepth 100000 in
theorem place45 {B z : Nat} {last : Int} {sv : Value} {ls : List Lt} {w : World} (h : LX F true w B z last sv ls) (n : Int) : Calls Try.prog 45 #[P z, .int .i64 n] w (Place n ls w) := by
  obtain ⟨A, c, rfl, hc1, hc2⟩ := owned_slice h.own
  have hr := Rd.of_own h.own
  have hle := h.le
  obtain ⟨m, hm⟩ : ∃ m, m = ls.length := ⟨_, rfl⟩
  have kb : Blk w z 63 #[.bool true, .slice A ls.length c, .int .i64 last] := h.blk
  rw [← hm] at hr hle kb hc1
  have k0 : w.cell? ⟨z, 1, none⟩ = some (.slice A m c) := kb.cell 1
  have HM := hid hm
  clear hm kb h
  go_enter Try.func45, Try.ntmps45
  go_wp2_with fail
  go_loopg [5] m (fun g i wr => ∃ k : Nat, k ≤ m ∧ g = m - k ∧ i = .int .i64 k ∧ wr = w ∧ Hid (∀ (j : Nat) (y : Lt), j < k → ls[j]? = some y → y.n ≠ n))
  case atStart => exact ⟨0, by omega, rfl, rfl, rfl, hid fun j y hj => absurd hj (by omega)⟩
  case round =>
    obtain ⟨k, hk, rfl, rfl, rfl, A0⟩ := hrel
    by_cases hlt : k < m
    · obtain ⟨x, hx⟩ : ∃ x, ls[k]? = some x := ⟨ls[k]'(by rw [← HM.out]; exact hlt), List.getElem?_eq_getElem _⟩
      obtain ⟨g, off, rfl, hg, c0, c1, c2⟩ := ltAt hr hx
      obtain ⟨xn, xt, xv, xb⟩ := x
      simp only at c0 c1 c2
      have hki : (k : Int) < (m : Int) := by omega
      have HX := hid hx
      have HR := hid hr
      clear hx hr
      by_cases he : xn = n
      · have hq : (xn == n) = true := by simpa using he
        have HE := hid he
        clear he
        go_wp2_with fail
        go_ret
        refine ⟨?_, Below.refl _ _⟩
        rw [fxi_at HX.out HE.out A0.out]
        rfl
      · have hq : (xn == n) = false := beq_false_of_ne he
        have HE := hid he
        clear he
        go_wp2_with fail
        go_roundg (m - (k + 1))
        case measure => omega
        case rel => exact ⟨k + 1, by omega, rfl, by go_num, rfl, hid (more_ HX.out HE.out A0.out)⟩
    · obtain rfl : k = m := by omega
      have hki : ¬ (k : Int) < (k : Int) := by omega
      go_wp2_with fail
      go_ret
      refine ⟨?_, Below.refl _ _⟩
      rw [fxi_no (fun j x hx => A0.out j x (by have := (List.getElem?_eq_some_iff.1 hx).1; have := HM.out; omega) hx)]
      rfl
end Go.Proofs.Ytigedoonhmaghaa
