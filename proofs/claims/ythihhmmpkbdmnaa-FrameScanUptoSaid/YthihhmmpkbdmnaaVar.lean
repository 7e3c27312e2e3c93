/- The walks through the numbers of a few bytes. -/
import Derived.Test.YthihhmmpkbdmnaaKit
import Derived.Test.YthihhmmpkbdmnaaVarint
namespace Go.Proofs.Ythihhmmpkbdmnaa
open Go.RowKit Go.Lg

theorem or128 (y : Nat) : bits .or .u8 ((y : Int) % 256) 128 = ((UInt8.ofNat (y % 128 + 128)).toNat : Int) := by
  have h1 : ∀ a : Fin 256, bits .or .u8 ((a.val : Nat) : Int) 128 = ((a.val % 128 + 128 : Nat) : Int) := by decide +kernel
  have h2 := h1 ⟨y % 256, by omega⟩
  rw [Vi.u8_toNat _ (by omega)]
  have e1 : ((y % 256 : Nat) : Int) = (y : Int) % 256 := by omega
  have e2 : y % 256 % 128 = y % 128 := by omega
  simpa only [e1, e2] using h2

theorem u64_div128 (y : Nat) (h : y < 2 ^ 64) : IntKind.u64.wrap ((y : Int) / 128) = ((y / 128 : Nat) : Int) := by
  rw [IntWalk.u64_in _ (by omega)]; rfl

set_option maxHeartbeats 400000 in
set_option maxRecDepth 100000 in
theorem append_any (A : Option Addr) (n c : Nat) (l : List UInt8) (x : Nat) (w : World) (h : Rd w w.heap.size 1 A n (bts l)) (hn : n ≤ 140737488354000) (hx : x < 2 ^ 64) :
    Calls Try.prog 14 #[.slice A n c, .int .u64 x] w (Fresh w (l ++ Vi.enc x)) := by
  have hl := h.1
  rw [bts_length, Nat.mul_one] at hl
  obtain ⟨B, hB⟩ : ∃ B, B = w.heap.size := ⟨_, rfl⟩
  have hB' := hid hB
  have hln : l.length ≤ 140737488354000 := by omega
  have HL := hid hl
  have HX := hid hx
  clear hB hl hx
  go_enter Try.func14, Try.ntmps14
  go_wp2_with (at_builtin; refine stop_ (fun Ps hPs => ?_))
  refine hPs ?_
  clear hPs Ps
  refine wpList_app T22 (.const (.slice none 0 0)) (.tmp 6) rfl rfl (World.ownsRow_nil w B 5 1) rfl h rfl (bts_one l) (by omega) (by rw [hB'.out]; exact Nat.le_refl _) fun v1 w1 hown hg hat => ?_
  have hb : Below B w w1 := below_append (Below.refl _ _) (World.ownsRow_nil w B 5 1) hg (by rw [hB'.out]; exact Nat.le_refl _)
  clear hg hat
  rw [List.nil_append, Nat.zero_add, ← HL.out] at hown
  have hsB : B ≤ w.heap.size := by rw [hB'.out]; exact Nat.le_refl _
  go_wp2_with fail
  go_loopg [1, 5] 9 (fun f xv v wr => ∃ (y : Nat) (pre : List UInt8), xv = .int .u64 y ∧ y < 2 * 128 ^ f ∧ f ≤ 9 ∧ Vi.enc x = pre ++ Vi.encF f y ∧ wr.ownsRow B 5 1 v (l.length + pre.length) (bts (l ++ pre)) ∧ Below B w wr)
  case atStart => exact ⟨x, [], rfl, by rw [← Vi.two64]; exact HX.out, by omega, rfl, by simpa using hown, hb⟩
  case round =>
    clear hown hb
    obtain ⟨y, pre, rfl, hy, hf, hen, hown, hb⟩ := hrel
    have hs := hb.size
    have hp : pre.length ≤ 10 := by
      have := Vi.encF_len_le 9 x
      have h2 := congrArg List.length hen
      rw [List.length_append] at h2
      unfold Vi.enc at h2
      omega
    have HE := hid hen
    have HY := hid hy
    clear hen hy
    by_cases hlt : y < 128
    · go_wp2_with (at_builtin; refine stop_ (fun Ps hPs => ?_))
      refine hPs ?_
      clear hPs Ps
      refine wpList_app1 T22 (.tmp 18) (.tmp 21) rfl rfl hown rfl rfl rfl (by simp [Value.oneCell']) (by omega) (by omega) fun v1 w1 hown1 hg hat => ?_
      have hb1 := below_append hb hown hg (by omega)
      clear hown hb hg hat
      go_wp2_with fail
      go_ret
      refine ⟨v1, rfl, ?_, by rw [← hB'.out]; exact hb1⟩
      have he : l ++ Vi.enc x = (l ++ pre) ++ [UInt8.ofNat y] := by rw [HE.out, Vi.encF_zero _ _ hlt, List.append_assoc]
      rw [he, bts_snoc, Vi.u8_toNat y (by omega), ← hB'.out]
      simpa [Nat.add_assoc] using hown1
    · have hor := hid (or128 y)
      go_wp2_with (at_builtin; refine stop_ (fun Ps hPs => ?_))
      refine hPs ?_
      clear hPs Ps
      refine wpList_app1 T22 (.tmp 10) (.tmp 14) rfl rfl hown rfl rfl rfl (by simp [Value.oneCell']) (by omega) (by omega) fun v1 w1 hown1 hg hat => ?_
      have hb1 := below_append hb hown hg (by omega)
      clear hown hb hg hat
      go_wp2_with fail
      cases gk with
      | zero => exact absurd HY.out (by omega)
      | succ g =>
        go_roundg g
        case measure => omega
        case rel =>
          refine ⟨y / 128, pre ++ [UInt8.ofNat (y % 128 + 128)], ?_, ?_, by omega, ?_, ?_, hb1⟩
          · rfl
          · have := HY.out; rw [Nat.pow_succ] at this; omega
          · rw [HE.out, Vi.encF, if_neg hlt, List.append_assoc]; rfl
          · rw [← List.append_assoc, bts_snoc, ← hor.out]; simpa [Nat.add_assoc] using hown1

set_option maxHeartbeats 400000 in
set_option maxRecDepth 100000 in
theorem refAppend_any (A : Option Addr) (n c : Nat) (l : List UInt8) (x : Nat) (w : World) (h : Rd w w.heap.size 1 A n (bts l)) (hn : n ≤ 140737488354000) (hx : x < 2 ^ 64) :
    Calls Try.prog 17 #[.slice A n c, .int .u64 x] w (Fresh w (l ++ Vi.enc x)) := by
  have hl := h.1
  rw [bts_length, Nat.mul_one] at hl
  obtain ⟨B, hB⟩ : ∃ B, B = w.heap.size := ⟨_, rfl⟩
  have hB' := hid hB
  have hln : l.length ≤ 140737488354000 := by omega
  have HL := hid hl
  have HX := hid hx
  clear hB hl hx
  go_enter Try.func17, Try.ntmps17
  go_wp2_with (at_builtin; refine stop_ (fun Ps hPs => ?_))
  refine hPs ?_
  clear hPs Ps
  refine wpList_app T22 (.tmp 6) (.tmp 7) rfl rfl (World.ownsRow_nil w B 5 1) rfl h rfl (bts_one l) (by omega) (by rw [hB'.out]; exact Nat.le_refl _) fun v1 w1 hown hg hat => ?_
  have hb : Below B w w1 := below_append (Below.refl _ _) (World.ownsRow_nil w B 5 1) hg (by rw [hB'.out]; exact Nat.le_refl _)
  clear hg hat
  rw [List.nil_append, Nat.zero_add, ← HL.out] at hown
  have hsB : B ≤ w.heap.size := by rw [hB'.out]; exact Nat.le_refl _
  go_wp2_with fail
  go_loopg [1, 5] 9 (fun f xv v wr => ∃ (y : Nat) (pre : List UInt8), xv = .int .u64 y ∧ y < 2 * 128 ^ f ∧ f ≤ 9 ∧ Vi.enc x = pre ++ Vi.encF f y ∧ wr.ownsRow B 5 1 v (l.length + pre.length) (bts (l ++ pre)) ∧ Below B w wr)
  case atStart => exact ⟨x, [], rfl, by rw [← Vi.two64]; exact HX.out, by omega, rfl, by simpa using hown, hb⟩
  case round =>
    clear hown hb
    obtain ⟨y, pre, rfl, hy, hf, hen, hown, hb⟩ := hrel
    have hs := hb.size
    have hp : pre.length ≤ 10 := by
      have := Vi.encF_len_le 9 x
      have h2 := congrArg List.length hen
      rw [List.length_append] at h2
      unfold Vi.enc at h2
      omega
    have HE := hid hen
    have HY := hid hy
    clear hen hy
    by_cases hlt : y < 128
    · go_wp2_with (at_builtin; refine stop_ (fun Ps hPs => ?_))
      refine hPs ?_
      clear hPs Ps
      refine wpList_app1 T22 (.tmp 20) (.tmp 23) rfl rfl hown rfl rfl rfl (by simp [Value.oneCell']) (by omega) (by omega) fun v1 w1 hown1 hg hat => ?_
      have hb1 := below_append hb hown hg (by omega)
      clear hown hb hg hat
      go_wp2_with fail
      go_ret
      refine ⟨v1, rfl, ?_, by rw [← hB'.out]; exact hb1⟩
      have he : l ++ Vi.enc x = (l ++ pre) ++ [UInt8.ofNat y] := by rw [HE.out, Vi.encF_zero _ _ hlt, List.append_assoc]
      rw [he, bts_snoc, Vi.u8_toNat y (by omega), ← hB'.out]
      simpa [Nat.add_assoc] using hown1
    · have hu := hid (Vi.u8_toNat (y % 128 + 128) (by omega))
      go_wp2_with (at_builtin; refine stop_ (fun Ps hPs => ?_))
      refine hPs ?_
      clear hPs Ps
      refine wpList_app1 T22 (.tmp 11) (.tmp 16) rfl rfl hown rfl rfl rfl (by simp [Value.oneCell']) (by omega) (by omega) fun v1 w1 hown1 hg hat => ?_
      have hb1 := below_append hb hown hg (by omega)
      clear hown hb hg hat
      go_wp2_with fail
      cases gk with
      | zero => exact absurd HY.out (by omega)
      | succ g =>
        go_roundg g
        case measure => omega
        case rel =>
          refine ⟨y / 128, pre ++ [UInt8.ofNat (y % 128 + 128)], ?_, ?_, by omega, ?_, ?_, hb1⟩
          · rw [u64_div128 _ (Vi.fits _ _ hf HY.out)]
          · have := HY.out; rw [Nat.pow_succ] at this; omega
          · rw [HE.out, Vi.encF, if_neg hlt, List.append_assoc]; rfl
          · have e : ((y % 128 + 128 : Nat) : Int) = (y : Int) % 128 + 128 := by omega
            rw [← List.append_assoc, bts_snoc, hu.out, e]; simpa [Nat.add_assoc] using hown1

set_option maxHeartbeats 400000 in
set_option maxRecDepth 100000 in
theorem size_any (x : Nat) (w : World) (hx : x < 2 ^ 64) :
    Calls Try.prog 18 #[.int .u64 x] w fun e w' => e = .returned (.int .i64 (Vi.enc x).length) ∧ w = w' := by
  have HX := hid hx
  clear hx
  go_enter Try.func18, Try.ntmps18
  go_wp2_with fail
  go_loopg [0, 3] 9 (fun f xv nv wr => ∃ (y m : Nat), xv = .int .u64 y ∧ nv = .int .i64 m ∧ y < 2 * 128 ^ f ∧ f ≤ 9 ∧ (Vi.enc x).length + 1 = m + (Vi.encF f y).length ∧ wr = w)
  case atStart => exact ⟨x, 1, rfl, rfl, by rw [← Vi.two64]; exact HX.out, by omega, by unfold Vi.enc; omega, rfl⟩
  case round =>
    obtain ⟨y, m, rfl, rfl, hy, hf, hen, rfl⟩ := hrel
    have hp : m ≤ 10 := by
      have := Vi.encF_len_le 9 x
      have := Vi.encF_pos gk y
      unfold Vi.enc at hen
      omega
    have HE := hid hen
    have HY := hid hy
    clear hen hy
    by_cases hlt : y < 128
    · go_wp2_with fail
      go_ret
      refine ⟨rd_int ?_, rfl⟩
      have := HE.out
      rw [Vi.encF_zero _ _ hlt] at this
      simp at this; omega
    · go_wp2_with fail
      cases gk with
      | zero => exact absurd HY.out (by omega)
      | succ g =>
        go_roundg g
        case measure => omega
        case rel =>
          refine ⟨y / 128, m + 1, ?_, ?_, ?_, by omega, ?_, rfl⟩
          · rfl
          · go_num
          · have := HY.out; rw [Nat.pow_succ] at this; omega
          · have := HE.out; rw [Vi.encF, if_neg hlt, List.length_cons] at this; omega

set_option maxHeartbeats 400000 in
set_option maxRecDepth 100000 in
theorem refSize_any (x : Nat) (w : World) (hx : x < 2 ^ 64) :
    Calls Try.prog 19 #[.int .u64 x] w fun e w' => e = .returned (.int .i64 (Vi.enc x).length) ∧ w = w' := by
  have HX := hid hx
  clear hx
  go_enter Try.func19, Try.ntmps19
  go_wp2_with fail
  go_loopg [0, 3] 9 (fun f xv nv wr => ∃ (y m : Nat), xv = .int .u64 y ∧ nv = .int .i64 m ∧ y < 2 * 128 ^ f ∧ f ≤ 9 ∧ (Vi.enc x).length + 1 = m + (Vi.encF f y).length ∧ wr = w)
  case atStart => exact ⟨x, 1, rfl, rfl, by rw [← Vi.two64]; exact HX.out, by omega, by unfold Vi.enc; omega, rfl⟩
  case round =>
    obtain ⟨y, m, rfl, rfl, hy, hf, hen, rfl⟩ := hrel
    have hp : m ≤ 10 := by
      have := Vi.encF_len_le 9 x
      have := Vi.encF_pos gk y
      unfold Vi.enc at hen
      omega
    have HE := hid hen
    have HY := hid hy
    clear hen hy
    by_cases hlt : y < 128
    · go_wp2_with fail
      go_ret
      refine ⟨rd_int ?_, rfl⟩
      have := HE.out
      rw [Vi.encF_zero _ _ hlt] at this
      simp at this; omega
    · go_wp2_with fail
      cases gk with
      | zero => exact absurd HY.out (by omega)
      | succ g =>
        go_roundg g
        case measure => omega
        case rel =>
          refine ⟨y / 128, m + 1, ?_, ?_, ?_, by omega, ?_, rfl⟩
          · rw [u64_div128 _ (Vi.fits _ _ hf HY.out)]
          · go_num
          · have := HY.out; rw [Nat.pow_succ] at this; omega
          · have := HE.out; rw [Vi.encF, if_neg hlt, List.length_cons] at this; omega

end Go.Proofs.Ythihhmmpkbdmnaa
