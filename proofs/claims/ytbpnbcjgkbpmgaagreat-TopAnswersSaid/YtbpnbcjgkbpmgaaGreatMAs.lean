/- A primary answers without waiting for the other site, as many times as its leash allows: of any acts. No condition. (part 19) -/
import Derived.RegionTactic
import Derived.ChangeAlike
import Derived.BigRegion
import Derived.Test.YtbpnbcjgkbpmgaaGreatMAr
namespace Go.Proofs.YtbpnbcjgkbpmgaaGreat.Pp
open Go.RowKit Go.Lg
set_option linter.unusedVariables false
set_option linter.unusedSimpArgs false
def takeN : List Nat → List UInt8 → Option (List Nat × List UInt8)
  | [], l => some ([], l)
  | m :: ms, l => if (Vi.small m l).2.2 = 0 then (takeN ms (l.drop (Vi.small m l).2.1)).map fun q => ((Vi.small m l).1 :: q.1, q.2) else none
def mosts : List Nat := [1048576, 3, 1048576, 4, 1048576, 1073741824]
def pageOf : List Nat → Pg
  | [a, b, c, d, e, f] => ⟨a, b, c, d, e, f⟩
  | _ => z
def decP (l : List UInt8) : Option Pg :=
  match takeN mosts l with
  | some (xs, []) => if Ok (pageOf xs) then some (pageOf xs) else none
  | _ => none
def Decoded (r : Option Pg) (w : World) (e : Ending) (w' : World) : Prop :=
  match r with
  | some p => e = .returned (.tuple #[p.v, .int .i64 0]) ∧ Below w.heap.size w w'
  | none => e = .returned (.tuple #[z.v, .int .i64 5]) ∧ Below w.heap.size w w'
theorem small_len (m : Int) (l : List UInt8) : (Vi.small m l).2.2 = 0 → (Vi.small m l).2.1 ≤ l.length ∧ ((Vi.small m l).1 : Int) ≤ m := by
  intro h
  unfold Vi.small at h ⊢
  split at h
  · cases h
  · rename_i hq
    rw [if_neg hq]
    have := (Vi.dec_fits l 0 0 (by omega) (by decide)).2.1
    constructor
    · omega
    · omega
def cellx (j : Nat) (x : Nat → Nat) (i : Nat) : Value := .int .i64 ((if i < j then x i else 0 : Nat) : Int)
def arrx (j : Nat) (x : Nat → Nat) : Array Value := #[cellx j x 0, cellx j x 1, cellx j x 2, cellx j x 3, cellx j x 4, cellx j x 5]
def Taken (l : List UInt8) (j : Nat) (x : Nat → Nat) (r : List UInt8) : Prop := takeN mosts l = (takeN (mosts.drop j) r).map fun q => ((List.range j).map x ++ q.1, q.2)
theorem taken_step {l r : List UInt8} {j k m : Nat} {x : Nat → Nat} (M : Nat) (h : Taken l j x r) (hd : mosts.drop j = M :: mosts.drop (j + 1)) (hs : Vi.small M r = (k, m, 0)) : Taken l (j + 1) (fun i => if i = j then k else x i) (r.drop m) := by
  unfold Taken at *
  rw [h, hd]
  simp only [takeN, hs, if_true, Option.map_map]
  congr 1
  funext q
  have e1 : (List.range j).map (fun i => if i = j then k else x i) = (List.range j).map x := by
    refine List.map_congr_left fun i hi => ?_
    rw [if_neg (by have := List.mem_range.1 hi; omega)]
  simp [List.range_succ, e1]
theorem bound_step {j k : Nat} {x : Nat → Nat} (h : ∀ i, i < j → x i ≤ mosts.getD i 0) (hk : k ≤ mosts.getD j 0) : ∀ i, i < j + 1 → (fun i => if i = j then k else x i) i ≤ mosts.getD i 0 := by
  intro i hi
  by_cases hij : i = j
  · subst hij; simpa using hk
  · simp only [if_neg hij]; exact h i (by omega)
theorem taken_bad {l r : List UInt8} {j k m e : Nat} {x : Nat → Nat} (M : Nat) (h : Taken l j x r) (hd : mosts.drop j = M :: mosts.drop (j + 1)) (hs : Vi.small M r = (k, m, e)) (he : ¬e = 0) : decP l = none := by
  unfold Taken at h
  unfold decP
  rw [h, hd]
  simp [takeN, hs, he]
theorem taken_end {l r : List UInt8} {x : Nat → Nat} (h : Taken l 6 x r) : takeN mosts l = some ([x 0, x 1, x 2, x 3, x 4, x 5], r) := by
  unfold Taken at h
  rw [h]
  rfl
theorem dec_more {l r : List UInt8} {x : Nat → Nat} (h : Taken l 6 x r) (hr : 0 < r.length) : decP l = none := by
  unfold decP
  rw [taken_end h]
  cases r with
  | nil => simp at hr
  | cons a r => rfl
theorem dec_all {l r : List UInt8} {x : Nat → Nat} (h : Taken l 6 x r) (hr : r.length = 0) : decP l = if Ok ⟨x 0, x 1, x 2, x 3, x 4, x 5⟩ then some ⟨x 0, x 1, x 2, x 3, x 4, x 5⟩ else none := by
  unfold decP
  rw [taken_end h, List.eq_nil_of_length_eq_zero hr]
  rfl
theorem three_d {w : World} {A B C : Array Value} : Blk (((w.alloc (.cells A 43)).alloc (.cells B 181)).alloc (.cells C 181)) w.heap.size 43 A ∧ Blk (((w.alloc (.cells A 43)).alloc (.cells B 181)).alloc (.cells C 181)) (w.heap.size + 1) 181 B ∧
    Blk (((w.alloc (.cells A 43)).alloc (.cells B 181)).alloc (.cells C 181)) (w.heap.size + 1 + 1) 181 C ∧ Below w.heap.size w (((w.alloc (.cells A 43)).alloc (.cells B 181)).alloc (.cells C 181)) := by
  refine ⟨((Blk.new w 43 A).alloc _).alloc _, (Blk.new2 w _ 181 B).alloc _, ?_, (((Below.refl w.heap.size w).alloc (Nat.le_refl _) _).alloc (by simp) _).alloc (by simp; omega) _⟩
  have h := Blk.new2 (w.alloc (.cells A 43)) (.cells B 181) 181 C
  rwa [World.size_alloc] at h
set_option maxHeartbeats 8000000 in
set_option maxRecDepth 100000 in
theorem decode10 (A : Option Addr) (n c : Nat) (l : List UInt8) (w : World) (h : Rd w w.heap.size 1 A n (bts l)) (hn : n ≤ 140737488355000) (hc : n ≤ c) (hcm : c ≤ maxLen) :
    Calls Tryz.prog 64 #[.slice A n c] w (Decoded (decP l) w) := by
  obtain ⟨k1, k2, k3, hb⟩ := @three_d w #[.int .i64 0, .int .u8 0, .int .i64 0, .int .u8 0, .int .i64 0, .int .i64 0] #[.int .i64 1048576, .int .i64 3, .int .i64 1048576, .int .i64 4, .int .i64 1048576, .int .i64 1073741824] #[.int .i64 0, .int .i64 0, .int .i64 0, .int .i64 0, .int .i64 0, .int .i64 0]
  have hrd := h.below hb
  go_enter Tryz.func64, Tryz.ntmps64
  go_wp2_with fail
  have h6 : Taken l 0 (fun _ => 0) l := by simp [Taken]
  obtain ⟨w1, hw⟩ : ∃ w1, w1 = ((w.alloc (.cells #[.int .i64 0, .int .u8 0, .int .i64 0, .int .u8 0, .int .i64 0, .int .i64 0] 43)).alloc (.cells #[.int .i64 1048576, .int .i64 3, .int .i64 1048576, .int .i64 4, .int .i64 1048576, .int .i64 1073741824] 181)).alloc (.cells #[.int .i64 0, .int .i64 0, .int .i64 0, .int .i64 0, .int .i64 0, .int .i64 0] 181) := ⟨_, rfl⟩
  rw [← hw] at k1 k2 k3 hb hrd ⊢
  clear hw
  go_loopg [0, 12] 6 (fun k v i wr => ∃ (j : Nat) (x : Nat → Nat) (r : List UInt8) (A : Option Addr) (n c : Nat), j ≤ 6 ∧ k = 6 - j ∧ i = .int .i64 j ∧ v = .slice A n c ∧ Rd wr w.heap.size 1 A n (bts r) ∧ n ≤ 140737488355000 ∧ n ≤ c ∧ c ≤ maxLen ∧ Taken l j x r ∧ (∀ i, i < j → x i ≤ mosts.getD i 0) ∧
    Below w.heap.size w wr ∧ Blk wr w.heap.size 43 #[.int .i64 0, .int .u8 0, .int .i64 0, .int .u8 0, .int .i64 0, .int .i64 0] ∧ Blk wr (w.heap.size + 1) 181 #[.int .i64 1048576, .int .i64 3, .int .i64 1048576, .int .i64 4, .int .i64 1048576, .int .i64 1073741824] ∧ Blk wr (w.heap.size + 1 + 1) 181 (arrx j x))
  case atStart => exact ⟨0, fun _ => 0, l, A, n, c, by omega, rfl, rfl, rfl, hrd, hn, hc, hcm, h6, fun i hi => absurd hi (by omega), hb, k1, k2, k3⟩
  case round =>
    clear k1 k2 k3 hb hrd h6 h hn hc hcm
    obtain ⟨j, x, r, A, n, c, hj, rfl, rfl, rfl, hrd, hn, hc, hcm, htk, hbo, hb, k1, k2, k3⟩ := hrel
    have hcm' := hcm
    unfold maxLen at hcm'
    by_cases hlt : j < 6
    · obtain rfl | rfl | rfl | rfl | rfl | rfl : j = 0 ∨ j = 1 ∨ j = 2 ∨ j = 3 ∨ j = 4 ∨ j = 5 := by omega
      · have hs9 := hb.size
        obtain ⟨k, m, e, hs⟩ : ∃ k m e, Vi.small 1048576 r = (k, m, e) := ⟨_, _, _, rfl⟩
        have hct := small_at A n c w.heap.size r 1048576 k m e wr hrd (by omega) (by decide) hs
        have m0 : wr.cell? ⟨w.heap.size + 1, 0, none⟩ = some (.int .i64 1048576) := k2.cell 0
        have HS := hid hs
        have HTK := hid htk
        have HBO := hid hbo
        clear htk hs hbo
        by_cases he : e = 0
        · subst he
          have hsl := small_len 1048576 r (by rw [HS.out])
          rw [HS.out] at hsl
          obtain ⟨hmr, hkm⟩ := hsl
          simp only at hmr hkm
          have hrl : r.length = n := by have := hrd.1; rw [bts_length] at this; omega
          rw [hrl] at hmr
          have HRL := hid hrl
          clear hrl
          have hslice := hrd.drop (k := m) (cap := c) hmr hc
          rw [Nat.mul_one, bts_drop] at hslice
          have HK1 := hid k1
          have HK2 := hid k2
          have HK3 := hid k3
          have HB := hid hb
          have HRD := hid hrd
          have l0 : wr.cell? ⟨w.heap.size + 1 + 1, 0, none⟩ = some (.int .i64 0) := k3.cell 0
          have lf : wr.frozen? ⟨w.heap.size + 1 + 1, 0, none⟩ = false := k3.frozen 0
          have hmi : (m : Int) ≤ (n : Int) := by omega
          clear k1 k2 k3 hb hrd
          by_cases hca : c = m
          · obtain rfl := hca
            rw [if_pos rfl, show n - c = 0 by omega] at hslice
            go_wp2_with (go_at_call 108; refine hct.mono ?_; clear hct; rintro e' w9 ⟨rfl, rfl⟩)
            go_region
            go_wp2_with fail
            go_roundg 5
            case measure => omega
            case rel =>
              have hne : w.heap.size + 1 + 1 ≠ w.heap.size := by omega
              have hne2 : w.heap.size + 1 ≠ w.heap.size + 1 + 1 := by omega
              exact ⟨1, fun i => if i = 0 then k else x i, r.drop c, A, 0, 0, by omega, rfl, by go_num, rfl, hslice.setCell (p := ⟨w.heap.size + 1 + 1, 0, none⟩) (by simp; omega) _, by omega, by omega, by unfold maxLen; omega,
                taken_step 1048576 HTK.out rfl HS.out, bound_step HBO.out (by have := hkm; show k ≤ 1048576; omega), Below.drew (HB.out.setCell (p := ⟨w.heap.size + 1 + 1, 0, none⟩) (by simp; omega) _), HK1.out.far (p := ⟨w.heap.size + 1 + 1, 0, none⟩) hne.symm _, HK2.out.far (p := ⟨w.heap.size + 1 + 1, 0, none⟩) hne2 _, HK3.out.set_ 0 _⟩
          · rw [if_neg hca] at hslice
            go_wp2_with (go_at_call 108; refine hct.mono ?_; clear hct; rintro e' w9 ⟨rfl, rfl⟩)
            go_region
            go_wp2_with fail
            go_roundg 5
            case measure => omega
            case rel =>
              have hne : w.heap.size + 1 + 1 ≠ w.heap.size := by omega
              have hne2 : w.heap.size + 1 ≠ w.heap.size + 1 + 1 := by omega
              exact ⟨1, fun i => if i = 0 then k else x i, r.drop m, (A.map (·.add m)), n - m, c - m, by omega, rfl, by go_num, rfl, hslice.setCell (p := ⟨w.heap.size + 1 + 1, 0, none⟩) (by simp; omega) _, by omega, by omega, by unfold maxLen; omega,
                taken_step 1048576 HTK.out rfl HS.out, bound_step HBO.out (by have := hkm; show k ≤ 1048576; omega), Below.drew (HB.out.setCell (p := ⟨w.heap.size + 1 + 1, 0, none⟩) (by simp; omega) _), HK1.out.far (p := ⟨w.heap.size + 1 + 1, 0, none⟩) hne.symm _, HK2.out.far (p := ⟨w.heap.size + 1 + 1, 0, none⟩) hne2 _, HK3.out.set_ 0 _⟩
        · have hno : decP l = none := taken_bad 1048576 HTK.out rfl HS.out he
          have hei : ¬(e : Int) = 0 := by omega
          obtain ⟨⟨c0, c1, c2, c3, c4, c5⟩, f0, f1, f2, f3, f4, f5⟩ := page_cells k1
          clear k1 k2 k3 hrd HBO
          go_wp2_with (go_at_call 108; refine hct.mono ?_; clear hct; rintro e' w9 ⟨rfl, rfl⟩)
          refine bodyPost_ret (by simp [results, Tryz.results64, go_sem, c0, c1, c2, c3, c4, c5]; try rfl) rfl ?_
          rw [hno]
          exact ⟨rfl, below_page hb (Nat.le_refl _) _ _ _ _ _ _⟩
      · have hs9 := hb.size
        obtain ⟨k, m, e, hs⟩ : ∃ k m e, Vi.small 3 r = (k, m, e) := ⟨_, _, _, rfl⟩
        have hct := small_at A n c w.heap.size r 3 k m e wr hrd (by omega) (by decide) hs
        have m0 : wr.cell? ⟨w.heap.size + 1, 1, none⟩ = some (.int .i64 3) := k2.cell 1
        have HS := hid hs
        have HTK := hid htk
        have HBO := hid hbo
        clear htk hs hbo
        by_cases he : e = 0
        · subst he
          have hsl := small_len 3 r (by rw [HS.out])
          rw [HS.out] at hsl
          obtain ⟨hmr, hkm⟩ := hsl
          simp only at hmr hkm
          have hrl : r.length = n := by have := hrd.1; rw [bts_length] at this; omega
          rw [hrl] at hmr
          have HRL := hid hrl
          clear hrl
          have hslice := hrd.drop (k := m) (cap := c) hmr hc
          rw [Nat.mul_one, bts_drop] at hslice
          have HK1 := hid k1
          have HK2 := hid k2
          have HK3 := hid k3
          have HB := hid hb
          have HRD := hid hrd
          have l0 : wr.cell? ⟨w.heap.size + 1 + 1, 1, none⟩ = some (.int .i64 0) := k3.cell 1
          have lf : wr.frozen? ⟨w.heap.size + 1 + 1, 1, none⟩ = false := k3.frozen 1
          have hmi : (m : Int) ≤ (n : Int) := by omega
          clear k1 k2 k3 hb hrd
          by_cases hca : c = m
          · obtain rfl := hca
            rw [if_pos rfl, show n - c = 0 by omega] at hslice
            go_wp2_with (go_at_call 108; refine hct.mono ?_; clear hct; rintro e' w9 ⟨rfl, rfl⟩)
            go_region
            go_wp2_with fail
            go_roundg 4
            case measure => omega
            case rel =>
              have hne : w.heap.size + 1 + 1 ≠ w.heap.size := by omega
              have hne2 : w.heap.size + 1 ≠ w.heap.size + 1 + 1 := by omega
              exact ⟨2, fun i => if i = 1 then k else x i, r.drop c, A, 0, 0, by omega, rfl, by go_num, rfl, hslice.setCell (p := ⟨w.heap.size + 1 + 1, 1, none⟩) (by simp; omega) _, by omega, by omega, by unfold maxLen; omega,
                taken_step 3 HTK.out rfl HS.out, bound_step HBO.out (by have := hkm; show k ≤ 3; omega), Below.drew (HB.out.setCell (p := ⟨w.heap.size + 1 + 1, 1, none⟩) (by simp; omega) _), HK1.out.far (p := ⟨w.heap.size + 1 + 1, 1, none⟩) hne.symm _, HK2.out.far (p := ⟨w.heap.size + 1 + 1, 1, none⟩) hne2 _, HK3.out.set_ 1 _⟩
          · rw [if_neg hca] at hslice
            go_wp2_with (go_at_call 108; refine hct.mono ?_; clear hct; rintro e' w9 ⟨rfl, rfl⟩)
            go_region
            go_wp2_with fail
            go_roundg 4
            case measure => omega
            case rel =>
              have hne : w.heap.size + 1 + 1 ≠ w.heap.size := by omega
              have hne2 : w.heap.size + 1 ≠ w.heap.size + 1 + 1 := by omega
              exact ⟨2, fun i => if i = 1 then k else x i, r.drop m, (A.map (·.add m)), n - m, c - m, by omega, rfl, by go_num, rfl, hslice.setCell (p := ⟨w.heap.size + 1 + 1, 1, none⟩) (by simp; omega) _, by omega, by omega, by unfold maxLen; omega,
                taken_step 3 HTK.out rfl HS.out, bound_step HBO.out (by have := hkm; show k ≤ 3; omega), Below.drew (HB.out.setCell (p := ⟨w.heap.size + 1 + 1, 1, none⟩) (by simp; omega) _), HK1.out.far (p := ⟨w.heap.size + 1 + 1, 1, none⟩) hne.symm _, HK2.out.far (p := ⟨w.heap.size + 1 + 1, 1, none⟩) hne2 _, HK3.out.set_ 1 _⟩
        · have hno : decP l = none := taken_bad 3 HTK.out rfl HS.out he
          have hei : ¬(e : Int) = 0 := by omega
          obtain ⟨⟨c0, c1, c2, c3, c4, c5⟩, f0, f1, f2, f3, f4, f5⟩ := page_cells k1
          clear k1 k2 k3 hrd HBO
          go_wp2_with (go_at_call 108; refine hct.mono ?_; clear hct; rintro e' w9 ⟨rfl, rfl⟩)
          refine bodyPost_ret (by simp [results, Tryz.results64, go_sem, c0, c1, c2, c3, c4, c5]; try rfl) rfl ?_
          rw [hno]
          exact ⟨rfl, below_page hb (Nat.le_refl _) _ _ _ _ _ _⟩
      · have hs9 := hb.size
        obtain ⟨k, m, e, hs⟩ : ∃ k m e, Vi.small 1048576 r = (k, m, e) := ⟨_, _, _, rfl⟩
        have hct := small_at A n c w.heap.size r 1048576 k m e wr hrd (by omega) (by decide) hs
        have m0 : wr.cell? ⟨w.heap.size + 1, 2, none⟩ = some (.int .i64 1048576) := k2.cell 2
        have HS := hid hs
        have HTK := hid htk
        have HBO := hid hbo
        clear htk hs hbo
        by_cases he : e = 0
        · subst he
          have hsl := small_len 1048576 r (by rw [HS.out])
          rw [HS.out] at hsl
          obtain ⟨hmr, hkm⟩ := hsl
          simp only at hmr hkm
          have hrl : r.length = n := by have := hrd.1; rw [bts_length] at this; omega
          rw [hrl] at hmr
          have HRL := hid hrl
          clear hrl
          have hslice := hrd.drop (k := m) (cap := c) hmr hc
          rw [Nat.mul_one, bts_drop] at hslice
          have HK1 := hid k1
          have HK2 := hid k2
          have HK3 := hid k3
          have HB := hid hb
          have HRD := hid hrd
          have l0 : wr.cell? ⟨w.heap.size + 1 + 1, 2, none⟩ = some (.int .i64 0) := k3.cell 2
          have lf : wr.frozen? ⟨w.heap.size + 1 + 1, 2, none⟩ = false := k3.frozen 2
          have hmi : (m : Int) ≤ (n : Int) := by omega
          clear k1 k2 k3 hb hrd
          by_cases hca : c = m
          · obtain rfl := hca
            rw [if_pos rfl, show n - c = 0 by omega] at hslice
            go_wp2_with (go_at_call 108; refine hct.mono ?_; clear hct; rintro e' w9 ⟨rfl, rfl⟩)
            go_region
            go_wp2_with fail
            go_roundg 3
            case measure => omega
            case rel =>
              have hne : w.heap.size + 1 + 1 ≠ w.heap.size := by omega
              have hne2 : w.heap.size + 1 ≠ w.heap.size + 1 + 1 := by omega
              exact ⟨3, fun i => if i = 2 then k else x i, r.drop c, A, 0, 0, by omega, rfl, by go_num, rfl, hslice.setCell (p := ⟨w.heap.size + 1 + 1, 2, none⟩) (by simp; omega) _, by omega, by omega, by unfold maxLen; omega,
                taken_step 1048576 HTK.out rfl HS.out, bound_step HBO.out (by have := hkm; show k ≤ 1048576; omega), Below.drew (HB.out.setCell (p := ⟨w.heap.size + 1 + 1, 2, none⟩) (by simp; omega) _), HK1.out.far (p := ⟨w.heap.size + 1 + 1, 2, none⟩) hne.symm _, HK2.out.far (p := ⟨w.heap.size + 1 + 1, 2, none⟩) hne2 _, HK3.out.set_ 2 _⟩
          · rw [if_neg hca] at hslice
            go_wp2_with (go_at_call 108; refine hct.mono ?_; clear hct; rintro e' w9 ⟨rfl, rfl⟩)
            go_region
            go_wp2_with fail
            go_roundg 3
            case measure => omega
            case rel =>
              have hne : w.heap.size + 1 + 1 ≠ w.heap.size := by omega
              have hne2 : w.heap.size + 1 ≠ w.heap.size + 1 + 1 := by omega
              exact ⟨3, fun i => if i = 2 then k else x i, r.drop m, (A.map (·.add m)), n - m, c - m, by omega, rfl, by go_num, rfl, hslice.setCell (p := ⟨w.heap.size + 1 + 1, 2, none⟩) (by simp; omega) _, by omega, by omega, by unfold maxLen; omega,
                taken_step 1048576 HTK.out rfl HS.out, bound_step HBO.out (by have := hkm; show k ≤ 1048576; omega), Below.drew (HB.out.setCell (p := ⟨w.heap.size + 1 + 1, 2, none⟩) (by simp; omega) _), HK1.out.far (p := ⟨w.heap.size + 1 + 1, 2, none⟩) hne.symm _, HK2.out.far (p := ⟨w.heap.size + 1 + 1, 2, none⟩) hne2 _, HK3.out.set_ 2 _⟩
        · have hno : decP l = none := taken_bad 1048576 HTK.out rfl HS.out he
          have hei : ¬(e : Int) = 0 := by omega
          obtain ⟨⟨c0, c1, c2, c3, c4, c5⟩, f0, f1, f2, f3, f4, f5⟩ := page_cells k1
          clear k1 k2 k3 hrd HBO
          go_wp2_with (go_at_call 108; refine hct.mono ?_; clear hct; rintro e' w9 ⟨rfl, rfl⟩)
          refine bodyPost_ret (by simp [results, Tryz.results64, go_sem, c0, c1, c2, c3, c4, c5]; try rfl) rfl ?_
          rw [hno]
          exact ⟨rfl, below_page hb (Nat.le_refl _) _ _ _ _ _ _⟩
      · have hs9 := hb.size
        obtain ⟨k, m, e, hs⟩ : ∃ k m e, Vi.small 4 r = (k, m, e) := ⟨_, _, _, rfl⟩
        have hct := small_at A n c w.heap.size r 4 k m e wr hrd (by omega) (by decide) hs
        have m0 : wr.cell? ⟨w.heap.size + 1, 3, none⟩ = some (.int .i64 4) := k2.cell 3
        have HS := hid hs
        have HTK := hid htk
        have HBO := hid hbo
        clear htk hs hbo
        by_cases he : e = 0
        · subst he
          have hsl := small_len 4 r (by rw [HS.out])
          rw [HS.out] at hsl
          obtain ⟨hmr, hkm⟩ := hsl
          simp only at hmr hkm
          have hrl : r.length = n := by have := hrd.1; rw [bts_length] at this; omega
          rw [hrl] at hmr
          have HRL := hid hrl
          clear hrl
          have hslice := hrd.drop (k := m) (cap := c) hmr hc
          rw [Nat.mul_one, bts_drop] at hslice
          have HK1 := hid k1
          have HK2 := hid k2
          have HK3 := hid k3
          have HB := hid hb
          have HRD := hid hrd
          have l0 : wr.cell? ⟨w.heap.size + 1 + 1, 3, none⟩ = some (.int .i64 0) := k3.cell 3
          have lf : wr.frozen? ⟨w.heap.size + 1 + 1, 3, none⟩ = false := k3.frozen 3
          have hmi : (m : Int) ≤ (n : Int) := by omega
          clear k1 k2 k3 hb hrd
          by_cases hca : c = m
          · obtain rfl := hca
            rw [if_pos rfl, show n - c = 0 by omega] at hslice
            go_wp2_with (go_at_call 108; refine hct.mono ?_; clear hct; rintro e' w9 ⟨rfl, rfl⟩)
            go_region
            go_wp2_with fail
            go_roundg 2
            case measure => omega
            case rel =>
              have hne : w.heap.size + 1 + 1 ≠ w.heap.size := by omega
              have hne2 : w.heap.size + 1 ≠ w.heap.size + 1 + 1 := by omega
              exact ⟨4, fun i => if i = 3 then k else x i, r.drop c, A, 0, 0, by omega, rfl, by go_num, rfl, hslice.setCell (p := ⟨w.heap.size + 1 + 1, 3, none⟩) (by simp; omega) _, by omega, by omega, by unfold maxLen; omega,
                taken_step 4 HTK.out rfl HS.out, bound_step HBO.out (by have := hkm; show k ≤ 4; omega), Below.drew (HB.out.setCell (p := ⟨w.heap.size + 1 + 1, 3, none⟩) (by simp; omega) _), HK1.out.far (p := ⟨w.heap.size + 1 + 1, 3, none⟩) hne.symm _, HK2.out.far (p := ⟨w.heap.size + 1 + 1, 3, none⟩) hne2 _, HK3.out.set_ 3 _⟩
          · rw [if_neg hca] at hslice
            go_wp2_with (go_at_call 108; refine hct.mono ?_; clear hct; rintro e' w9 ⟨rfl, rfl⟩)
            go_region
            go_wp2_with fail
            go_roundg 2
            case measure => omega
            case rel =>
              have hne : w.heap.size + 1 + 1 ≠ w.heap.size := by omega
              have hne2 : w.heap.size + 1 ≠ w.heap.size + 1 + 1 := by omega
              exact ⟨4, fun i => if i = 3 then k else x i, r.drop m, (A.map (·.add m)), n - m, c - m, by omega, rfl, by go_num, rfl, hslice.setCell (p := ⟨w.heap.size + 1 + 1, 3, none⟩) (by simp; omega) _, by omega, by omega, by unfold maxLen; omega,
                taken_step 4 HTK.out rfl HS.out, bound_step HBO.out (by have := hkm; show k ≤ 4; omega), Below.drew (HB.out.setCell (p := ⟨w.heap.size + 1 + 1, 3, none⟩) (by simp; omega) _), HK1.out.far (p := ⟨w.heap.size + 1 + 1, 3, none⟩) hne.symm _, HK2.out.far (p := ⟨w.heap.size + 1 + 1, 3, none⟩) hne2 _, HK3.out.set_ 3 _⟩
        · have hno : decP l = none := taken_bad 4 HTK.out rfl HS.out he
          have hei : ¬(e : Int) = 0 := by omega
          obtain ⟨⟨c0, c1, c2, c3, c4, c5⟩, f0, f1, f2, f3, f4, f5⟩ := page_cells k1
          clear k1 k2 k3 hrd HBO
          go_wp2_with (go_at_call 108; refine hct.mono ?_; clear hct; rintro e' w9 ⟨rfl, rfl⟩)
          refine bodyPost_ret (by simp [results, Tryz.results64, go_sem, c0, c1, c2, c3, c4, c5]; try rfl) rfl ?_
          rw [hno]
          exact ⟨rfl, below_page hb (Nat.le_refl _) _ _ _ _ _ _⟩
      · have hs9 := hb.size
        obtain ⟨k, m, e, hs⟩ : ∃ k m e, Vi.small 1048576 r = (k, m, e) := ⟨_, _, _, rfl⟩
        have hct := small_at A n c w.heap.size r 1048576 k m e wr hrd (by omega) (by decide) hs
        have m0 : wr.cell? ⟨w.heap.size + 1, 4, none⟩ = some (.int .i64 1048576) := k2.cell 4
        have HS := hid hs
        have HTK := hid htk
        have HBO := hid hbo
        clear htk hs hbo
        by_cases he : e = 0
        · subst he
          have hsl := small_len 1048576 r (by rw [HS.out])
          rw [HS.out] at hsl
          obtain ⟨hmr, hkm⟩ := hsl
          simp only at hmr hkm
          have hrl : r.length = n := by have := hrd.1; rw [bts_length] at this; omega
          rw [hrl] at hmr
          have HRL := hid hrl
          clear hrl
          have hslice := hrd.drop (k := m) (cap := c) hmr hc
          rw [Nat.mul_one, bts_drop] at hslice
          have HK1 := hid k1
          have HK2 := hid k2
          have HK3 := hid k3
          have HB := hid hb
          have HRD := hid hrd
          have l0 : wr.cell? ⟨w.heap.size + 1 + 1, 4, none⟩ = some (.int .i64 0) := k3.cell 4
          have lf : wr.frozen? ⟨w.heap.size + 1 + 1, 4, none⟩ = false := k3.frozen 4
          have hmi : (m : Int) ≤ (n : Int) := by omega
          clear k1 k2 k3 hb hrd
          by_cases hca : c = m
          · obtain rfl := hca
            rw [if_pos rfl, show n - c = 0 by omega] at hslice
            go_wp2_with (go_at_call 108; refine hct.mono ?_; clear hct; rintro e' w9 ⟨rfl, rfl⟩)
            go_region
            go_wp2_with fail
            go_roundg 1
            case measure => omega
            case rel =>
              have hne : w.heap.size + 1 + 1 ≠ w.heap.size := by omega
              have hne2 : w.heap.size + 1 ≠ w.heap.size + 1 + 1 := by omega
              exact ⟨5, fun i => if i = 4 then k else x i, r.drop c, A, 0, 0, by omega, rfl, by go_num, rfl, hslice.setCell (p := ⟨w.heap.size + 1 + 1, 4, none⟩) (by simp; omega) _, by omega, by omega, by unfold maxLen; omega,
                taken_step 1048576 HTK.out rfl HS.out, bound_step HBO.out (by have := hkm; show k ≤ 1048576; omega), Below.drew (HB.out.setCell (p := ⟨w.heap.size + 1 + 1, 4, none⟩) (by simp; omega) _), HK1.out.far (p := ⟨w.heap.size + 1 + 1, 4, none⟩) hne.symm _, HK2.out.far (p := ⟨w.heap.size + 1 + 1, 4, none⟩) hne2 _, HK3.out.set_ 4 _⟩
          · rw [if_neg hca] at hslice
            go_wp2_with (go_at_call 108; refine hct.mono ?_; clear hct; rintro e' w9 ⟨rfl, rfl⟩)
            go_region
            go_wp2_with fail
            go_roundg 1
            case measure => omega
            case rel =>
              have hne : w.heap.size + 1 + 1 ≠ w.heap.size := by omega
              have hne2 : w.heap.size + 1 ≠ w.heap.size + 1 + 1 := by omega
              exact ⟨5, fun i => if i = 4 then k else x i, r.drop m, (A.map (·.add m)), n - m, c - m, by omega, rfl, by go_num, rfl, hslice.setCell (p := ⟨w.heap.size + 1 + 1, 4, none⟩) (by simp; omega) _, by omega, by omega, by unfold maxLen; omega,
                taken_step 1048576 HTK.out rfl HS.out, bound_step HBO.out (by have := hkm; show k ≤ 1048576; omega), Below.drew (HB.out.setCell (p := ⟨w.heap.size + 1 + 1, 4, none⟩) (by simp; omega) _), HK1.out.far (p := ⟨w.heap.size + 1 + 1, 4, none⟩) hne.symm _, HK2.out.far (p := ⟨w.heap.size + 1 + 1, 4, none⟩) hne2 _, HK3.out.set_ 4 _⟩
        · have hno : decP l = none := taken_bad 1048576 HTK.out rfl HS.out he
          have hei : ¬(e : Int) = 0 := by omega
          obtain ⟨⟨c0, c1, c2, c3, c4, c5⟩, f0, f1, f2, f3, f4, f5⟩ := page_cells k1
          clear k1 k2 k3 hrd HBO
          go_wp2_with (go_at_call 108; refine hct.mono ?_; clear hct; rintro e' w9 ⟨rfl, rfl⟩)
          refine bodyPost_ret (by simp [results, Tryz.results64, go_sem, c0, c1, c2, c3, c4, c5]; try rfl) rfl ?_
          rw [hno]
          exact ⟨rfl, below_page hb (Nat.le_refl _) _ _ _ _ _ _⟩
      · have hs9 := hb.size
        obtain ⟨k, m, e, hs⟩ : ∃ k m e, Vi.small 1073741824 r = (k, m, e) := ⟨_, _, _, rfl⟩
        have hct := small_at A n c w.heap.size r 1073741824 k m e wr hrd (by omega) (by decide) hs
        have m0 : wr.cell? ⟨w.heap.size + 1, 5, none⟩ = some (.int .i64 1073741824) := k2.cell 5
        have HS := hid hs
        have HTK := hid htk
        have HBO := hid hbo
        clear htk hs hbo
        by_cases he : e = 0
        · subst he
          have hsl := small_len 1073741824 r (by rw [HS.out])
          rw [HS.out] at hsl
          obtain ⟨hmr, hkm⟩ := hsl
          simp only at hmr hkm
          have hrl : r.length = n := by have := hrd.1; rw [bts_length] at this; omega
          rw [hrl] at hmr
          have HRL := hid hrl
          clear hrl
          have hslice := hrd.drop (k := m) (cap := c) hmr hc
          rw [Nat.mul_one, bts_drop] at hslice
          have HK1 := hid k1
          have HK2 := hid k2
          have HK3 := hid k3
          have HB := hid hb
          have HRD := hid hrd
          have l0 : wr.cell? ⟨w.heap.size + 1 + 1, 5, none⟩ = some (.int .i64 0) := k3.cell 5
          have lf : wr.frozen? ⟨w.heap.size + 1 + 1, 5, none⟩ = false := k3.frozen 5
          have hmi : (m : Int) ≤ (n : Int) := by omega
          clear k1 k2 k3 hb hrd
          by_cases hca : c = m
          · obtain rfl := hca
            rw [if_pos rfl, show n - c = 0 by omega] at hslice
            go_wp2_with (go_at_call 108; refine hct.mono ?_; clear hct; rintro e' w9 ⟨rfl, rfl⟩)
            go_region
            go_wp2_with fail
            go_roundg 0
            case measure => omega
            case rel =>
              have hne : w.heap.size + 1 + 1 ≠ w.heap.size := by omega
              have hne2 : w.heap.size + 1 ≠ w.heap.size + 1 + 1 := by omega
              exact ⟨6, fun i => if i = 5 then k else x i, r.drop c, A, 0, 0, by omega, rfl, by go_num, rfl, hslice.setCell (p := ⟨w.heap.size + 1 + 1, 5, none⟩) (by simp; omega) _, by omega, by omega, by unfold maxLen; omega,
                taken_step 1073741824 HTK.out rfl HS.out, bound_step HBO.out (by have := hkm; show k ≤ 1073741824; omega), Below.drew (HB.out.setCell (p := ⟨w.heap.size + 1 + 1, 5, none⟩) (by simp; omega) _), HK1.out.far (p := ⟨w.heap.size + 1 + 1, 5, none⟩) hne.symm _, HK2.out.far (p := ⟨w.heap.size + 1 + 1, 5, none⟩) hne2 _, HK3.out.set_ 5 _⟩
          · rw [if_neg hca] at hslice
            go_wp2_with (go_at_call 108; refine hct.mono ?_; clear hct; rintro e' w9 ⟨rfl, rfl⟩)
            go_region
            go_wp2_with fail
            go_roundg 0
            case measure => omega
            case rel =>
              have hne : w.heap.size + 1 + 1 ≠ w.heap.size := by omega
              have hne2 : w.heap.size + 1 ≠ w.heap.size + 1 + 1 := by omega
              exact ⟨6, fun i => if i = 5 then k else x i, r.drop m, (A.map (·.add m)), n - m, c - m, by omega, rfl, by go_num, rfl, hslice.setCell (p := ⟨w.heap.size + 1 + 1, 5, none⟩) (by simp; omega) _, by omega, by omega, by unfold maxLen; omega,
                taken_step 1073741824 HTK.out rfl HS.out, bound_step HBO.out (by have := hkm; show k ≤ 1073741824; omega), Below.drew (HB.out.setCell (p := ⟨w.heap.size + 1 + 1, 5, none⟩) (by simp; omega) _), HK1.out.far (p := ⟨w.heap.size + 1 + 1, 5, none⟩) hne.symm _, HK2.out.far (p := ⟨w.heap.size + 1 + 1, 5, none⟩) hne2 _, HK3.out.set_ 5 _⟩
        · have hno : decP l = none := taken_bad 1073741824 HTK.out rfl HS.out he
          have hei : ¬(e : Int) = 0 := by omega
          obtain ⟨⟨c0, c1, c2, c3, c4, c5⟩, f0, f1, f2, f3, f4, f5⟩ := page_cells k1
          clear k1 k2 k3 hrd HBO
          go_wp2_with (go_at_call 108; refine hct.mono ?_; clear hct; rintro e' w9 ⟨rfl, rfl⟩)
          refine bodyPost_ret (by simp [results, Tryz.results64, go_sem, c0, c1, c2, c3, c4, c5]; try rfl) rfl ?_
          rw [hno]
          exact ⟨rfl, below_page hb (Nat.le_refl _) _ _ _ _ _ _⟩
    · obtain rfl : j = 6 := by omega
      have hrl : r.length = n := by have := hrd.1; rw [bts_length] at this; omega
      have h0 := hbo 0 (by omega)
      have h1 := hbo 1 (by omega)
      have h2 := hbo 2 (by omega)
      have h3 := hbo 3 (by omega)
      have h4 := hbo 4 (by omega)
      have h5 := hbo 5 (by omega)
      simp [mosts] at h0 h1 h2 h3 h4 h5
      have q0 : wr.cell? ⟨w.heap.size + 1 + 1, 0, none⟩ = some (.int .i64 (x 0 : Nat)) := k3.cell 0
      have q1 : wr.cell? ⟨w.heap.size + 1 + 1, 1, none⟩ = some (.int .i64 (x 1 : Nat)) := k3.cell 1
      have q2 : wr.cell? ⟨w.heap.size + 1 + 1, 2, none⟩ = some (.int .i64 (x 2 : Nat)) := k3.cell 2
      have q3 : wr.cell? ⟨w.heap.size + 1 + 1, 3, none⟩ = some (.int .i64 (x 3 : Nat)) := k3.cell 3
      have q4 : wr.cell? ⟨w.heap.size + 1 + 1, 4, none⟩ = some (.int .i64 (x 4 : Nat)) := k3.cell 4
      have q5 : wr.cell? ⟨w.heap.size + 1 + 1, 5, none⟩ = some (.int .i64 (x 5 : Nat)) := k3.cell 5
      have hmore := @dec_more l r x htk
      have hall := @dec_all l r x htk
      clear htk hbo k2 k3 hrd
      obtain ⟨y0, e0⟩ : ∃ y, x 0 = y := ⟨_, rfl⟩
      obtain ⟨y1, e1⟩ : ∃ y, x 1 = y := ⟨_, rfl⟩
      obtain ⟨y2, e2⟩ : ∃ y, x 2 = y := ⟨_, rfl⟩
      obtain ⟨y3, e3⟩ : ∃ y, x 3 = y := ⟨_, rfl⟩
      obtain ⟨y4, e4⟩ : ∃ y, x 4 = y := ⟨_, rfl⟩
      obtain ⟨y5, e5⟩ : ∃ y, x 5 = y := ⟨_, rfl⟩
      rw [e0] at q0 h0
      rw [e1] at q1 h1
      rw [e2] at q2 h2
      rw [e3] at q3 h3
      rw [e4] at q4 h4
      rw [e5] at q5 h5
      rw [e0, e1, e2, e3, e4, e5] at hall
      clear e0 e1 e2 e3 e4 e5
      have z1 : IntKind.u8.wrap (y1 : Int) = y1 := IntWalk.u8_in _ (by omega)
      have z3 : IntKind.u8.wrap (y3 : Int) = y3 := IntWalk.u8_in _ (by omega)
      by_cases hn0 : n = 0
      · have hall := hall (by omega)
        have HALL := hid hall
        clear hall hmore
        subst hn0
        obtain ⟨⟨c0, c1, c2, c3, c4, c5⟩, f0, f1, f2, f3, f4, f5⟩ := page_cells (k1.alloc (.cells #[.int .i64 y0, .int .u8 y1, .int .i64 y2, .int .u8 y3, .int .i64 y4, .int .i64 y5] 43))
        have hb2 := hb.alloc hb.size (.cells #[.int .i64 y0, .int .u8 y1, .int .i64 y2, .int .u8 y3, .int .i64 y4, .int .i64 y5] 43)
        by_cases hok : Ok ⟨y0, y1, y2, y3, y4, y5⟩
        · have hck := @check18_ok _ hok
          go_wp2_with (go_at_call 109; refine stop_ (fun Ps hPs => ?_))
          refine hPs ?_
          clear hPs Ps
          obtain ⟨W, hW⟩ : ∃ W, W = wr.alloc (.cells #[.int .i64 y0, .int .u8 y1, .int .i64 y2, .int .u8 y3, .int .i64 y4, .int .i64 y5] 43) := ⟨_, rfl⟩
          have kp := Blk.new wr 43 #[.int .i64 y0, .int .u8 y1, .int .i64 y2, .int .u8 y3, .int .i64 y4, .int .i64 y5]
          have k1 := k1.alloc (.cells #[.int .i64 y0, .int .u8 y1, .int .i64 y2, .int .u8 y3, .int .i64 y4, .int .i64 y5] 43)
          clear c0 c1 c2 c3 c4 c5 f0 f1 f2 f3 f4 f5
          rw [← hW] at kp k1 hb2 ⊢
          clear hW
          refine (hck _).mono ?_
          clear hck
          rintro e w9 ⟨rfl, hq⟩
          have kp := kp.later hq
          have k1 := k1.later hq
          have hb2 := bl_trans hb2 hq hb2.size
          clear hq
          obtain ⟨⟨p0, p1, p2, p3, p4, p5⟩, g0, g1, g2, g3, g4, g5⟩ := page_cells kp
          obtain ⟨⟨c0, c1, c2, c3, c4, c5⟩, f0, f1, f2, f3, f4, f5⟩ := page_cells k1
          go_wp2_with fail
          refine bodyPost_ret (by simp [results, Tryz.results64, go_sem, c0, c1, c2, c3, c4, c5]; try rfl) rfl ?_
          rw [HALL.out, if_pos hok]
          exact ⟨rfl, below_page hb2 (Nat.le_refl _) _ _ _ _ _ _⟩
        · have hck := @check18_no _ hok
          go_wp2_with (go_at_call 109; refine stop_ (fun Ps hPs => ?_))
          refine hPs ?_
          clear hPs Ps
          obtain ⟨W, hW⟩ : ∃ W, W = wr.alloc (.cells #[.int .i64 y0, .int .u8 y1, .int .i64 y2, .int .u8 y3, .int .i64 y4, .int .i64 y5] 43) := ⟨_, rfl⟩
          have kp := Blk.new wr 43 #[.int .i64 y0, .int .u8 y1, .int .i64 y2, .int .u8 y3, .int .i64 y4, .int .i64 y5]
          have k1 := k1.alloc (.cells #[.int .i64 y0, .int .u8 y1, .int .i64 y2, .int .u8 y3, .int .i64 y4, .int .i64 y5] 43)
          clear c0 c1 c2 c3 c4 c5 f0 f1 f2 f3 f4 f5
          rw [← hW] at kp k1 hb2 ⊢
          clear hW
          refine (hck _).mono ?_
          clear hck
          rintro e w9 ⟨rfl, hq⟩
          have kp := kp.later hq
          have k1 := k1.later hq
          have hb2 := bl_trans hb2 hq hb2.size
          clear hq
          obtain ⟨⟨p0, p1, p2, p3, p4, p5⟩, g0, g1, g2, g3, g4, g5⟩ := page_cells kp
          obtain ⟨⟨c0, c1, c2, c3, c4, c5⟩, f0, f1, f2, f3, f4, f5⟩ := page_cells k1
          go_wp2_with fail
          refine bodyPost_ret (by simp [results, Tryz.results64, go_sem, c0, c1, c2, c3, c4, c5]; try rfl) rfl ?_
          rw [HALL.out, if_neg hok]
          exact ⟨rfl, below_page hb2 (Nat.le_refl _) _ _ _ _ _ _⟩
      · have hno := hmore (by omega)
        have HNO := hid hno
        clear hall hmore hno
        have hpos : (0 : Int) < (n : Int) := by omega
        obtain ⟨⟨c0, c1, c2, c3, c4, c5⟩, f0, f1, f2, f3, f4, f5⟩ := page_cells (k1.alloc (.cells #[.int .i64 y0, .int .u8 y1, .int .i64 y2, .int .u8 y3, .int .i64 y4, .int .i64 y5] 43))
        have hb2 := hb.alloc hb.size (.cells #[.int .i64 y0, .int .u8 y1, .int .i64 y2, .int .u8 y3, .int .i64 y4, .int .i64 y5] 43)
        go_wp2_with fail
        refine bodyPost_ret (by simp [results, Tryz.results64, go_sem, c0, c1, c2, c3, c4, c5]; try rfl) rfl ?_
        rw [HNO.out]
        exact ⟨rfl, below_page hb2 (Nat.le_refl _) _ _ _ _ _ _⟩
end Go.Proofs.YtbpnbcjgkbpmgaaGreat.Pp
