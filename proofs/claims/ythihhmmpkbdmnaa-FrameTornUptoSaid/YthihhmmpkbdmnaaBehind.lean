/- The statement FrameBehind: the walk through its own text. -/
import Derived.Test.YthihhmmpkbdmnaaCalls9
namespace Go.Proofs.Ythihhmmpkbdmnaa
open Go.RowKit Go.Lg
set_option linter.unusedVariables false
set_option linter.unusedSimpArgs false

theorem RR.take {w : World} {B n : Nat} {A : Option Addr} {vs : List Value} {rs : List (List UInt8)} (h : RR w B A n vs rs) {k : Nat} (hk : k ≤ n) : RR w B A k (vs.take k) (rs.take k) := by
  refine ⟨by have := h.1.take hk; rwa [Nat.mul_one] at this, by rw [List.length_take, h.2.1]; omega, fun i u r hu hr => ?_⟩
  rw [List.getElem?_take] at hu hr
  split at hu
  · rename_i q; rw [if_pos q] at hr; exact h.2.2 i u r hu hr
  · cases hu

theorem records_self (A A' : Option Addr) (n c n' c' B B' : Nat) (vs vs' : List Value) (rs : List (List UInt8)) (w : World) (h : RR w B A n vs rs) (h' : RR w B' A' n' vs' rs) (hn : n ≤ 9223372036854775807) (hn' : n' ≤ 9223372036854775807) :
    Calls Try.prog 34 #[.slice A n c, .slice A' n' c'] w fun e w' => e = .returned (.bool true) ∧ ∃ d, w' = w.drewN d :=
  (records_any A A' n c n' c' B B' vs vs' rs rs w h h' hn hn').mono fun e w' ⟨h1, h2⟩ => ⟨by rw [h1, decide_eq_true rfl], h2⟩

set_option maxHeartbeats 800000 in
set_option maxRecDepth 100000 in
theorem behind_small (A A' : Option Addr) (n c n' c' : Nat) (l l' : List UInt8) (w : World) (h : Rd w w.heap.size 1 A n (bts l)) (h' : Rd w w.heap.size 1 A' n' (bts l')) (hn : n ≤ 4000) (hn' : n' ≤ 400) (hc : n ≤ c) (hcm : c ≤ maxLen) :
    Calls Try.prog 11 #[.slice A n c, .slice A' n' c'] w fun e w' => e = .returned (.bool true) ∧ Below w.heap.size w w' := by
  have hl : l.length = n := by have := h.1; rw [bts_length] at this; omega
  have hl' : l'.length = n' := by have := h'.1; rw [bts_length] at this; omega
  obtain ⟨rs, k, hk⟩ : ∃ rs k, Vi.scan l = (rs, k) := ⟨_, _, rfl⟩
  have hfit := Vi.scan_fits _ l (Nat.lt_succ_self _)
  rw [hk, hl] at hfit
  obtain ⟨hkn, hnone, hrk⟩ : k ≤ n ∧ Vi.fread (l.drop k) = none ∧ rs.length ≤ k := hfit
  obtain ⟨out, hout⟩ : ∃ out, out = l.take k ++ Vi.fr l' := ⟨_, rfl⟩
  obtain ⟨q, hq⟩ : ∃ q, q = rs.length := ⟨_, rfl⟩
  obtain ⟨o, ho⟩ : ∃ o, o = out.length := ⟨_, rfl⟩
  have hsc : Vi.scan out = (rs ++ [l'], o) := by
    have h1 := Vi.scan_take _ l (Nat.lt_succ_self _) (Vi.fr l')
    rw [hk] at h1
    have h2 := Vi.scan_frs [l'] [] (by simp; omega)
    simp only [Vi.frs, List.flatMap_cons, List.flatMap_nil, List.append_nil] at h2
    rw [Vi.scan_none (b := []) (by decide)] at h2
    have h3 : (l.take k).length = k := by rw [List.length_take]; omega
    rw [hout, h1, h2, ho, hout, List.length_append, h3]
    simp
  have hol : o ≤ 5000 := by
    have := Vi.encF_len_le 9 l'.length
    rw [ho, hout]
    simp only [Vi.fr, Vi.enc, List.length_append, List.length_take]
    omega
  have happ : out = l.take k ++ Vi.fr l' := hout
  have HK := hid hk
  have HN := hid hnone
  have HS := hid hsc
  have HP := hid happ
  have HQ := hid hq
  have HO := hid ho
  have hqn : q ≤ 4000 := by omega
  have hcm0 := hid hcm
  unfold maxLen at hcm
  clear hk hnone hsc happ hq ho hout hl hl' hrk
  go_enter Try.func11, Try.ntmps11
  go_wp2_with fail
  refine (lives9_any w).mono ?_
  rintro e w1 ⟨rfl, hb1⟩
  have h1 := (h.below hb1).more hb1.size
  have h1' := (h'.below hb1).more hb1.size
  go_wp2_with fail
  refine (scan_as A n c l (rs, k) w1 HK.out h1 (by omega) hc hcm0.out).mono ?_
  rintro e w2 ⟨v, vs, rfl, hrec, hb2⟩
  obtain ⟨Av, cv, hv, hv1, hv2⟩ := owned_slice hrec.out
  rw [show (rs, k).1.length = q from HQ.out.symm] at hv
  subst hv
  have b02 := bst hb1 hb2
  have h2 := (h.below b02).more b02.size
  have h2' := (h'.below b02).more b02.size
  have hslice := h2.drop (k := k) (cap := c) hkn hc
  rw [Nat.mul_one, bts_drop] at hslice
  have htake := h2.take hkn
  rw [Nat.mul_one, bts_take] at htake
  have hR2 := hrec.reads.2
  have HR2 := hid hR2
  clear hR2 hrec h1 h1' h h'
  by_cases hca : c = k
  all_goals
    first | rw [if_pos hca] at hslice | rw [if_neg hca] at hslice
    try (obtain rfl := hca.symm; rw [show n - k = 0 by omega] at hslice)
    go_wp2_with fail
    refine (fRead_none _ _ _ _ _ w2 hslice (by omega) HN.out).mono ?_
    rintro e w3 ⟨rfl, rfl⟩
    clear hslice
    go_wp2_with fail
    refine (fAppend_any A A' k _ n' c' (l.take k) l' out w2 htake h2' (by omega) (by omega) HP.out).mono ?_
    rintro e w3 ⟨cc, rfl, hcc, hb3⟩
    obtain ⟨A3, c3, hcv, h3, h4⟩ := owned_slice hcc
    rw [← HO.out] at hcv h3
    subst hcv
    rw [← HO.out] at hcc
    have hr3 := Rd.of_own hcc
    have h3' := h2'.below hb3
    clear hcc htake h2 h2'
    go_wp2_with fail
    refine (scan_as A3 o c3 out (rs ++ [l'], o) w3 HS.out hr3 (by omega) h3 h4).mono ?_
    rintro e w4 ⟨v4, vs4, rfl, hrec4, hb4⟩
    obtain ⟨A4, c4, hv4, h5, h6⟩ := owned_slice hrec4.out
    have hq1 : (rs ++ [l']).length = q + 1 := by rw [List.length_append, ← HQ.out]; rfl
    rw [show ((rs ++ [l'], o) : List (List UInt8) × Nat).1.length = q + 1 from hq1] at hv4 h5
    subst hv4
    have hR4 := hrec4.reads.2
    have b24 := bst hb3 hb4
    have hR24 := HR2.out.below b24
    have h4' := (h3'.more hb3.size).below hb4
    have b04 := bst b02 b24
    obtain ⟨q1, hqq⟩ : ∃ q1, q1 = q + 1 := ⟨_, rfl⟩
    rw [← hqq] at hR4 h5 ⊢
    have hRt := hR4.take (k := q) (by omega)
    rw [show List.take q ((rs ++ [l'], o) : List (List UInt8) × Nat).1 = rs by rw [HQ.out]; simp] at hRt
    obtain ⟨bb, off, u, hA4, hbb, hu, hcell⟩ := hR4.1.at_ (k := q) (by omega)
    obtain ⟨Ai, ci, rfl, hrd, hle⟩ := hR4.2.2 q u l' hu (by rw [HQ.out]; simp)
    subst hA4
    have HRT := hid hRt
    have HR24 := hid hR24
    have j1 : IntKind.i64.wrap ((q : Int) + 1) = (q1 : Int) := by rw [IntWalk.i64_in _ (by omega)]; omega
    have j2 : ((q1 : Int) == (q1 : Int)) = true := by simp
    have j3 : ((o : Int) == (o : Int)) = true := by simp
    have j4 : (q : Int) < (q1 : Int) := by omega
    have hq1c : q1 ≤ c4 := h5
    have j5 : (q : Int) ≤ (c4 : Int) := by omega
    have hl4 : l'.length ≤ 400 := by have := h4'.1; rw [bts_length] at this; omega
    unfold maxLen at h6
    clear hRt hR24 hR4 hrec4 hr3 h3' hu hq1
    go_wp2_with fail
    refine (records_self _ _ q _ q _ _ _ _ _ rs w4 HRT.out HR24.out (by omega) (by omega)).mono ?_
    rintro e w5 ⟨rfl, d, rfl⟩
    have hc5 : (w4.drewN d).cell? ⟨bb, off + q, none⟩ = some (.slice Ai l'.length ci) := hcell
    have k1 := hrd.drewN d
    have k2 := h4'.drewN d
    have k3 := below_drewN b04 d
    clear hcell hrd h4' b04
    generalize w4.drewN d = w5 at *
    go_wp2_with fail
    refine (same_self _ _ l'.length _ n' _ _ _ l' _ k1 k2 (by omega) (by omega)).mono ?_
    rintro e w6 ⟨rfl, d2, rfl⟩
    go_wp2_with fail
    go_ret
    exact ⟨rfl, below_drewN k3 d2⟩

set_option maxHeartbeats 800000 in
set_option maxRecDepth 100000 in
theorem behind_big (A A' : Option Addr) (n c n' c' : Nat) (w : World) (hn : n ≤ 9223372036854775807) (hn' : n' ≤ 9223372036854775807) (hbig : 4000 < n ∨ 400 < n') :
    Calls Try.prog 11 #[.slice A n c, .slice A' n' c'] w fun e w' => e = .returned (.bool true) ∧ Below w.heap.size w w' := by
  go_enter Try.func11, Try.ntmps11
  go_wp2_with fail
  refine (lives9_any w).mono ?_
  rintro e w1 ⟨rfl, hb1⟩
  rcases hbig with hbig | hbig
  · go_wp2_with fail
    go_ret
    exact ⟨rfl, hb1⟩
  · by_cases h1 : 4000 < n
    · go_wp2_with fail
      go_ret
      exact ⟨rfl, hb1⟩
    · go_wp2_with fail
      go_ret
      exact ⟨rfl, hb1⟩

theorem behind_walk (A A' : Option Addr) (n c n' c' : Nat) (l l' : List UInt8) (w : World) (h : Rd w w.heap.size 1 A n (bts l)) (h' : Rd w w.heap.size 1 A' n' (bts l')) (hc : n ≤ c) (hcm : c ≤ maxLen) (hc' : n' ≤ c') (hcm' : c' ≤ maxLen) :
    Calls Try.prog 11 #[.slice A n c, .slice A' n' c'] w fun e w' => e = .returned (.bool true) ∧ Below w.heap.size w w' := by
  unfold maxLen at hcm'
  by_cases h1 : n ≤ 4000 ∧ n' ≤ 400
  · exact behind_small A A' n c n' c' l l' w h h' h1.1 h1.2 hc hcm
  · unfold maxLen at hcm
    exact behind_big A A' n c n' c' w (by omega) (by omega) (by omega)
end Go.Proofs.Ythihhmmpkbdmnaa
