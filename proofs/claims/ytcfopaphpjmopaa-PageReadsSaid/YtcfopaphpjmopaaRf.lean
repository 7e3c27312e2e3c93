/- Any bytes are read as a page, and any file as its last page: the walk. -/
import Derived.Test.YtcfopaphpjmopaaRe
import Derived.Test.YtcfopaphpjmopaaLv
import Derived.Test.YtcfopaphpjmopaaLaw1
namespace Go.Proofs.Ytcfopaphpjmopaa
open Go.RowKit Go.Lg
set_option linter.unusedVariables false
set_option linter.unusedSimpArgs false

def dp (r : Option Pg) : Pg × Int := match r with
  | some p => (p, 0)
  | none => (z, 5)
theorem decoded_gives {F : Nat} {args : Array Value} {r : Option Pg} {w : World} (h : Calls Try.prog F args w (Decoded r w)) : Calls Try.prog F args w (Gives (dp r) w) := by
  cases r with
  | none => exact h
  | some p => exact h
def Last3 (r : Pg × Nat × Int) (w : World) (e : Ending) (w' : World) : Prop := e = .returned (.tuple #[r.1.v, .int .i64 r.2.1, .int .i64 r.2.2]) ∧ Below w.heap.size w w'
def lp (nd : Int) (l : List UInt8) : Pg × Nat × Int := if (firstP nd).2 = 0 then ((lastP (firstP nd).1 l).1, (lastP (firstP nd).1 l).2, 0) else (z, 0, 2)

set_option maxHeartbeats 8000000 in
set_option maxRecDepth 100000 in
theorem last11_no (A : Option Addr) (n c : Nat) (nd : Int) (w : World) (hf : firstP nd = (z, 2)) :
    Calls Try.prog 11 #[.slice A n c, .int .i64 nd] w (Last3 (z, 0, 2) w) := by
  have h8 := first8 nd
  rw [hf] at h8
  clear hf
  have h8 : ∀ w, Calls Try.prog 8 #[.int .i64 nd] w (Gives (⟨0, 0, 0, 0, 0, 0⟩, 2) w) := h8
  go_enter Try.func11, Try.ntmps11
  go_wp2_with (go_at_call 8; refine stop_ (fun Ps hPs => ?_))
  refine hPs ?_
  clear hPs Ps
  have kz := Blk.new w 25 #[.int .i64 0, .int .u8 0, .int .i64 0, .int .u8 0, .int .i64 0, .int .i64 0]
  have hb := (Below.refl w.heap.size w).alloc (Nat.le_refl _) (.cells #[.int .i64 0, .int .u8 0, .int .i64 0, .int .u8 0, .int .i64 0, .int .i64 0] 25)
  obtain ⟨W, hW⟩ : ∃ W, W = w.alloc (.cells #[.int .i64 0, .int .u8 0, .int .i64 0, .int .u8 0, .int .i64 0, .int .i64 0] 25) := ⟨_, rfl⟩
  rw [← hW] at kz hb ⊢
  clear hW
  refine (h8 _).mono ?_
  clear h8
  rintro e w1 ⟨rfl, hq⟩
  have kz := (kz.later hq).alloc (.cells #[.int .i64 0, .int .u8 0, .int .i64 0, .int .u8 0, .int .i64 0, .int .i64 0] 25)
  have hb := bl_trans hb hq hb.size
  have hb := hb.alloc hb.size (.cells #[.int .i64 0, .int .u8 0, .int .i64 0, .int .u8 0, .int .i64 0, .int .i64 0] 25)
  clear hq
  obtain ⟨⟨zc0, zc1, zc2, zc3, zc4, zc5⟩, zf0, zf1, zf2, zf3, zf4, zf5⟩ := page_cells kz
  go_wp2_with fail
  refine bodyPost_ret (by simp [results, Try.results11, go_sem, zc0, zc1, zc2, zc3, zc4, zc5]; try rfl) rfl ?_
  exact ⟨rfl, below_page hb (Nat.le_refl _) _ _ _ _ _ _⟩
theorem last11_all (A : Option Addr) (n c : Nat) (nd : Int) (l : List UInt8) (w : World) (h : Rd w w.heap.size 1 A n (bts l)) (hn : n ≤ 140737488355000) (hc : n ≤ c) (hcm : c ≤ maxLen) :
    Calls Try.prog 11 #[.slice A n c, .int .i64 nd] w (Last3 (lp nd l) w) := by
  obtain ⟨⟨⟨p1, p2, p3, p4, p5, p6⟩, k⟩, hg⟩ : ∃ g, firstP nd = g := ⟨_, rfl⟩
  by_cases hk : k = 0
  · subst hk
    have e1 : lp nd l = ((lastP ⟨p1, p2, p3, p4, p5, p6⟩ l).1, (lastP ⟨p1, p2, p3, p4, p5, p6⟩ l).2, 0) := by simp [lp, hg]
    rw [e1]
    exact last11 A n c nd p1 p2 p3 p4 p5 p6 l w h (by omega) hc hcm hg
  · have e1 : lp nd l = (z, 0, 2) := by simp [lp, hg, hk]
    have e2 : firstP nd = (z, 2) := by
      rw [hg]
      unfold firstP at hg
      split at hg
      · exact absurd (Prod.mk.inj hg).2.symm hk
      · split at hg
        · exact absurd (Prod.mk.inj hg).2.symm hk
        · exact hg.symm
    rw [e1]
    exact last11_no A n c nd w e2

set_option maxHeartbeats 8000000 in
set_option maxRecDepth 100000 in
theorem last22_no (A : Option Addr) (n c : Nat) (nd : Int) (w : World) (hf : firstP nd = (z, 2)) :
    Calls Try.prog 22 #[.slice A n c, .int .i64 nd] w (Last3 (z, 0, 2) w) := by
  have h8 := first13 nd
  rw [hf] at h8
  clear hf
  have h8 : ∀ w, Calls Try.prog 13 #[.int .i64 nd] w (Gives (⟨0, 0, 0, 0, 0, 0⟩, 2) w) := h8
  go_enter Try.func22, Try.ntmps22
  go_wp2_with (go_at_call 13; refine stop_ (fun Ps hPs => ?_))
  refine hPs ?_
  clear hPs Ps
  have kz := Blk.new w 25 #[.int .i64 0, .int .u8 0, .int .i64 0, .int .u8 0, .int .i64 0, .int .i64 0]
  have hb := (Below.refl w.heap.size w).alloc (Nat.le_refl _) (.cells #[.int .i64 0, .int .u8 0, .int .i64 0, .int .u8 0, .int .i64 0, .int .i64 0] 25)
  obtain ⟨W, hW⟩ : ∃ W, W = w.alloc (.cells #[.int .i64 0, .int .u8 0, .int .i64 0, .int .u8 0, .int .i64 0, .int .i64 0] 25) := ⟨_, rfl⟩
  rw [← hW] at kz hb ⊢
  clear hW
  refine (h8 _).mono ?_
  clear h8
  rintro e w1 ⟨rfl, hq⟩
  have kz := (kz.later hq).alloc (.cells #[.int .i64 0, .int .u8 0, .int .i64 0, .int .u8 0, .int .i64 0, .int .i64 0] 25)
  have hb := bl_trans hb hq hb.size
  have hb := hb.alloc hb.size (.cells #[.int .i64 0, .int .u8 0, .int .i64 0, .int .u8 0, .int .i64 0, .int .i64 0] 25)
  clear hq
  obtain ⟨⟨zc0, zc1, zc2, zc3, zc4, zc5⟩, zf0, zf1, zf2, zf3, zf4, zf5⟩ := page_cells kz
  go_wp2_with fail
  refine bodyPost_ret (by simp [results, Try.results22, go_sem, zc0, zc1, zc2, zc3, zc4, zc5]; try rfl) rfl ?_
  exact ⟨rfl, below_page hb (Nat.le_refl _) _ _ _ _ _ _⟩
theorem last22_all (A : Option Addr) (n c : Nat) (nd : Int) (l : List UInt8) (w : World) (h : Rd w w.heap.size 1 A n (bts l)) (hn : n ≤ 140737488354000) (hc : n ≤ c) (hcm : c ≤ maxLen) :
    Calls Try.prog 22 #[.slice A n c, .int .i64 nd] w (Last3 (lp nd l) w) := by
  obtain ⟨⟨⟨p1, p2, p3, p4, p5, p6⟩, k⟩, hg⟩ : ∃ g, firstP nd = g := ⟨_, rfl⟩
  by_cases hk : k = 0
  · subst hk
    have e1 : lp nd l = ((lastP ⟨p1, p2, p3, p4, p5, p6⟩ l).1, (lastP ⟨p1, p2, p3, p4, p5, p6⟩ l).2, 0) := by simp [lp, hg]
    rw [e1]
    exact last22 A n c nd p1 p2 p3 p4 p5 p6 l w h (by omega) hc hcm hg
  · have e1 : lp nd l = (z, 0, 2) := by simp [lp, hg, hk]
    have e2 : firstP nd = (z, 2) := by
      rw [hg]
      unfold firstP at hg
      split at hg
      · exact absurd (Prod.mk.inj hg).2.symm hk
      · split at hg
        · exact absurd (Prod.mk.inj hg).2.symm hk
        · exact hg.symm
    rw [e1]
    exact last22_no A n c nd w e2

set_option maxHeartbeats 16000000 in
set_option maxRecDepth 100000 in
theorem reads5 (A A' : Option Addr) (n c n' c' : Nat) (l l' : List UInt8) (nd : Int) (w : World) (h : Rd w w.heap.size 1 A n (bts l)) (h' : Rd w w.heap.size 1 A' n' (bts l')) (hn : n ≤ 140737488353000) (hn' : n' ≤ 140737488353000) (hc : n ≤ c) (hcm : c ≤ maxLen) (hc' : n' ≤ c') (hcm' : c' ≤ maxLen) :
    Calls Try.prog 5 #[.slice A n c, .slice A' n' c', .int .i64 nd] w (Yes w) := by
  have hl := h.1
  rw [bts_length, Nat.mul_one] at hl
  have hl' := h'.1
  rw [bts_length, Nat.mul_one] at hl'
  have hll := lent_length l
  have hll' := lent_length l'
  have HL := hid hl
  have HL' := hid hl'
  have hge : n ≤ (lent l).length := by omega
  have hle : (lent l).length ≤ 140737488354000 := by omega
  have hge' : n' ≤ (lent l').length := by omega
  have hle' : (lent l').length ≤ 140737488354000 := by omega
  clear hl hl' hll hll'
  obtain ⟨⟨⟨p1, p2, p3, p4, p5, p6⟩, k1⟩, hdp⟩ : ∃ g, dp (decP l) = g := ⟨_, rfl⟩
  obtain ⟨⟨⟨q1, q2, q3, q4, q5, q6⟩, at1, k2⟩, hlp⟩ : ∃ g, lp nd l' = g := ⟨_, rfl⟩
  have HD10 : ∀ (A : Option Addr) (n c : Nat) W, Rd W W.heap.size 1 A n (bts l) → n ≤ 140737488355000 → n ≤ c → c ≤ maxLen → Calls Try.prog 10 #[.slice A n c] W (Gives (⟨p1, p2, p3, p4, p5, p6⟩, k1) W) := fun A n c W h1 h2 h3 h4 => by
    have := decoded_gives (decode10 A n c l W h1 h2 h3 h4)
    rwa [hdp] at this
  have HD21 : ∀ (A : Option Addr) (n c : Nat) W, Rd W W.heap.size 1 A n (bts l) → n ≤ 140737488355000 → n ≤ c → c ≤ maxLen → Calls Try.prog 21 #[.slice A n c] W (Gives (⟨p1, p2, p3, p4, p5, p6⟩, k1) W) := fun A n c W h1 h2 h3 h4 => by
    have := decoded_gives (decode21 A n c l W h1 h2 h3 h4)
    rwa [hdp] at this
  have HL11 : ∀ (A : Option Addr) (n c : Nat) W, Rd W W.heap.size 1 A n (bts l') → n ≤ 140737488354000 → n ≤ c → c ≤ maxLen → Calls Try.prog 11 #[.slice A n c, .int .i64 nd] W (Last3 (⟨q1, q2, q3, q4, q5, q6⟩, at1, k2) W) := fun A n c W h1 h2 h3 h4 => by
    have := last11_all A n c nd l' W h1 (by omega) h3 h4
    rwa [hlp] at this
  have HL22 : ∀ (A : Option Addr) (n c : Nat) W, Rd W W.heap.size 1 A n (bts l') → n ≤ 140737488354000 → n ≤ c → c ≤ maxLen → Calls Try.prog 22 #[.slice A n c, .int .i64 nd] W (Last3 (⟨q1, q2, q3, q4, q5, q6⟩, at1, k2) W) := fun A n c W h1 h2 h3 h4 => by
    have := last22_all A n c nd l' W h1 (by omega) h3 h4
    rwa [hlp] at this
  clear hdp hlp
  have hlv := lives12
  have hs1 := same12_yes ⟨p1, p2, p3, p4, p5, p6⟩
  have hs2 := same12_yes ⟨q1, q2, q3, q4, q5, q6⟩
  have HCM := hid hcm
  have HCM' := hid hcm'
  unfold maxLen at hcm hcm'
  go_enter Try.func5, Try.ntmps5
  go_wp2_with fail
  refine (lent_any A n c l w h (by omega)).mono ?_
  rintro e u1 ⟨f, rfl, hf, hb1⟩
  obtain ⟨A1, c1, rfl, h3, h4⟩ := owned_slice hf
  have h1' := (h'.below hb1).more hb1.size
  go_wp2_with fail
  refine (lent_any A' n' c' l' u1 h1' (by omega)).mono ?_
  rintro e wb ⟨o, rfl, ho, hb2⟩
  obtain ⟨A2, c2, rfl, h5, h6⟩ := owned_slice ho
  have hrf := Rd.of_own (owned_later hf hb2)
  have hro := Rd.of_own ho
  have hrt := hrf.take hge
  rw [lent_take l n HL.out] at hrt
  have hrt' := hro.take hge'
  rw [lent_take l' n' HL'.out] at hrt'
  have b02 := bl_trans hb1 hb2 hb1.size
  have h0 := (h.below b02).more b02.size
  have h0' := (h'.below b02).more b02.size
  clear hf ho h1' hb1 hb2 h h'
  have HC1 := hid h4
  have HC2 := hid h6
  unfold maxLen at h4 h6
  have i1 : (n : Int) ≤ (c1 : Int) := by omega
  have i2 : (n' : Int) ≤ (c2 : Int) := by omega
  go_wp2_with (go_at_call 10; refine stop_ (fun Ps hPs => ?_))
  refine hPs ?_
  clear hPs Ps
  refine (HD10 A1 n c1 wb hrt (by omega) (by omega) HC1.out).mono ?_
  rintro e w1 ⟨rfl, hbn⟩
  have hb := hbn
  clear hbn
  clear HD10
  go_wp2_with (go_at_call 21; refine stop_ (fun Ps hPs => ?_))
  refine hPs ?_
  clear hPs Ps
  have kp := Blk.new w1 25 #[.int .i64 p1, .int .u8 p2, .int .i64 p3, .int .u8 p4, .int .i64 p5, .int .i64 p6]
  have hb := hb.alloc hb.size (.cells #[.int .i64 p1, .int .u8 p2, .int .i64 p3, .int .u8 p4, .int .i64 p5, .int .i64 p6] 25)
  obtain ⟨bp, hBp⟩ : ∃ b, w1.heap.size = b := ⟨_, rfl⟩
  obtain ⟨w2, hW⟩ : ∃ W, W = World.alloc w1 (.cells #[.int .i64 p1, .int .u8 p2, .int .i64 p3, .int .u8 p4, .int .i64 p5, .int .i64 p6] 25) := ⟨_, rfl⟩
  rw [← hW] at  kp hb ⊢
  rw [hBp] at kp ⊢
  clear hW hBp
  refine (HD21 A n c _ ((h0.below hb).more hb.size) (by omega) hc HCM.out).mono ?_
  rintro e w3 ⟨rfl, hbn⟩
  have kp := kp.later hbn
  have hb := bl_trans hb hbn hb.size
  clear hbn
  clear HD21
  go_wp2_with (go_at_call 11; refine stop_ (fun Ps hPs => ?_))
  refine hPs ?_
  clear hPs Ps
  have kq := Blk.new w3 25 #[.int .i64 p1, .int .u8 p2, .int .i64 p3, .int .u8 p4, .int .i64 p5, .int .i64 p6]
  have kp := kp.alloc (.cells #[.int .i64 p1, .int .u8 p2, .int .i64 p3, .int .u8 p4, .int .i64 p5, .int .i64 p6] 25)
  have hb := hb.alloc hb.size (.cells #[.int .i64 p1, .int .u8 p2, .int .i64 p3, .int .u8 p4, .int .i64 p5, .int .i64 p6] 25)
  obtain ⟨bq, hBq⟩ : ∃ b, w3.heap.size = b := ⟨_, rfl⟩
  obtain ⟨w4, hW⟩ : ∃ W, W = World.alloc w3 (.cells #[.int .i64 p1, .int .u8 p2, .int .i64 p3, .int .u8 p4, .int .i64 p5, .int .i64 p6] 25) := ⟨_, rfl⟩
  rw [← hW] at kp kq hb ⊢
  rw [hBq] at kq ⊢
  clear hW hBq
  refine (HL11 A2 n' c2 _ ((hrt'.below hb).more hb.size) (by omega) (by omega) HC2.out).mono ?_
  rintro e w5 ⟨rfl, hbn⟩
  have kp := kp.later hbn
  have kq := kq.later hbn
  have hb := bl_trans hb hbn hb.size
  clear hbn
  clear HL11
  go_wp2_with (go_at_call 22; refine stop_ (fun Ps hPs => ?_))
  refine hPs ?_
  clear hPs Ps
  have kr := Blk.new w5 25 #[.int .i64 q1, .int .u8 q2, .int .i64 q3, .int .u8 q4, .int .i64 q5, .int .i64 q6]
  have kp := kp.alloc (.cells #[.int .i64 q1, .int .u8 q2, .int .i64 q3, .int .u8 q4, .int .i64 q5, .int .i64 q6] 25)
  have kq := kq.alloc (.cells #[.int .i64 q1, .int .u8 q2, .int .i64 q3, .int .u8 q4, .int .i64 q5, .int .i64 q6] 25)
  have hb := hb.alloc hb.size (.cells #[.int .i64 q1, .int .u8 q2, .int .i64 q3, .int .u8 q4, .int .i64 q5, .int .i64 q6] 25)
  obtain ⟨br, hBr⟩ : ∃ b, w5.heap.size = b := ⟨_, rfl⟩
  obtain ⟨w6, hW⟩ : ∃ W, W = World.alloc w5 (.cells #[.int .i64 q1, .int .u8 q2, .int .i64 q3, .int .u8 q4, .int .i64 q5, .int .i64 q6] 25) := ⟨_, rfl⟩
  rw [← hW] at kp kq kr hb ⊢
  rw [hBr] at kr ⊢
  clear hW hBr
  refine (HL22 A' n' c' _ ((h0'.below hb).more hb.size) (by omega) hc' HCM'.out).mono ?_
  rintro e w7 ⟨rfl, hbn⟩
  have kp := kp.later hbn
  have kq := kq.later hbn
  have kr := kr.later hbn
  have hb := bl_trans hb hbn hb.size
  clear hbn
  clear HL22
  go_wp2_with (go_at_call 12; refine stop_ (fun Ps hPs => ?_))
  refine hPs ?_
  clear hPs Ps
  have ks := Blk.new w7 25 #[.int .i64 q1, .int .u8 q2, .int .i64 q3, .int .u8 q4, .int .i64 q5, .int .i64 q6]
  have kp := kp.alloc (.cells #[.int .i64 q1, .int .u8 q2, .int .i64 q3, .int .u8 q4, .int .i64 q5, .int .i64 q6] 25)
  have kq := kq.alloc (.cells #[.int .i64 q1, .int .u8 q2, .int .i64 q3, .int .u8 q4, .int .i64 q5, .int .i64 q6] 25)
  have kr := kr.alloc (.cells #[.int .i64 q1, .int .u8 q2, .int .i64 q3, .int .u8 q4, .int .i64 q5, .int .i64 q6] 25)
  have hb := hb.alloc hb.size (.cells #[.int .i64 q1, .int .u8 q2, .int .i64 q3, .int .u8 q4, .int .i64 q5, .int .i64 q6] 25)
  obtain ⟨bs, hBs⟩ : ∃ b, w7.heap.size = b := ⟨_, rfl⟩
  obtain ⟨w8, hW⟩ : ∃ W, W = World.alloc w7 (.cells #[.int .i64 q1, .int .u8 q2, .int .i64 q3, .int .u8 q4, .int .i64 q5, .int .i64 q6] 25) := ⟨_, rfl⟩
  rw [← hW] at kp kq kr ks hb ⊢
  rw [hBs] at ks ⊢
  clear hW hBs
  refine (hlv _).mono ?_
  rintro e w9 ⟨rfl, hbn⟩
  have kp := kp.later hbn
  have kq := kq.later hbn
  have kr := kr.later hbn
  have ks := ks.later hbn
  have hb := bl_trans hb hbn hb.size
  clear hbn
  obtain ⟨⟨pc0, pc1, pc2, pc3, pc4, pc5⟩, pf0, pf1, pf2, pf3, pf4, pf5⟩ := page_cells kp
  obtain ⟨⟨qc0, qc1, qc2, qc3, qc4, qc5⟩, qf0, qf1, qf2, qf3, qf4, qf5⟩ := page_cells kq
  clear hlv
  go_wp2_with (go_at_call 9; refine stop_ (fun Ps hPs => ?_))
  refine hPs ?_
  clear hPs Ps
  clear pc0 pf0 pc1 pf1 pc2 pf2 pc3 pf3 pc4 pf4 pc5 pf5
  clear qc0 qf0 qc1 qf1 qc2 qf2 qc3 qf3 qc4 qf4 qc5 qf5
  refine (hs1 _).mono ?_
  rintro e w10 ⟨rfl, hbn⟩
  have kp := kp.later hbn
  have kq := kq.later hbn
  have kr := kr.later hbn
  have ks := ks.later hbn
  have hb := bl_trans hb hbn hb.size
  clear hbn
  obtain ⟨⟨rc0, rc1, rc2, rc3, rc4, rc5⟩, rf0, rf1, rf2, rf3, rf4, rf5⟩ := page_cells kr
  obtain ⟨⟨sc0, sc1, sc2, sc3, sc4, sc5⟩, sf0, sf1, sf2, sf3, sf4, sf5⟩ := page_cells ks
  clear hs1
  go_wp2_with (go_at_call 9; refine stop_ (fun Ps hPs => ?_))
  refine hPs ?_
  clear hPs Ps
  clear rc0 rf0 rc1 rf1 rc2 rf2 rc3 rf3 rc4 rf4 rc5 rf5
  clear sc0 sf0 sc1 sf1 sc2 sf2 sc3 sf3 sc4 sf4 sc5 sf5
  refine (hs2 _).mono ?_
  rintro e w11 ⟨rfl, hbn⟩
  have kp := kp.later hbn
  have kq := kq.later hbn
  have kr := kr.later hbn
  have ks := ks.later hbn
  have hb := bl_trans hb hbn hb.size
  clear hbn
  clear hs2
  go_wp2_with (go_at_call 23; refine stop_ (fun Ps hPs => ?_))
  refine hPs ?_
  clear hPs Ps
  refine (kept_self A1 A _ c1 n c l _ ((hrf.below hb).more hb.size) ((h0.below hb).more hb.size) (by omega) (by omega)).mono ?_
  rintro e w12 ⟨rfl, hbn⟩
  have kp := kp.later hbn
  have kq := kq.later hbn
  have kr := kr.later hbn
  have ks := ks.later hbn
  have hb := bl_trans hb hbn hb.size
  clear hbn
  go_wp2_with (go_at_call 23; refine stop_ (fun Ps hPs => ?_))
  refine hPs ?_
  clear hPs Ps
  refine (kept_self A2 A' _ c2 n' c' l' _ ((hro.below hb).more hb.size) ((h0'.below hb).more hb.size) (by omega) (by omega)).mono ?_
  rintro e w13 ⟨rfl, hbn⟩
  have kp := kp.later hbn
  have kq := kq.later hbn
  have kr := kr.later hbn
  have ks := ks.later hbn
  have hb := bl_trans hb hbn hb.size
  clear hbn
  go_wp2_with fail
  go_ret
  exact ⟨rfl, bl_trans b02 hb b02.size⟩
end Go.Proofs.Ytcfopaphpjmopaa
