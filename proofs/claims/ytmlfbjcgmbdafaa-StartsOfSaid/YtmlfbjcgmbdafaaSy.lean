/- Starts that grow commit by commit are those of the whole log: the walk. -/
import Derived.Test.YtmlfbjcgmbdafaaSx
import Derived.Test.YtmlfbjcgmbdafaaSm
namespace Go.Proofs.Ytmlfbjcgmbdafaa
open Go.RowKit Go.Lg
set_option linter.unusedVariables false
set_option linter.unusedSimpArgs false

set_option maxHeartbeats 800000 in
set_option maxRecDepth 100000 in
theorem pick31 (x : Int) (n : Nat) (h1 : 0 < n) (h2 : n ≤ 100000) (hx : -9223372036854775808 ≤ x ∧ x ≤ 9223372036854775807) (w : World) : Calls Try.prog 31 #[.int .i64 x, .int .i64 n] w fun e w' => ∃ r : Nat, e = .returned (.int .i64 r) ∧ r < n ∧ w' = w := by
  have hlt : x.tmod n < n := Int.tmod_lt_of_pos x (by omega)
  have hgt : -(n : Int) < x.tmod n := by
    have h := Int.tmod_lt_of_pos (-x) (show (0 : Int) < n by omega)
    rw [Int.neg_tmod] at h
    omega
  obtain ⟨m, hm⟩ : ∃ m, x.tmod n = m := ⟨_, rfl⟩
  rw [hm] at hlt hgt
  have hn : ¬(n : Int) = 0 := by omega
  have hw : wrap64 (m + n) = m + n := by simp only [wrap64]; omega
  have hw2 : wrap64 m = m := by simp only [wrap64]; omega
  go_enter Try.func31, Try.ntmps31
  go_wp2_with fail
  all_goals
    go_ret
    first
    | exact ⟨m.toNat, rd_int (by omega), by omega, rfl⟩
    | exact ⟨(m + n).toNat, rd_int (by omega), by omega, rfl⟩
theorem CS.later {w w' : World} {n : Nat} {A : Option Addr} {cs : List Cm} (h : CS w w.heap.size A n cs) (hb : Below w.heap.size w w') : CS w' w'.heap.size A n cs := (h.keep hb).more hb.size
theorem cmc_append (a b : List Cm) : cmc (a ++ b) = cmc a ++ cmc b := by simp [cmc]
theorem cmc_length (cs : List Cm) : (cmc cs).length = cs.length * 3 := by
  induction cs with
  | nil => rfl
  | cons a l ih =>
    have e1 : cmc (a :: l) = [.int .i64 a.ep, .int .i64 a.num, .slice a.A a.n a.c] ++ cmc l := rfl
    rw [e1, List.length_append, ih]
    simp
    omega
theorem CS.front {w : World} {B n r : Nat} {A : Option Addr} {cs : List Cm} (h : CS w B A n cs) (hr : r ≤ n) : CS w B A r (cs.take r) := by
  have h1 := h.1.take (k := r) hr
  have hl : (cs.take r).length = r := by rw [List.length_take, h.2.1]; omega
  have e1 : (cmc cs).take (r * 3) = cmc (cs.take r) := by
    conv => lhs; rw [← List.take_append_drop r cs, cmc_append]
    rw [List.take_left' (by rw [cmc_length, hl])]
  rw [e1] at h1
  exact ⟨h1, hl, fun m hm => h.2.2 m (List.mem_of_mem_take hm)⟩
def pe (bs : List Bool) (i : Nat) : Int := 1 + 2 * ((bs.take (i + 1)).count true : Nat)
theorem lg_of {bs : List Bool} {n B : Nat} {cs : List Cm} {w : World} (h : cs.map pairOf = [] ++ pr 1 (((0 : Nat) : Int) + 1) bs n) (hk : ∀ m ∈ cs, KC B w m) : Lg (pe bs) n cs := by
  rw [List.nil_append] at h
  refine ⟨by have := congrArg List.length h; simpa [pr] using this, fun i m hm => ?_⟩
  have h1 : (cs.map pairOf)[i]? = some (pairOf m) := by rw [List.getElem?_map, hm]; rfl
  rw [h] at h1
  simp only [pr, List.getElem?_map, Option.map_eq_some_iff] at h1
  obtain ⟨i', hi, he⟩ := h1
  obtain ⟨hi1, hi2⟩ := List.getElem?_eq_some_iff.1 hi
  simp at hi2
  subst hi2
  simp only [pairOf, Prod.mk.injEq] at he
  exact ⟨he.1.symm, by rw [← he.2]; omega, (hk m (List.mem_of_getElem? hm)).1⟩
theorem rise_pe (bs : List Bool) (n : Nat) (hn : n ≤ 1000) : Rise (pe bs) n := by
  refine ⟨fun i hi => ?_, fun i hi => ?_⟩
  · have h1 := List.count_le_length (a := true) (l := bs.take (i + 1))
    rw [List.length_take] at h1
    unfold pe
    omega
  · have h1 : (bs.take (i + 1)).count true ≤ (bs.take (i + 1 + 1)).count true := by
      refine List.Sublist.count_le true (List.Sublist.trans ?_ (List.Sublist.refl _))
      rw [show bs.take (i + 1) = (bs.take (i + 1 + 1)).take (i + 1) by rw [List.take_take]; congr 1; omega]
      exact List.take_sublist _ _
    unfold pe
    omega
theorem grown_lg {p : Nat → Int} {n j : Nat} {cs : List Cm} {m : Cm} (hr : Rise p n) (hn : n ≤ 1000) (h : Lg p n cs) (hm : cs[j]? = some m) : grown (tl (cs.take j)) j m = (tl (cs.take (j + 1)), 0) := by
  have hj : j < n := by rw [← h.1]; exact (List.getElem?_eq_some_iff.1 hm).1
  have hg := gs_tl hr hn j (cs.take j) (by omega) (h.take (by omega))
  obtain ⟨e1, e2, e3⟩ := h.2 j m hm
  have hk := k_zero hr hn h hm
  unfold grown
  rw [if_neg (by simpa using hg.ok), if_neg (by simpa using hk), if_neg, take_succ_get? hm, tl_snoc]
  unfold top
  rw [e1, e2]
  split
  · rw [hg.last (by omega)]
    have := hr.2 (j - 1) (by omega)
    rw [show j - 1 + 1 = j by omega] at this
    omega
  · have := hr.1 j hj
    omega

set_option maxHeartbeats 16000000 in
set_option maxRecDepth 100000 in
theorem grow7 (A : Option Addr) (n c : Nat) (bs : List Bool) (to : Int) (w : World) (h : Rd w w.heap.size 1 A n (bls bs)) (hn9 : n ≤ 9223372036854775807) (hto : -9223372036854775808 ≤ to ∧ to ≤ 9223372036854775807) :
    Calls Try.prog 7 #[.slice A n c, .int .i64 to] w (Yes w) := by
  have hlv := lives13 w
  go_enter Try.func7, Try.ntmps7
  go_wp2_with (go_at_call 13; refine stop_ (fun Ps hPs => ?_))
  refine hPs ?_
  clear hPs Ps
  refine hlv.mono ?_
  clear hlv
  rintro e w1 ⟨rfl, hb⟩
  by_cases h40 : 40 < n
  · have q1 : (40 : Int) < (n : Int) := by omega
    go_wp2_with fail
    go_ret
    exact ⟨rfl, hb⟩
  have q1 : ¬(40 : Int) < (n : Int) := by omega
  have hn : n ≤ 40 := by omega
  clear h40 hn9
  have hlog := log30 (.slice none 0 0) [] 1 A n c bs w1 (copy46_nil w1) ((h.below hb).more hb.size) (by omega) (by decide) (by omega)
  go_wp2_with (go_at_call 30; refine stop_ (fun Ps hPs => ?_))
  refine hPs ?_
  clear hPs Ps
  refine hlog.mono ?_
  clear hlog
  rintro e w2 ⟨v, cs, rfl, hcs, ho, hk, hbn⟩
  have hb := bl_trans hb hbn hb.size
  have HLG := hid (lg_of hcs hk)
  have HRI := hid (rise_pe bs n (by omega))
  have hcl : cs.length = n := HLG.out.1
  rw [hcl] at ho
  obtain ⟨Av, cv, rfl, gv1, gv2⟩ := owned_slice ho
  have hC : CS w2 w2.heap.size Av n cs := ⟨Rd.of_own ho, hcl, fun m hm => (hk m hm).os⟩
  have hrc : (n : Int) ≤ (cv : Int) := by omega
  have HBW := hid hb
  have HC := hid hC
  clear hcs ho hk hbn hcl hC hb
  go_wp2_with fail
  go_loopg [6, 7] n (fun k v i wr => ∃ (j : Nat) (vv : Value), v = vv ∧ j ≤ n ∧ k = n - j ∧ i = .int .i64 j ∧ wr.ownsRow w2.heap.size 58 2 vv (tl (cs.take j)).length (sts (tl (cs.take j))) ∧ Below w2.heap.size w2 wr)
  case atStart => exact ⟨0, _, rfl, by omega, rfl, rfl, World.ownsRow_nil _ _ _ _, Below.refl _ _⟩
  case round =>
    obtain ⟨j, vv, rfl, hj, rfl, rfl, ho, hbr⟩ := hrel
    obtain ⟨As, cS, rfl, gs1, gs2⟩ := owned_slice ho
    have hsz := hbr.size
    have hCr := (HC.out.later hbr)
    have hln : (tl (cs.take j)).length ≤ 1000 := by
      have := tl_le (cs.take j)
      rw [List.length_take] at this
      omega
    have hS : SS wr wr.heap.size As (tl (cs.take j)).length (tl (cs.take j)) := ⟨Rd.of_own ho, rfl⟩
    by_cases hlt : j < n
    · obtain ⟨b, off, me, mn, Ao, no, co, os, rfl, hbB, hcj, hos, hno, c0, c1, c2⟩ := hCr.at_ hlt
      have hji : (j : Int) < (n : Int) := by omega
      have hgr := grown26 As (tl (cs.take j)).length cS (tl (cs.take j)) j ⟨me, mn, Ao, no, co, os⟩ wr hS hos hno hln
      rw [grown_lg HRI.out (by omega) HLG.out hcj] at hgr
      obtain ⟨nl, hnl⟩ : ∃ k, k = (tl (cs.take j)).length := ⟨_, rfl⟩
      rw [← hnl] at hgr ⊢
      have HBR := hid hbr
      clear hcj hos ho hS hCr hln hnl hbr gs1
      go_wp2_with (go_at_call 26; refine stop_ (fun Ps hPs => ?_))
      refine hPs ?_
      clear hPs Ps
      refine hgr.mono ?_
      clear hgr
      rintro e w5 ⟨v5, rfl, ho5, hb5⟩
      have ho6 := owned_less ho5 hsz
      have hb6 := bl_trans HBR.out hb5 hsz
      have HO6 := hid ho6
      have HB6 := hid hb6
      clear ho5 hb5 ho6 hb6 c0 c1 c2
      go_wp2_with fail
      go_roundg (n - (j + 1))
      case measure => omega
      case rel => exact ⟨j + 1, v5, rfl, by omega, rfl, by go_num, HO6.out, HB6.out⟩
    · obtain rfl : j = n := by omega
      have htk : cs.take j = cs := List.take_of_length_le (by rw [HLG.out.1]; omega)
      rw [htk] at ho hS hln
      have hgs := gs_tl HRI.out (by omega) j cs (Nat.le_refl _) HLG.out
      have hf := fol_lg HRI.out (by omega) HLG.out
      obtain ⟨L, hL⟩ : ∃ L, L = tl cs := ⟨_, rfl⟩
      obtain ⟨nl, hnl⟩ : ∃ k, k = L.length := ⟨_, rfl⟩
      rw [htk, ← hL, ← hnl]
      rw [← hL, ← hnl] at ho hS
      rw [← hL] at hgs hln
      rw [← hnl] at hln
      have HNL := hid hnl
      have HL := hid hL
      have HGS := hid hgs
      have hb := bl_trans HBW.out hbr HBW.out.size
      clear htk hlt hL hgs hbr hnl gs1 ho HC
      have hof := of24_ok Av j cv cs wr hCr (by omega) hf
      rw [← HL.out] at hof
      go_wp2_with (go_at_call 24; refine stop_ (fun Ps hPs => ?_))
      refine hPs ?_
      clear hPs Ps
      refine (hof).mono ?_
      rintro e w21 ⟨v10, rfl, ho10, hbn⟩
      have hS := hS.later hbn
      have hCr := hCr.later hbn
      have hsp := hb.size
      have hb := bl_trans hb hbn hb.size
      clear hbn
      clear hof
      rw [← HNL.out] at ho10
      obtain ⟨A10, c10, rfl, g10, k10⟩ := owned_slice ho10
      have s10 : SS w21 w21.heap.size A10 nl L := ⟨Rd.of_own ho10, HNL.out.symm⟩
      clear g10 k10 ho10
      go_wp2_with (go_at_call 31; refine stop_ (fun Ps hPs => ?_))
      refine hPs ?_
      clear hPs Ps
      have kf1 := Blk.new w21 44 #[.int .i64 0, .int .i64 0]
      obtain ⟨w22, hnw⟩ : ∃ x, x = w21.alloc (.cells #[.int .i64 0, .int .i64 0] 44) := ⟨_, rfl⟩
      have hbn : Below w21.heap.size w21 w22 := by rw [hnw]; exact (Below.refl _ _).alloc (Nat.le_refl _) _
      obtain ⟨bf1, hbf1⟩ : ∃ x, x = w21.heap.size := ⟨_, rfl⟩
      rw [← hnw, ← hbf1] at kf1
      rw [← hnw, ← hbf1]
      clear hnw hbf1
      have hS := hS.later hbn
      have hCr := hCr.later hbn
      have s10 := s10.later hbn
      have hsp := hb.size
      have hb := bl_trans hb hbn hb.size
      clear hbn
      have hpk := pick31 to (j + 1) (by omega) (by omega) hto w22
      rw [show ((j + 1 : Nat) : Int) = (j : Int) + 1 by omega] at hpk
      refine hpk.mono ?_
      clear hpk
      rintro e wz ⟨r, rfl, hr, rfl⟩
      have htr : trim L j r = (tl (cs.take r), 0) := by
        have h1 := tl_take HRI.out (by omega) HLG.out r (j - r) j (by omega) (Nat.le_refl _)
        rw [show cs.take j = cs from List.take_of_length_le (by rw [HLG.out.1]; omega), ← HL.out] at h1
        unfold trim
        rw [if_pos HGS.out.ok, if_pos ⟨by omega, by omega⟩, h1]
      have hf2 := fol_lg (p := pe bs) (n := r) ⟨fun i hi => HRI.out.1 i (by omega), fun i hi => HRI.out.2 i (by omega)⟩ (by omega) (HLG.out.take (show r ≤ j by omega))
      obtain ⟨M, hM⟩ : ∃ M, M = tl (cs.take r) := ⟨_, rfl⟩
      obtain ⟨nm, hnm⟩ : ∃ k, k = M.length := ⟨_, rfl⟩
      rw [← hM] at htr
      have HNM := hid hnm
      have HM := hid hM
      have HTR := hid htr
      have HF2 := hid hf2
      have hnm9 : nm ≤ 1000 := by
        have := tl_le (cs.take r)
        rw [List.length_take, ← hM, ← hnm] at this
        omega
      have hrj : r ≤ j := by omega
      have hrc2 : (r : Int) ≤ (cv : Int) := by omega
      clear hM hnm htr hf2
      go_wp2_with (go_at_call 12; refine stop_ (fun Ps hPs => ?_))
      refine hPs ?_
      clear hPs Ps
      have hc := trim12 As nl cS L j r wz hS (by omega)
      rw [HTR.out] at hc
      have hc : Calls Try.prog 12 #[.slice As nl cS, .int .i64 (j : Nat), .int .i64 (r : Nat)] wz (TrimAs M nm 0 wz) := hc.mono fun e w' h => trim_as rfl HNM.out h
      refine (hc).mono ?_
      rintro e w23 ⟨v13, rfl, ho13, hbn⟩
      have hS := hS.later hbn
      have hCr := hCr.later hbn
      have s10 := s10.later hbn
      have kf1 := kf1.later hbn
      have hsp := hb.size
      have hb := bl_trans hb hbn hb.size
      clear hbn
      clear hc
      obtain ⟨A13, c13, rfl, g13, k13⟩ := owned_slice ho13
      have s13 : SS w23 w23.heap.size A13 nm M := ⟨Rd.of_own ho13, HNM.out.symm⟩
      clear g13 k13 ho13
      go_wp2_with (go_at_call 24; refine stop_ (fun Ps hPs => ?_))
      refine hPs ?_
      clear hPs Ps
      have hc := of24_ok Av r cv (cs.take r) w23 (hCr.front hrj) (by omega) HF2.out
      rw [← HM.out] at hc
      refine (hc).mono ?_
      rintro e w24 ⟨v15, rfl, ho15, hbn⟩
      have hS := hS.later hbn
      have hCr := hCr.later hbn
      have s10 := s10.later hbn
      have s13 := s13.later hbn
      have kf1 := kf1.later hbn
      have hsp := hb.size
      have hb := bl_trans hb hbn hb.size
      clear hbn
      clear hc
      rw [← HNM.out] at ho15
      obtain ⟨A15, c15, rfl, g15, k15⟩ := owned_slice ho15
      have s15 : SS w24 w24.heap.size A15 nm M := ⟨Rd.of_own ho15, HNM.out.symm⟩
      clear g15 k15 ho15
      have ka := kf1.alloc (.cells #[.int .i64 0, .int .i64 0] 44)
      have kn := Blk.new w24 44 #[.int .i64 0, .int .i64 0]
      have a0 : (w24.alloc (.cells #[.int .i64 0, .int .i64 0] 44)).cell? ⟨bf1, 0, none⟩ = some (.int .i64 0) := ka.cell 0
      have a1 : (w24.alloc (.cells #[.int .i64 0, .int .i64 0] 44)).cell? ⟨bf1, 1, none⟩ = some (.int .i64 0) := ka.cell 1
      have a2 : w24.cell? ⟨bf1, 0, none⟩ = some (.int .i64 0) := kf1.cell 0
      have a3 : w24.cell? ⟨bf1, 1, none⟩ = some (.int .i64 0) := kf1.cell 1
      have n0 : (w24.alloc (.cells #[.int .i64 0, .int .i64 0] 44)).cell? ⟨w24.heap.size, 0, none⟩ = some (.int .i64 0) := kn.cell 0
      have n1 : (w24.alloc (.cells #[.int .i64 0, .int .i64 0] 44)).cell? ⟨w24.heap.size, 1, none⟩ = some (.int .i64 0) := kn.cell 1
      have hl1 : bf1 < w24.heap.size := kf1.lt
      clear ka kn
      go_wp2_with (go_at_call 14; refine stop_ (fun Ps hPs => ?_))
      refine hPs ?_
      clear hPs Ps
      clear a0 a1 a2 a3 n0 n1 hl1
      have kf2 := Blk.new w24 44 #[.int .i64 0, .int .i64 0]
      obtain ⟨w25, hnw⟩ : ∃ x, x = w24.alloc (.cells #[.int .i64 0, .int .i64 0] 44) := ⟨_, rfl⟩
      have hbn : Below w24.heap.size w24 w25 := by rw [hnw]; exact (Below.refl _ _).alloc (Nat.le_refl _) _
      obtain ⟨bf2, hbf2⟩ : ∃ x, x = w24.heap.size := ⟨_, rfl⟩
      rw [← hnw, ← hbf2] at kf2
      rw [← hnw, ← hbf2]
      clear hnw hbf2
      have hS := hS.later hbn
      have hCr := hCr.later hbn
      have s10 := s10.later hbn
      have s13 := s13.later hbn
      have s15 := s15.later hbn
      have kf1 := kf1.later hbn
      have hsp := hb.size
      have hb := bl_trans hb hbn hb.size
      clear hbn
      have hc := same14_self As A10 nl cS nl c10 _ _ L w25 hS s10 (by omega) (by omega)
      refine hc.mono ?_
      rintro e w26 ⟨rfl, d, hz⟩
      have hbn : Below w25.heap.size w25 w26 := by rw [hz]; exact below_drewN (Below.refl _ _) d
      clear hz hc
      have hS := hS.later hbn
      have hCr := hCr.later hbn
      have s10 := s10.later hbn
      have s13 := s13.later hbn
      have s15 := s15.later hbn
      have kf1 := kf1.later hbn
      have kf2 := kf2.later hbn
      have hsp := hb.size
      have hb := bl_trans hb hbn hb.size
      clear hbn
      go_wp2_with (go_at_call 14; refine stop_ (fun Ps hPs => ?_))
      refine hPs ?_
      clear hPs Ps
      have hc := same14_self A13 A15 nm c13 nm c15 _ _ M w26 s13 s15 (by omega) (by omega)
      refine hc.mono ?_
      rintro e w27 ⟨rfl, d, hz⟩
      have hbn : Below w26.heap.size w26 w27 := by rw [hz]; exact below_drewN (Below.refl _ _) d
      clear hz hc
      have hS := hS.later hbn
      have hCr := hCr.later hbn
      have s10 := s10.later hbn
      have s13 := s13.later hbn
      have s15 := s15.later hbn
      have kf1 := kf1.later hbn
      have kf2 := kf2.later hbn
      have hsp := hb.size
      have hb := bl_trans hb hbn hb.size
      clear hbn
      go_wp2_with (go_at_call 11; refine stop_ (fun Ps hPs => ?_))
      refine hPs ?_
      clear hPs Ps
      have hc := check11 As nl cS L j w27 hS (by omega)
      rw [chk_ok HGS.out.ok] at hc
      refine (hc).mono ?_
      rintro e w28 ⟨rfl, hbn⟩
      have hS := hS.later hbn
      have hCr := hCr.later hbn
      have s10 := s10.later hbn
      have s13 := s13.later hbn
      have s15 := s15.later hbn
      have kf1 := kf1.later hbn
      have kf2 := kf2.later hbn
      have hsp := hb.size
      have hb := bl_trans hb hbn hb.size
      clear hbn
      clear hc
      obtain ⟨x, hx⟩ : ∃ x, x = Sl.ep L r := ⟨_, rfl⟩
      have hat : at_ L j r = (x, 0) := by unfold at_; rw [if_pos HGS.out.ok, if_pos ⟨by omega, by omega⟩, hx]
      have hxe := HGS.out.ep r hrj
      rw [← hx] at hxe
      have HXE := hid hxe
      have HAT := hid hat
      clear hx hat hxe
      go_wp2_with (go_at_call 9; refine stop_ (fun Ps hPs => ?_))
      refine hPs ?_
      clear hPs Ps
      have hc := (at9 As nl cS L j r w28 hS (by omega)).mono fun e w' h => two_sides HAT.out h
      refine (hc).mono ?_
      rintro e w29 ⟨rfl, hbn⟩
      have hS := hS.later hbn
      have hCr := hCr.later hbn
      have s10 := s10.later hbn
      have s13 := s13.later hbn
      have s15 := s15.later hbn
      have kf1 := kf1.later hbn
      have kf2 := kf2.later hbn
      have hsp := hb.size
      have hb := bl_trans hb hbn hb.size
      clear hbn
      clear hc
      by_cases hr0 : r = 0
      · have d1 : ((r : Int) == 0) = true := by simp [hr0]
        have hx0 := HXE.out
        rw [if_pos hr0] at hx0
        have d2 : (x == 0) = true := by simp [hx0]
        clear hr0 hx0
        go_wp2_with fail
        go_ret
        exact ⟨rfl, hb⟩
      · have hx0 := HXE.out
        rw [if_neg hr0] at hx0
        obtain ⟨b, off, me, mn, Ao, no, co, os, rfl, hbB, hcj, hos, hno, c0, c1, c2⟩ := hCr.at_ (j := r - 1) (by omega)
        obtain ⟨e1, e2, e3⟩ := HLG.out.2 _ _ hcj
        simp only at e1
        rw [e1, ← hx0] at c0
        have d1 : ((r : Int) == 0) = false := by simp [hr0]
        have d2 : (0 : Int) < (r : Int) := by omega
        have d3 : wrap64 ((r : Int) - 1) = (r : Int) - 1 := by simp only [wrap64]; omega
        have d4 : (1 : Int) ≤ (r : Int) := by omega
        have d5 : (r : Int) - 1 < (j : Int) := by omega
        have d6 : 0 < r := by omega
        clear hx0 e1 e2 e3 hcj hos hno c1 c2 hr0
        go_wp2_with fail
        go_ret
        exact ⟨rfl, hb⟩
end Go.Proofs.Ytmlfbjcgmbdafaa
