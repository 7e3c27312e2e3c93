/- Two logs with a common front part fork just where that part ends: the walk. -/
import Derived.Test.YtmlfbjcgmbdafaaTb
namespace Go.Proofs.Ytmlfbjcgmbdafaa
open Go.RowKit Go.Lg
set_option linter.unusedVariables false
set_option linter.unusedSimpArgs false

theorem pair_take {c a : List Cm} {r : List (Int × Int)} {nc : Nat} (hl : c.length = nc) (h : a.map pairOf = c.map pairOf ++ r) : tl (a.take nc) = tl c := by
  refine tl_pairs ?_
  rw [List.map_take, h, List.take_left' (by rw [List.length_map, hl])]
theorem trim_eq {p : Nat → Int} {n r : Nat} {cs : List Cm} {L M : List (Int × Int)} (hr : Rise p n) (hn : n ≤ 1000) (h : Lg p n cs) (hL : L = tl cs) (hM : tl (cs.take r) = M) (hrn : r ≤ n) : trim L n r = (M, 0) := by
  have hg := gs_tl hr hn n cs (Nat.le_refl _) h
  have h1 := tl_take hr hn h r (n - r) n (by omega) (Nat.le_refl _)
  rw [show cs.take n = cs from List.take_of_length_le (by rw [h.1]; exact Nat.le_refl _), ← hL, hM] at h1
  rw [← hL] at hg
  unfold trim
  rw [if_pos hg.ok, if_pos ⟨by omega, by omega⟩, h1]
set_option maxHeartbeats 32000000 in
set_option maxRecDepth 100000 in
theorem fork6 (A0 A1 A2 : Option Addr) (n0 c0 n1 c1 n2 c2 : Nat) (b0 b1 b2 : List Bool) (w : World) (h0 : Rd w w.heap.size 1 A0 n0 (bls b0)) (h1 : Rd w w.heap.size 1 A1 n1 (bls b1)) (h2 : Rd w w.heap.size 1 A2 n2 (bls b2)) (m0 : n0 ≤ 9223372036854775807) (m1 : n1 ≤ 9223372036854775807) (m2 : n2 ≤ 9223372036854775807) :
    Calls Try.prog 6 #[.slice A0 n0 c0, .slice A1 n1 c1, .slice A2 n2 c2] w (Yes w) := by
  have hlv := lives13 w
  go_enter Try.func6, Try.ntmps6
  go_wp2_with (go_at_call 13; refine stop_ (fun Ps hPs => ?_))
  refine hPs ?_
  clear hPs Ps
  refine hlv.mono ?_
  clear hlv
  rintro e w1 ⟨rfl, hb⟩
  by_cases g0 : 40 < n0
  · have q0 : (40 : Int) < (n0 : Int) := by omega
    go_wp2_with fail
    go_ret
    exact ⟨rfl, hb⟩
  have q0 : ¬(40 : Int) < (n0 : Int) := by omega
  by_cases g1 : 40 < n1
  · have q1 : (40 : Int) < (n1 : Int) := by omega
    go_wp2_with fail
    go_ret
    exact ⟨rfl, hb⟩
  have q1 : ¬(40 : Int) < (n1 : Int) := by omega
  by_cases g2 : 40 < n2
  · have q2 : (40 : Int) < (n2 : Int) := by omega
    go_wp2_with fail
    go_ret
    exact ⟨rfl, hb⟩
  have q2 : ¬(40 : Int) < (n2 : Int) := by omega
  have m0 : n0 ≤ 40 := by omega
  have m1 : n1 ≤ 40 := by omega
  have m2 : n2 ≤ 40 := by omega
  clear g0 g1 g2
  have hlog := log30 (.slice none 0 0) [] 1 A0 n0 c0 b0 w1 (copy46_nil w1) ((h0.below hb).more hb.size) (by omega) (by decide) (by omega)
  go_wp2_with (go_at_call 30; refine stop_ (fun Ps hPs => ?_))
  refine hPs ?_
  clear hPs Ps
  refine hlog.mono ?_
  clear hlog
  rintro e w2 ⟨v, cs, rfl, hcs, ho, hk, hbn⟩
  have hb := bl_trans hb hbn hb.size
  have HLC := hid (lg_of hcs hk)
  have HRC := hid (rise_pe b0 n0 (by omega))
  have hcl : cs.length = n0 := HLC.out.1
  rw [hcl] at ho
  obtain ⟨Ac, cc, rfl, gv1, gv2⟩ := owned_slice ho
  have hCc : CS w2 w2.heap.size Ac n0 cs := ⟨Rd.of_own ho, hcl, fun m hm => (hk m hm).os⟩
  have HKO : Hid (∀ m ∈ cs, m.os = [kop] ∧ m.n = 1) := fun m hm => ⟨(hk m hm).1, (hk m hm).2.1⟩
  obtain ⟨ps, hps⟩ : ∃ ps, ps = cs.map pairOf := ⟨_, rfl⟩
  have hpl : ps.length = n0 := by rw [hps, List.length_map, hcl]
  have HPS := hid hps
  have HPL := hid hpl
  have HCL := hid hcl
  clear hcs ho hk hbn hcl hps hpl
  by_cases hz : n0 = 0
  · have d0 : ¬(0 : Int) < (n0 : Int) := by omega
    have HEL : Hid (∀ i, i + 1 = n0 → pe b0 i ≤ 1) := fun i hi => by omega
    clear hz
    go_wp2_with (go_at_call 30; refine stop_ (fun Ps hPs => ?_))
    refine hPs ?_
    clear hPs Ps
    have hlog := log30 (.slice Ac n0 cc) ps (1 + 100) A1 n1 c1 b1 w2 (by rw [HPS.out]; exact copy46 Ac n0 cc cs w2 hCc HKO.out (by omega)) ((h1.below hb).more hb.size) (by omega) (by rw [HPL.out]; omega) (by omega)
    refine (hlog).mono ?_
    rintro e w21 ⟨va, xa, rfl, has, hoa, hka, hbn⟩
    have hCc := hCc.later hbn
    have hsp := hb.size
    have hb := bl_trans hb hbn hb.size
    clear hbn
    clear hlog
    rw [HPS.out, List.length_map, HCL.out] at has
    have HLGa := hid (lg_behind HLC.out has hka)
    have HRa : Hid (Rise (pq (pe b0) n0 (1 + 100) b1) (n0 + n1)) := rise_behind HRC.out (by omega) (by omega) (by omega) (fun i hi => by have := HEL.out i hi; omega)
    have HPTa := hid (pair_take HCL.out has)
    obtain ⟨na, hna⟩ : ∃ k, k = n0 + n1 := ⟨_, rfl⟩
    have HNa := hid hna
    have ha9 : na ≤ 80 := by omega
    have ha8 : n0 ≤ na := by omega
    rw [← hna] at HLGa HRa
    have hl9 : xa.length = na := HLGa.out.1
    rw [hl9] at hoa
    obtain ⟨Aa, ca, rfl, gg1, gg2⟩ := owned_slice hoa
    have hCa : CS w21 w21.heap.size Aa na xa := ⟨Rd.of_own hoa, hl9, fun m hm => (hka m hm).os⟩
    clear has hoa hka hl9 gg1 gg2 hna
    go_wp2_with (go_at_call 30; refine stop_ (fun Ps hPs => ?_))
    refine hPs ?_
    clear hPs Ps
    have hlog := log30 (.slice Ac n0 cc) ps (1 + 101) A2 n2 c2 b2 w21 (by rw [HPS.out]; exact copy46 Ac n0 cc cs w21 hCc HKO.out (by omega)) ((h2.below hb).more hb.size) (by omega) (by rw [HPL.out]; omega) (by omega)
    refine (hlog).mono ?_
    rintro e w22 ⟨vb, xb, rfl, hbs, hob, hkb, hbn⟩
    have hCc := hCc.later hbn
    have hCa := hCa.later hbn
    have hsp := hb.size
    have hb := bl_trans hb hbn hb.size
    clear hbn
    clear hlog
    rw [HPS.out, List.length_map, HCL.out] at hbs
    have HLGb := hid (lg_behind HLC.out hbs hkb)
    have HRb : Hid (Rise (pq (pe b0) n0 (1 + 101) b2) (n0 + n2)) := rise_behind HRC.out (by omega) (by omega) (by omega) (fun i hi => by have := HEL.out i hi; omega)
    have HPTb := hid (pair_take HCL.out hbs)
    obtain ⟨nb, hnb⟩ : ∃ k, k = n0 + n2 := ⟨_, rfl⟩
    have HNb := hid hnb
    have hb9 : nb ≤ 80 := by omega
    have hb8 : n0 ≤ nb := by omega
    rw [← hnb] at HLGb HRb
    have hl9 : xb.length = nb := HLGb.out.1
    rw [hl9] at hob
    obtain ⟨Ab, cb, rfl, gg1, gg2⟩ := owned_slice hob
    have hCb : CS w22 w22.heap.size Ab nb xb := ⟨Rd.of_own hob, hl9, fun m hm => (hkb m hm).os⟩
    clear hbs hob hkb hl9 gg1 gg2 hnb
    go_wp2_with (go_at_call 24; refine stop_ (fun Ps hPs => ?_))
    refine hPs ?_
    clear hPs Ps
    have hgsa := gs_tl HRa.out (by omega) na xa (Nat.le_refl _) HLGa.out
    have hof := of24_ok Aa na ca xa w22 hCa (by omega) (fol_lg HRa.out (by omega) HLGa.out)
    have hln := tl_le xa
    rw [HLGa.out.1] at hln
    obtain ⟨La, hLa⟩ : ∃ L, L = tl xa := ⟨_, rfl⟩
    obtain ⟨la, hla⟩ : ∃ k, k = La.length := ⟨_, rfl⟩
    rw [← hLa] at hgsa hof hln
    rw [← hla] at hln
    have HGSa := hid hgsa
    have HLa := hid hLa
    have HNal := hid hla
    have hla9 : la ≤ 80 := by omega
    clear hgsa hLa hla hln
    refine (hof).mono ?_
    rintro e w23 ⟨vsa, rfl, hosa, hbn⟩
    have hCc := hCc.later hbn
    have hCa := hCa.later hbn
    have hCb := hCb.later hbn
    have hsp := hb.size
    have hb := bl_trans hb hbn hb.size
    clear hbn
    clear hof
    rw [← HNal.out] at hosa
    obtain ⟨Asa, csa, rfl, gsa, ksa⟩ := owned_slice hosa
    have ssa : SS w23 w23.heap.size Asa la La := ⟨Rd.of_own hosa, HNal.out.symm⟩
    clear gsa ksa hosa
    go_wp2_with (go_at_call 24; refine stop_ (fun Ps hPs => ?_))
    refine hPs ?_
    clear hPs Ps
    have kf1 := Blk.new w23 44 #[.int .i64 0, .int .i64 0]
    obtain ⟨w24, hnw⟩ : ∃ x, x = w23.alloc (.cells #[.int .i64 0, .int .i64 0] 44) := ⟨_, rfl⟩
    have hbn : Below w23.heap.size w23 w24 := by rw [hnw]; exact (Below.refl _ _).alloc (Nat.le_refl _) _
    obtain ⟨bf1, hbf1⟩ : ∃ x, x = w23.heap.size := ⟨_, rfl⟩
    rw [← hnw, ← hbf1] at kf1
    rw [← hnw, ← hbf1]
    clear hnw hbf1
    have hCc := hCc.later hbn
    have hCa := hCa.later hbn
    have hCb := hCb.later hbn
    have ssa := ssa.later hbn
    have hsp := hb.size
    have hb := bl_trans hb hbn hb.size
    clear hbn
    have hgsb := gs_tl HRb.out (by omega) nb xb (Nat.le_refl _) HLGb.out
    have hof := of24_ok Ab nb cb xb w24 hCb (by omega) (fol_lg HRb.out (by omega) HLGb.out)
    have hln := tl_le xb
    rw [HLGb.out.1] at hln
    obtain ⟨Lb, hLb⟩ : ∃ L, L = tl xb := ⟨_, rfl⟩
    obtain ⟨lb, hlb⟩ : ∃ k, k = Lb.length := ⟨_, rfl⟩
    rw [← hLb] at hgsb hof hln
    rw [← hlb] at hln
    have HGSb := hid hgsb
    have HLb := hid hLb
    have HNbl := hid hlb
    have hlb9 : lb ≤ 80 := by omega
    clear hgsb hLb hlb hln
    refine (hof).mono ?_
    rintro e w25 ⟨vsb, rfl, hosb, hbn⟩
    have hCc := hCc.later hbn
    have hCa := hCa.later hbn
    have hCb := hCb.later hbn
    have ssa := ssa.later hbn
    have kf1 := kf1.later hbn
    have hsp := hb.size
    have hb := bl_trans hb hbn hb.size
    clear hbn
    clear hof
    rw [← HNbl.out] at hosb
    obtain ⟨Asb, csb, rfl, gsb, ksb⟩ := owned_slice hosb
    have ssb : SS w25 w25.heap.size Asb lb Lb := ⟨Rd.of_own hosb, HNbl.out.symm⟩
    clear gsb ksb hosb
    go_wp2_with (go_at_call 24; refine stop_ (fun Ps hPs => ?_))
    refine hPs ?_
    clear hPs Ps
    have kf2 := Blk.new w25 44 #[.int .i64 0, .int .i64 0]
    obtain ⟨w26, hnw⟩ : ∃ x, x = w25.alloc (.cells #[.int .i64 0, .int .i64 0] 44) := ⟨_, rfl⟩
    have hbn : Below w25.heap.size w25 w26 := by rw [hnw]; exact (Below.refl _ _).alloc (Nat.le_refl _) _
    obtain ⟨bf2, hbf2⟩ : ∃ x, x = w25.heap.size := ⟨_, rfl⟩
    rw [← hnw, ← hbf2] at kf2
    rw [← hnw, ← hbf2]
    clear hnw hbf2
    have hCc := hCc.later hbn
    have hCa := hCa.later hbn
    have hCb := hCb.later hbn
    have ssa := ssa.later hbn
    have ssb := ssb.later hbn
    have kf1 := kf1.later hbn
    have hsp := hb.size
    have hb := bl_trans hb hbn hb.size
    clear hbn
    have hgsc := gs_tl HRC.out (by omega) n0 cs (Nat.le_refl _) HLC.out
    have hof := of24_ok Ac n0 cc cs w26 hCc (by omega) (fol_lg HRC.out (by omega) HLC.out)
    have hln := tl_le cs
    rw [HLC.out.1] at hln
    obtain ⟨Lc, hLc⟩ : ∃ L, L = tl cs := ⟨_, rfl⟩
    obtain ⟨lc, hlc⟩ : ∃ k, k = Lc.length := ⟨_, rfl⟩
    rw [← hLc] at hgsc hof hln
    rw [← hlc] at hln
    have HGSc := hid hgsc
    have HLc := hid hLc
    have HNcl := hid hlc
    have hlc9 : lc ≤ 80 := by omega
    clear hgsc hLc hlc hln
    refine (hof).mono ?_
    rintro e w27 ⟨vsc, rfl, hosc, hbn⟩
    have hCc := hCc.later hbn
    have hCa := hCa.later hbn
    have hCb := hCb.later hbn
    have ssa := ssa.later hbn
    have ssb := ssb.later hbn
    have kf1 := kf1.later hbn
    have kf2 := kf2.later hbn
    have hsp := hb.size
    have hb := bl_trans hb hbn hb.size
    clear hbn
    clear hof
    rw [← HNcl.out] at hosc
    obtain ⟨Asc, csc, rfl, gsc, ksc⟩ := owned_slice hosc
    have ssc : SS w27 w27.heap.size Asc lc Lc := ⟨Rd.of_own hosc, HNcl.out.symm⟩
    clear gsc ksc hosc
    have k9 := kf1.alloc (.cells #[.int .i64 0, .int .i64 0] 44)
    have xf10 : (w27.alloc (.cells #[.int .i64 0, .int .i64 0] 44)).cell? ⟨bf1, 0, none⟩ = some (.int .i64 0) := k9.cell 0
    have yf10 : w27.cell? ⟨bf1, 0, none⟩ = some (.int .i64 0) := kf1.cell 0
    have xf11 : (w27.alloc (.cells #[.int .i64 0, .int .i64 0] 44)).cell? ⟨bf1, 1, none⟩ = some (.int .i64 0) := k9.cell 1
    have yf11 : w27.cell? ⟨bf1, 1, none⟩ = some (.int .i64 0) := kf1.cell 1
    have lf1 : bf1 < w27.heap.size := kf1.lt
    clear k9
    have k9 := kf2.alloc (.cells #[.int .i64 0, .int .i64 0] 44)
    have xf20 : (w27.alloc (.cells #[.int .i64 0, .int .i64 0] 44)).cell? ⟨bf2, 0, none⟩ = some (.int .i64 0) := k9.cell 0
    have yf20 : w27.cell? ⟨bf2, 0, none⟩ = some (.int .i64 0) := kf2.cell 0
    have xf21 : (w27.alloc (.cells #[.int .i64 0, .int .i64 0] 44)).cell? ⟨bf2, 1, none⟩ = some (.int .i64 0) := k9.cell 1
    have yf21 : w27.cell? ⟨bf2, 1, none⟩ = some (.int .i64 0) := kf2.cell 1
    have lf2 : bf2 < w27.heap.size := kf2.lt
    clear k9
    have kn := Blk.new w27 44 #[.int .i64 0, .int .i64 0]
    have xn0 : (w27.alloc (.cells #[.int .i64 0, .int .i64 0] 44)).cell? ⟨w27.heap.size, 0, none⟩ = some (.int .i64 0) := kn.cell 0
    have xn1 : (w27.alloc (.cells #[.int .i64 0, .int .i64 0] 44)).cell? ⟨w27.heap.size, 1, none⟩ = some (.int .i64 0) := kn.cell 1
    clear kn
    go_wp2_with (go_at_call 10; refine stop_ (fun Ps hPs => ?_))
    refine hPs ?_
    clear hPs Ps
    clear xf10 xf11 yf10 yf11 xf20 xf21 yf20 yf21 xn0 xn1 lf1 lf2
    have kf3 := Blk.new w27 44 #[.int .i64 0, .int .i64 0]
    obtain ⟨w28, hnw⟩ : ∃ x, x = w27.alloc (.cells #[.int .i64 0, .int .i64 0] 44) := ⟨_, rfl⟩
    have hbn : Below w27.heap.size w27 w28 := by rw [hnw]; exact (Below.refl _ _).alloc (Nat.le_refl _) _
    obtain ⟨bf3, hbf3⟩ : ∃ x, x = w27.heap.size := ⟨_, rfl⟩
    rw [← hnw, ← hbf3] at kf3
    rw [← hnw, ← hbf3]
    clear hnw hbf3
    have hCc := hCc.later hbn
    have hCa := hCa.later hbn
    have hCb := hCb.later hbn
    have ssa := ssa.later hbn
    have ssb := ssb.later hbn
    have ssc := ssc.later hbn
    have kf1 := kf1.later hbn
    have kf2 := kf2.later hbn
    have hsp := hb.size
    have hb := bl_trans hb hbn hb.size
    clear hbn
    have HFAB : Hid (Sl.Fork La na Lb nb n0) := by
      have h9 := fork_parts (p := pe b0) (nc := n0) (E := 1) (x := b1) (y := b2) (na := n1) (nb := n2) (la := La) (lb := Lb) (by rw [← HNa.out]; exact HGSa.out) (by rw [← HNb.out]; exact HGSb.out)
      rw [← HNa.out, ← HNb.out] at h9
      exact h9
    have HFAC : Hid (Sl.Fork La na Lc n0 n0) := by
      have h9 := fork_front (p := pe b0) (nc := n0) (E := 1 + 100) (x := b1) (na := n1) (la := La) (lc := Lc) (by rw [← HNa.out]; exact HGSa.out) HGSc.out
      rw [← HNa.out] at h9
      exact h9
    refine (fork_lit Asa Asb la csa lb csb w28 ssa ssb (by omega) (by omega) HGSa.out.ok HGSb.out.ok HFAB.out).mono ?_
    rintro e w29 ⟨rfl, hbn⟩
    have hCc := hCc.later hbn
    have hCa := hCa.later hbn
    have hCb := hCb.later hbn
    have ssa := ssa.later hbn
    have ssb := ssb.later hbn
    have ssc := ssc.later hbn
    have kf1 := kf1.later hbn
    have kf2 := kf2.later hbn
    have kf3 := kf3.later hbn
    have hsp := hb.size
    have hb := bl_trans hb hbn hb.size
    clear hbn
    go_wp2_with (go_at_call 10; refine stop_ (fun Ps hPs => ?_))
    refine hPs ?_
    clear hPs Ps
    refine (fork_lit Asb Asa lb csb la csa w29 ssb ssa (by omega) (by omega) HGSb.out.ok HGSa.out.ok (fork_flip HFAB.out)).mono ?_
    rintro e w30 ⟨rfl, hbn⟩
    have hCc := hCc.later hbn
    have hCa := hCa.later hbn
    have hCb := hCb.later hbn
    have ssa := ssa.later hbn
    have ssb := ssb.later hbn
    have ssc := ssc.later hbn
    have kf1 := kf1.later hbn
    have kf2 := kf2.later hbn
    have kf3 := kf3.later hbn
    have hsp := hb.size
    have hb := bl_trans hb hbn hb.size
    clear hbn
    go_wp2_with (go_at_call 10; refine stop_ (fun Ps hPs => ?_))
    refine hPs ?_
    clear hPs Ps
    refine (fork_lit Asa Asc la csa lc csc w30 ssa ssc (by omega) (by omega) HGSa.out.ok HGSc.out.ok HFAC.out).mono ?_
    rintro e w31 ⟨rfl, hbn⟩
    have hCc := hCc.later hbn
    have hCa := hCa.later hbn
    have hCb := hCb.later hbn
    have ssa := ssa.later hbn
    have ssb := ssb.later hbn
    have ssc := ssc.later hbn
    have kf1 := kf1.later hbn
    have kf2 := kf2.later hbn
    have kf3 := kf3.later hbn
    have hsp := hb.size
    have hb := bl_trans hb hbn hb.size
    clear hbn
    have HTR := hid (trim_eq HRa.out (by omega) HLGa.out HLa.out (HPTa.out.trans HLc.out.symm) ha8)
    go_wp2_with (go_at_call 12; refine stop_ (fun Ps hPs => ?_))
    refine hPs ?_
    clear hPs Ps
    have hc := trim12 Asa la csa La na n0 w31 ssa (by omega)
    rw [HTR.out] at hc
    have hc : Calls Try.prog 12 #[.slice Asa la csa, .int .i64 (na : Nat), .int .i64 (n0 : Nat)] w31 (TrimAs Lc lc 0 w31) := hc.mono fun e w' h => trim_as rfl HNcl.out h
    refine (hc).mono ?_
    rintro e w32 ⟨vt, rfl, hot, hbn⟩
    have hCc := hCc.later hbn
    have hCa := hCa.later hbn
    have hCb := hCb.later hbn
    have ssa := ssa.later hbn
    have ssb := ssb.later hbn
    have ssc := ssc.later hbn
    have kf1 := kf1.later hbn
    have kf2 := kf2.later hbn
    have kf3 := kf3.later hbn
    have hsp := hb.size
    have hb := bl_trans hb hbn hb.size
    clear hbn
    clear hc
    obtain ⟨At, ct, rfl, gt, kt⟩ := owned_slice hot
    have st : SS w32 w32.heap.size At lc Lc := ⟨Rd.of_own hot, HNcl.out.symm⟩
    clear gt kt hot
    go_wp2_with (go_at_call 14; refine stop_ (fun Ps hPs => ?_))
    refine hPs ?_
    clear hPs Ps
    have hc := same14_self At Asc lc ct lc csc _ _ Lc w32 st ssc (by omega) (by omega)
    refine hc.mono ?_
    rintro e w33 ⟨rfl, d, hz9⟩
    have hbn : Below w32.heap.size w32 w33 := by rw [hz9]; exact below_drewN (Below.refl _ _) d
    clear hz9 hc
    have hCc := hCc.later hbn
    have hCa := hCa.later hbn
    have hCb := hCb.later hbn
    have ssa := ssa.later hbn
    have ssb := ssb.later hbn
    have ssc := ssc.later hbn
    have st := st.later hbn
    have kf1 := kf1.later hbn
    have kf2 := kf2.later hbn
    have kf3 := kf3.later hbn
    have hsp := hb.size
    have hb := bl_trans hb hbn hb.size
    clear hbn
    go_wp2_with fail
    have H_ssa := hid ssa
    have H_ssc := hid ssc
    have H_hCa := hid hCa
    have H_hCc := hid hCc
    have HBV := hid hb
    clear hCc hCa hCb ssa ssb ssc st kf1 kf2 kf3 hb
    go_loopg [25] (na + 1) (fun k i wr => ∃ x : Nat, x ≤ na + 1 ∧ k = na + 1 - x ∧ i = .int .i64 x ∧ Below w33.heap.size w33 wr)
    case atStart => exact ⟨0, by omega, rfl, rfl, Below.refl _ _⟩
    case round =>
      obtain ⟨x, hx, rfl, rfl, hbr⟩ := hrel
      have ssa := H_ssa.out.later hbr
      have hCa := H_hCa.out.later hbr
      by_cases hxn : x ≤ na
      · have hat : at_ La na x = (Sl.ep La x, 0) := by unfold at_; rw [if_pos HGSa.out.ok, if_pos ⟨by omega, by omega⟩]
        have hxe := HGSa.out.ep x hxn
        obtain ⟨z, hz2⟩ : ∃ z, z = Sl.ep La x := ⟨_, rfl⟩
        rw [← hz2] at hat hxe
        have HAT := hid hat
        have HXE := hid hxe
        have hxi : (x : Int) ≤ (na : Int) := by omega
        have hc := (at9 Asa la csa La na x wr ssa (by omega)).mono fun e w' h => two_sides HAT.out h
        clear hat hxe hz2
        go_wp2_with (go_at_call 9; refine stop_ (fun Ps hPs => ?_))
        refine hPs ?_
        clear hPs Ps
        refine hc.mono ?_
        clear hc
        rintro e w9 ⟨rfl, hb9⟩
        have hbr2 := bl_trans hbr hb9 hbr.size
        have hCa := hCa.later hb9
        clear hb9 ssa
        by_cases hx0 : x = 0
        · have hxe := HXE.out
          rw [if_pos hx0] at hxe
          have d1 : ¬(0 : Int) < (x : Int) := by omega
          have d2 : (z != 0) = false := by simp [hxe]
          have d3 : z = 0 := hxe
          subst d3
          clear hx0 hxe
          go_wp2_with fail
          go_roundg (na + 1 - (x + 1))
          case measure => omega
          case rel => exact ⟨x + 1, by omega, rfl, by go_num, hbr2⟩
        · have hxe := HXE.out
          rw [if_neg hx0] at hxe
          obtain ⟨b, off, me, mn, Ao, no, co, os, rfl, hbB, hcj, hos, hno, k0, k1, k2⟩ := hCa.at_ (j := x - 1) (by omega)
          have e1 := (HLGa.out.2 _ _ hcj).1
          simp only at e1
          rw [e1, ← hxe] at k0
          have d1 : (0 : Int) < (x : Int) := by omega
          have d3 : wrap64 ((x : Int) - 1) = (x : Int) - 1 := by simp only [wrap64]; omega
          have d4 : (1 : Int) ≤ (x : Int) := by omega
          have d5 : (x : Int) - 1 < (na : Int) := by omega
          clear hx0 hxe e1 hcj hos hno k1 k2
          go_wp2_with fail
          go_roundg (na + 1 - (x + 1))
          case measure => omega
          case rel => exact ⟨x + 1, by omega, rfl, by go_num, hbr2⟩
      · have ssc := H_ssc.out.later hbr
        have hCc := H_hCc.out.later hbr
        have hb := bl_trans HBV.out hbr HBV.out.size
        have hxi : ¬(x : Int) ≤ (na : Int) := by omega
        clear hbr
        by_cases hnn : na = n0
        · have d1 : ((na : Int) == (n0 : Int)) = true := by simp [hnn]
          clear hnn
          go_wp2_with fail
          go_ret
          exact ⟨rfl, hb⟩
        · have d1 : ((na : Int) == (n0 : Int)) = false := by simp; omega
          obtain ⟨b, off, me, mn, Ao, no, co, os, rfl, hbB, hcj, hos, hno, k0, k1, k2⟩ := hCa.at_ (j := n0) (by omega)
          have d5 : (n0 : Int) < (na : Int) := by omega
          have hgr := grown_lg HRa.out (by omega) HLGa.out hcj
          rw [HPTa.out, ← HLc.out] at hgr
          have hc := grown26 Asc lc csc Lc n0 ⟨me, mn, Ao, no, co, os⟩ wr ssc hos hno (by omega)
          rw [hgr] at hc
          have hln := tl_le (xa.take (n0 + 1))
          rw [List.length_take] at hln
          have htk := HLGa.out.take (show n0 + 1 ≤ na by omega)
          have HRI : Rise _ (n0 + 1) := ⟨fun i hi => HRa.out.1 i (by omega), fun i hi => HRa.out.2 i (by omega)⟩
          obtain ⟨G9, hG9⟩ : ∃ g, g = tl (xa.take (n0 + 1)) := ⟨_, rfl⟩
          obtain ⟨lg, hlg⟩ : ∃ k, k = G9.length := ⟨_, rfl⟩
          have HTR2 := hid (trim_eq (r := n0) HRI (by omega) htk hG9 (M := Lc) (by rw [List.take_take, show min n0 (n0 + 1) = n0 by omega, HPTa.out, ← HLc.out]) (by omega))
          rw [← hG9] at hc hln
          rw [← hlg] at hln
          have HLGN := hid hlg
          have hlg9 : lg ≤ 1000 := by omega
          have hc : Calls Try.prog 26 #[.slice Asc lc csc, .int .i64 (n0 : Nat), .agg #[.int .i64 me, .int .i64 mn, .slice Ao no co]] wr (TrimAs G9 lg 0 wr) := hc.mono fun e w' h => trim_as rfl HLGN.out h
          clear hgr htk HRI hG9 hlg hln hos hno hcj hnn
          go_wp2_with (go_at_call 26; refine stop_ (fun Ps hPs => ?_))
          refine hPs ?_
          clear hPs Ps
          refine (hc).mono ?_
          rintro e w34 ⟨vg, rfl, hog, hbn⟩
          have ssc := ssc.later hbn
          have hsp := hb.size
          have hb := bl_trans hb hbn hb.size
          clear hbn
          clear hc k0 k1 k2
          obtain ⟨Ag, cg, rfl, gg, kg⟩ := owned_slice hog
          have sg : SS w34 w34.heap.size Ag lg G9 := ⟨Rd.of_own hog, HLGN.out.symm⟩
          clear gg kg hog
          go_wp2_with (go_at_call 12; refine stop_ (fun Ps hPs => ?_))
          refine hPs ?_
          clear hPs Ps
          have hc := trim12 Ag lg cg G9 ((n0 + 1 : Nat) : Int) n0 w34 sg (by omega)
          rw [HTR2.out] at hc
          rw [show ((n0 + 1 : Nat) : Int) = (n0 : Int) + 1 by omega] at hc
          have hc : Calls Try.prog 12 #[.slice Ag lg cg, .int .i64 ((n0 : Int) + 1), .int .i64 (n0 : Nat)] w34 (TrimAs Lc lc 0 w34) := hc.mono fun e w' h => trim_as rfl HNcl.out h
          refine (hc).mono ?_
          rintro e w35 ⟨vu, rfl, hou, hbn⟩
          have ssc := ssc.later hbn
          have sg := sg.later hbn
          have hsp := hb.size
          have hb := bl_trans hb hbn hb.size
          clear hbn
          clear hc
          obtain ⟨Au, cu, rfl, gu, ku⟩ := owned_slice hou
          have su : SS w35 w35.heap.size Au lc Lc := ⟨Rd.of_own hou, HNcl.out.symm⟩
          clear gu ku hou
          go_wp2_with (go_at_call 14; refine stop_ (fun Ps hPs => ?_))
          refine hPs ?_
          clear hPs Ps
          have hc := same14_self Au Asc lc cu lc csc _ _ Lc w35 su ssc (by omega) (by omega)
          refine hc.mono ?_
          rintro e wz ⟨rfl, d, rfl⟩
          clear hc
          go_wp2_with fail
          go_ret
          exact ⟨rfl, below_drewN hb d⟩
  · have d0 : (0 : Int) < (n0 : Int) := by omega
    obtain ⟨b, off, me, mn, Ao, no, co, os, hA, hbB, hcj, hos, hno, k0, k1, k2⟩ := hCc.at_ (j := n0 - 1) (by omega)
    have e1 := (HLC.out.2 _ _ hcj).1
    simp only at e1
    have hbd := HRC.out.1 (n0 - 1) (by omega)
    have hb2 : pe b0 (n0 - 1) ≤ 81 := by
      have h3 := List.count_le_length (a := true) (l := b0.take (n0 - 1 + 1))
      rw [List.length_take] at h3
      unfold pe
      omega
    obtain ⟨x, hx⟩ : ∃ x, x = pe b0 (n0 - 1) := ⟨_, rfl⟩
    rw [← hx] at e1 hbd hb2
    have HEL : Hid (∀ i, i + 1 = n0 → pe b0 i ≤ x) := fun i hi => by rw [hx, show n0 - 1 = i by omega]; exact Int.le_refl _
    rw [e1] at k0
    subst hA
    have d3 : wrap64 ((n0 : Int) - 1) = (n0 : Int) - 1 := by simp only [wrap64]; omega
    have d4 : (1 : Int) ≤ (n0 : Int) := by omega
    have d5 : (n0 : Int) - 1 < (n0 : Int) := by omega
    clear hz hx e1 hcj hos hno k1 k2
    go_wp2_with (go_at_call 30; refine stop_ (fun Ps hPs => ?_))
    refine hPs ?_
    clear hPs Ps
    have hlog := log30 (.slice (some ⟨b, off, none⟩) n0 cc) ps (x + 100) A1 n1 c1 b1 w2 (by rw [HPS.out]; exact copy46 (some ⟨b, off, none⟩) n0 cc cs w2 hCc HKO.out (by omega)) ((h1.below hb).more hb.size) (by omega) (by rw [HPL.out]; omega) (by omega)
    refine (hlog).mono ?_
    rintro e w21 ⟨va, xa, rfl, has, hoa, hka, hbn⟩
    have hCc := hCc.later hbn
    have hsp := hb.size
    have hb := bl_trans hb hbn hb.size
    clear hbn
    clear hlog
    rw [HPS.out, List.length_map, HCL.out] at has
    have HLGa := hid (lg_behind HLC.out has hka)
    have HRa : Hid (Rise (pq (pe b0) n0 (x + 100) b1) (n0 + n1)) := rise_behind HRC.out (by omega) (by omega) (by omega) (fun i hi => by have := HEL.out i hi; omega)
    have HPTa := hid (pair_take HCL.out has)
    obtain ⟨na, hna⟩ : ∃ k, k = n0 + n1 := ⟨_, rfl⟩
    have HNa := hid hna
    have ha9 : na ≤ 80 := by omega
    have ha8 : n0 ≤ na := by omega
    rw [← hna] at HLGa HRa
    have hl9 : xa.length = na := HLGa.out.1
    rw [hl9] at hoa
    obtain ⟨Aa, ca, rfl, gg1, gg2⟩ := owned_slice hoa
    have hCa : CS w21 w21.heap.size Aa na xa := ⟨Rd.of_own hoa, hl9, fun m hm => (hka m hm).os⟩
    clear has hoa hka hl9 gg1 gg2 hna
    go_wp2_with (go_at_call 30; refine stop_ (fun Ps hPs => ?_))
    refine hPs ?_
    clear hPs Ps
    have hlog := log30 (.slice (some ⟨b, off, none⟩) n0 cc) ps (x + 101) A2 n2 c2 b2 w21 (by rw [HPS.out]; exact copy46 (some ⟨b, off, none⟩) n0 cc cs w21 hCc HKO.out (by omega)) ((h2.below hb).more hb.size) (by omega) (by rw [HPL.out]; omega) (by omega)
    refine (hlog).mono ?_
    rintro e w22 ⟨vb, xb, rfl, hbs, hob, hkb, hbn⟩
    have hCc := hCc.later hbn
    have hCa := hCa.later hbn
    have hsp := hb.size
    have hb := bl_trans hb hbn hb.size
    clear hbn
    clear hlog
    rw [HPS.out, List.length_map, HCL.out] at hbs
    have HLGb := hid (lg_behind HLC.out hbs hkb)
    have HRb : Hid (Rise (pq (pe b0) n0 (x + 101) b2) (n0 + n2)) := rise_behind HRC.out (by omega) (by omega) (by omega) (fun i hi => by have := HEL.out i hi; omega)
    have HPTb := hid (pair_take HCL.out hbs)
    obtain ⟨nb, hnb⟩ : ∃ k, k = n0 + n2 := ⟨_, rfl⟩
    have HNb := hid hnb
    have hb9 : nb ≤ 80 := by omega
    have hb8 : n0 ≤ nb := by omega
    rw [← hnb] at HLGb HRb
    have hl9 : xb.length = nb := HLGb.out.1
    rw [hl9] at hob
    obtain ⟨Ab, cb, rfl, gg1, gg2⟩ := owned_slice hob
    have hCb : CS w22 w22.heap.size Ab nb xb := ⟨Rd.of_own hob, hl9, fun m hm => (hkb m hm).os⟩
    clear hbs hob hkb hl9 gg1 gg2 hnb
    go_wp2_with (go_at_call 24; refine stop_ (fun Ps hPs => ?_))
    refine hPs ?_
    clear hPs Ps
    have hgsa := gs_tl HRa.out (by omega) na xa (Nat.le_refl _) HLGa.out
    have hof := of24_ok Aa na ca xa w22 hCa (by omega) (fol_lg HRa.out (by omega) HLGa.out)
    have hln := tl_le xa
    rw [HLGa.out.1] at hln
    obtain ⟨La, hLa⟩ : ∃ L, L = tl xa := ⟨_, rfl⟩
    obtain ⟨la, hla⟩ : ∃ k, k = La.length := ⟨_, rfl⟩
    rw [← hLa] at hgsa hof hln
    rw [← hla] at hln
    have HGSa := hid hgsa
    have HLa := hid hLa
    have HNal := hid hla
    have hla9 : la ≤ 80 := by omega
    clear hgsa hLa hla hln
    refine (hof).mono ?_
    rintro e w23 ⟨vsa, rfl, hosa, hbn⟩
    have hCc := hCc.later hbn
    have hCa := hCa.later hbn
    have hCb := hCb.later hbn
    have hsp := hb.size
    have hb := bl_trans hb hbn hb.size
    clear hbn
    clear hof
    rw [← HNal.out] at hosa
    obtain ⟨Asa, csa, rfl, gsa, ksa⟩ := owned_slice hosa
    have ssa : SS w23 w23.heap.size Asa la La := ⟨Rd.of_own hosa, HNal.out.symm⟩
    clear gsa ksa hosa
    go_wp2_with (go_at_call 24; refine stop_ (fun Ps hPs => ?_))
    refine hPs ?_
    clear hPs Ps
    have kf1 := Blk.new w23 44 #[.int .i64 0, .int .i64 0]
    obtain ⟨w24, hnw⟩ : ∃ x, x = w23.alloc (.cells #[.int .i64 0, .int .i64 0] 44) := ⟨_, rfl⟩
    have hbn : Below w23.heap.size w23 w24 := by rw [hnw]; exact (Below.refl _ _).alloc (Nat.le_refl _) _
    obtain ⟨bf1, hbf1⟩ : ∃ x, x = w23.heap.size := ⟨_, rfl⟩
    rw [← hnw, ← hbf1] at kf1
    rw [← hnw, ← hbf1]
    clear hnw hbf1
    have hCc := hCc.later hbn
    have hCa := hCa.later hbn
    have hCb := hCb.later hbn
    have ssa := ssa.later hbn
    have hsp := hb.size
    have hb := bl_trans hb hbn hb.size
    clear hbn
    have hgsb := gs_tl HRb.out (by omega) nb xb (Nat.le_refl _) HLGb.out
    have hof := of24_ok Ab nb cb xb w24 hCb (by omega) (fol_lg HRb.out (by omega) HLGb.out)
    have hln := tl_le xb
    rw [HLGb.out.1] at hln
    obtain ⟨Lb, hLb⟩ : ∃ L, L = tl xb := ⟨_, rfl⟩
    obtain ⟨lb, hlb⟩ : ∃ k, k = Lb.length := ⟨_, rfl⟩
    rw [← hLb] at hgsb hof hln
    rw [← hlb] at hln
    have HGSb := hid hgsb
    have HLb := hid hLb
    have HNbl := hid hlb
    have hlb9 : lb ≤ 80 := by omega
    clear hgsb hLb hlb hln
    refine (hof).mono ?_
    rintro e w25 ⟨vsb, rfl, hosb, hbn⟩
    have hCc := hCc.later hbn
    have hCa := hCa.later hbn
    have hCb := hCb.later hbn
    have ssa := ssa.later hbn
    have kf1 := kf1.later hbn
    have hsp := hb.size
    have hb := bl_trans hb hbn hb.size
    clear hbn
    clear hof
    rw [← HNbl.out] at hosb
    obtain ⟨Asb, csb, rfl, gsb, ksb⟩ := owned_slice hosb
    have ssb : SS w25 w25.heap.size Asb lb Lb := ⟨Rd.of_own hosb, HNbl.out.symm⟩
    clear gsb ksb hosb
    go_wp2_with (go_at_call 24; refine stop_ (fun Ps hPs => ?_))
    refine hPs ?_
    clear hPs Ps
    have kf2 := Blk.new w25 44 #[.int .i64 0, .int .i64 0]
    obtain ⟨w26, hnw⟩ : ∃ x, x = w25.alloc (.cells #[.int .i64 0, .int .i64 0] 44) := ⟨_, rfl⟩
    have hbn : Below w25.heap.size w25 w26 := by rw [hnw]; exact (Below.refl _ _).alloc (Nat.le_refl _) _
    obtain ⟨bf2, hbf2⟩ : ∃ x, x = w25.heap.size := ⟨_, rfl⟩
    rw [← hnw, ← hbf2] at kf2
    rw [← hnw, ← hbf2]
    clear hnw hbf2
    have hCc := hCc.later hbn
    have hCa := hCa.later hbn
    have hCb := hCb.later hbn
    have ssa := ssa.later hbn
    have ssb := ssb.later hbn
    have kf1 := kf1.later hbn
    have hsp := hb.size
    have hb := bl_trans hb hbn hb.size
    clear hbn
    have hgsc := gs_tl HRC.out (by omega) n0 cs (Nat.le_refl _) HLC.out
    have hof := of24_ok (some ⟨b, off, none⟩) n0 cc cs w26 hCc (by omega) (fol_lg HRC.out (by omega) HLC.out)
    have hln := tl_le cs
    rw [HLC.out.1] at hln
    obtain ⟨Lc, hLc⟩ : ∃ L, L = tl cs := ⟨_, rfl⟩
    obtain ⟨lc, hlc⟩ : ∃ k, k = Lc.length := ⟨_, rfl⟩
    rw [← hLc] at hgsc hof hln
    rw [← hlc] at hln
    have HGSc := hid hgsc
    have HLc := hid hLc
    have HNcl := hid hlc
    have hlc9 : lc ≤ 80 := by omega
    clear hgsc hLc hlc hln
    refine (hof).mono ?_
    rintro e w27 ⟨vsc, rfl, hosc, hbn⟩
    have hCc := hCc.later hbn
    have hCa := hCa.later hbn
    have hCb := hCb.later hbn
    have ssa := ssa.later hbn
    have ssb := ssb.later hbn
    have kf1 := kf1.later hbn
    have kf2 := kf2.later hbn
    have hsp := hb.size
    have hb := bl_trans hb hbn hb.size
    clear hbn
    clear hof
    rw [← HNcl.out] at hosc
    obtain ⟨Asc, csc, rfl, gsc, ksc⟩ := owned_slice hosc
    have ssc : SS w27 w27.heap.size Asc lc Lc := ⟨Rd.of_own hosc, HNcl.out.symm⟩
    clear gsc ksc hosc
    have k9 := kf1.alloc (.cells #[.int .i64 0, .int .i64 0] 44)
    have xf10 : (w27.alloc (.cells #[.int .i64 0, .int .i64 0] 44)).cell? ⟨bf1, 0, none⟩ = some (.int .i64 0) := k9.cell 0
    have yf10 : w27.cell? ⟨bf1, 0, none⟩ = some (.int .i64 0) := kf1.cell 0
    have xf11 : (w27.alloc (.cells #[.int .i64 0, .int .i64 0] 44)).cell? ⟨bf1, 1, none⟩ = some (.int .i64 0) := k9.cell 1
    have yf11 : w27.cell? ⟨bf1, 1, none⟩ = some (.int .i64 0) := kf1.cell 1
    have lf1 : bf1 < w27.heap.size := kf1.lt
    clear k9
    have k9 := kf2.alloc (.cells #[.int .i64 0, .int .i64 0] 44)
    have xf20 : (w27.alloc (.cells #[.int .i64 0, .int .i64 0] 44)).cell? ⟨bf2, 0, none⟩ = some (.int .i64 0) := k9.cell 0
    have yf20 : w27.cell? ⟨bf2, 0, none⟩ = some (.int .i64 0) := kf2.cell 0
    have xf21 : (w27.alloc (.cells #[.int .i64 0, .int .i64 0] 44)).cell? ⟨bf2, 1, none⟩ = some (.int .i64 0) := k9.cell 1
    have yf21 : w27.cell? ⟨bf2, 1, none⟩ = some (.int .i64 0) := kf2.cell 1
    have lf2 : bf2 < w27.heap.size := kf2.lt
    clear k9
    have kn := Blk.new w27 44 #[.int .i64 0, .int .i64 0]
    have xn0 : (w27.alloc (.cells #[.int .i64 0, .int .i64 0] 44)).cell? ⟨w27.heap.size, 0, none⟩ = some (.int .i64 0) := kn.cell 0
    have xn1 : (w27.alloc (.cells #[.int .i64 0, .int .i64 0] 44)).cell? ⟨w27.heap.size, 1, none⟩ = some (.int .i64 0) := kn.cell 1
    clear kn
    go_wp2_with (go_at_call 10; refine stop_ (fun Ps hPs => ?_))
    refine hPs ?_
    clear hPs Ps
    clear xf10 xf11 yf10 yf11 xf20 xf21 yf20 yf21 xn0 xn1 lf1 lf2
    have kf3 := Blk.new w27 44 #[.int .i64 0, .int .i64 0]
    obtain ⟨w28, hnw⟩ : ∃ x, x = w27.alloc (.cells #[.int .i64 0, .int .i64 0] 44) := ⟨_, rfl⟩
    have hbn : Below w27.heap.size w27 w28 := by rw [hnw]; exact (Below.refl _ _).alloc (Nat.le_refl _) _
    obtain ⟨bf3, hbf3⟩ : ∃ x, x = w27.heap.size := ⟨_, rfl⟩
    rw [← hnw, ← hbf3] at kf3
    rw [← hnw, ← hbf3]
    clear hnw hbf3
    have hCc := hCc.later hbn
    have hCa := hCa.later hbn
    have hCb := hCb.later hbn
    have ssa := ssa.later hbn
    have ssb := ssb.later hbn
    have ssc := ssc.later hbn
    have kf1 := kf1.later hbn
    have kf2 := kf2.later hbn
    have hsp := hb.size
    have hb := bl_trans hb hbn hb.size
    clear hbn
    have HFAB : Hid (Sl.Fork La na Lb nb n0) := by
      have h9 := fork_parts (p := pe b0) (nc := n0) (E := x) (x := b1) (y := b2) (na := n1) (nb := n2) (la := La) (lb := Lb) (by rw [← HNa.out]; exact HGSa.out) (by rw [← HNb.out]; exact HGSb.out)
      rw [← HNa.out, ← HNb.out] at h9
      exact h9
    have HFAC : Hid (Sl.Fork La na Lc n0 n0) := by
      have h9 := fork_front (p := pe b0) (nc := n0) (E := x + 100) (x := b1) (na := n1) (la := La) (lc := Lc) (by rw [← HNa.out]; exact HGSa.out) HGSc.out
      rw [← HNa.out] at h9
      exact h9
    refine (fork_lit Asa Asb la csa lb csb w28 ssa ssb (by omega) (by omega) HGSa.out.ok HGSb.out.ok HFAB.out).mono ?_
    rintro e w29 ⟨rfl, hbn⟩
    have hCc := hCc.later hbn
    have hCa := hCa.later hbn
    have hCb := hCb.later hbn
    have ssa := ssa.later hbn
    have ssb := ssb.later hbn
    have ssc := ssc.later hbn
    have kf1 := kf1.later hbn
    have kf2 := kf2.later hbn
    have kf3 := kf3.later hbn
    have hsp := hb.size
    have hb := bl_trans hb hbn hb.size
    clear hbn
    go_wp2_with (go_at_call 10; refine stop_ (fun Ps hPs => ?_))
    refine hPs ?_
    clear hPs Ps
    refine (fork_lit Asb Asa lb csb la csa w29 ssb ssa (by omega) (by omega) HGSb.out.ok HGSa.out.ok (fork_flip HFAB.out)).mono ?_
    rintro e w30 ⟨rfl, hbn⟩
    have hCc := hCc.later hbn
    have hCa := hCa.later hbn
    have hCb := hCb.later hbn
    have ssa := ssa.later hbn
    have ssb := ssb.later hbn
    have ssc := ssc.later hbn
    have kf1 := kf1.later hbn
    have kf2 := kf2.later hbn
    have kf3 := kf3.later hbn
    have hsp := hb.size
    have hb := bl_trans hb hbn hb.size
    clear hbn
    go_wp2_with (go_at_call 10; refine stop_ (fun Ps hPs => ?_))
    refine hPs ?_
    clear hPs Ps
    refine (fork_lit Asa Asc la csa lc csc w30 ssa ssc (by omega) (by omega) HGSa.out.ok HGSc.out.ok HFAC.out).mono ?_
    rintro e w31 ⟨rfl, hbn⟩
    have hCc := hCc.later hbn
    have hCa := hCa.later hbn
    have hCb := hCb.later hbn
    have ssa := ssa.later hbn
    have ssb := ssb.later hbn
    have ssc := ssc.later hbn
    have kf1 := kf1.later hbn
    have kf2 := kf2.later hbn
    have kf3 := kf3.later hbn
    have hsp := hb.size
    have hb := bl_trans hb hbn hb.size
    clear hbn
    have HTR := hid (trim_eq HRa.out (by omega) HLGa.out HLa.out (HPTa.out.trans HLc.out.symm) ha8)
    go_wp2_with (go_at_call 12; refine stop_ (fun Ps hPs => ?_))
    refine hPs ?_
    clear hPs Ps
    have hc := trim12 Asa la csa La na n0 w31 ssa (by omega)
    rw [HTR.out] at hc
    have hc : Calls Try.prog 12 #[.slice Asa la csa, .int .i64 (na : Nat), .int .i64 (n0 : Nat)] w31 (TrimAs Lc lc 0 w31) := hc.mono fun e w' h => trim_as rfl HNcl.out h
    refine (hc).mono ?_
    rintro e w32 ⟨vt, rfl, hot, hbn⟩
    have hCc := hCc.later hbn
    have hCa := hCa.later hbn
    have hCb := hCb.later hbn
    have ssa := ssa.later hbn
    have ssb := ssb.later hbn
    have ssc := ssc.later hbn
    have kf1 := kf1.later hbn
    have kf2 := kf2.later hbn
    have kf3 := kf3.later hbn
    have hsp := hb.size
    have hb := bl_trans hb hbn hb.size
    clear hbn
    clear hc
    obtain ⟨At, ct, rfl, gt, kt⟩ := owned_slice hot
    have st : SS w32 w32.heap.size At lc Lc := ⟨Rd.of_own hot, HNcl.out.symm⟩
    clear gt kt hot
    go_wp2_with (go_at_call 14; refine stop_ (fun Ps hPs => ?_))
    refine hPs ?_
    clear hPs Ps
    have hc := same14_self At Asc lc ct lc csc _ _ Lc w32 st ssc (by omega) (by omega)
    refine hc.mono ?_
    rintro e w33 ⟨rfl, d, hz9⟩
    have hbn : Below w32.heap.size w32 w33 := by rw [hz9]; exact below_drewN (Below.refl _ _) d
    clear hz9 hc
    have hCc := hCc.later hbn
    have hCa := hCa.later hbn
    have hCb := hCb.later hbn
    have ssa := ssa.later hbn
    have ssb := ssb.later hbn
    have ssc := ssc.later hbn
    have st := st.later hbn
    have kf1 := kf1.later hbn
    have kf2 := kf2.later hbn
    have kf3 := kf3.later hbn
    have hsp := hb.size
    have hb := bl_trans hb hbn hb.size
    clear hbn
    go_wp2_with fail
    have H_ssa := hid ssa
    have H_ssc := hid ssc
    have H_hCa := hid hCa
    have H_hCc := hid hCc
    have HBV := hid hb
    clear hCc hCa hCb ssa ssb ssc st kf1 kf2 kf3 hb
    go_loopg [25] (na + 1) (fun k i wr => ∃ x : Nat, x ≤ na + 1 ∧ k = na + 1 - x ∧ i = .int .i64 x ∧ Below w33.heap.size w33 wr)
    case atStart => exact ⟨0, by omega, rfl, rfl, Below.refl _ _⟩
    case round =>
      obtain ⟨x, hx, rfl, rfl, hbr⟩ := hrel
      have ssa := H_ssa.out.later hbr
      have hCa := H_hCa.out.later hbr
      by_cases hxn : x ≤ na
      · have hat : at_ La na x = (Sl.ep La x, 0) := by unfold at_; rw [if_pos HGSa.out.ok, if_pos ⟨by omega, by omega⟩]
        have hxe := HGSa.out.ep x hxn
        obtain ⟨z, hz2⟩ : ∃ z, z = Sl.ep La x := ⟨_, rfl⟩
        rw [← hz2] at hat hxe
        have HAT := hid hat
        have HXE := hid hxe
        have hxi : (x : Int) ≤ (na : Int) := by omega
        have hc := (at9 Asa la csa La na x wr ssa (by omega)).mono fun e w' h => two_sides HAT.out h
        clear hat hxe hz2
        go_wp2_with (go_at_call 9; refine stop_ (fun Ps hPs => ?_))
        refine hPs ?_
        clear hPs Ps
        refine hc.mono ?_
        clear hc
        rintro e w9 ⟨rfl, hb9⟩
        have hbr2 := bl_trans hbr hb9 hbr.size
        have hCa := hCa.later hb9
        clear hb9 ssa
        by_cases hx0 : x = 0
        · have hxe := HXE.out
          rw [if_pos hx0] at hxe
          have d1 : ¬(0 : Int) < (x : Int) := by omega
          have d2 : (z != 0) = false := by simp [hxe]
          have d3 : z = 0 := hxe
          subst d3
          clear hx0 hxe
          go_wp2_with fail
          go_roundg (na + 1 - (x + 1))
          case measure => omega
          case rel => exact ⟨x + 1, by omega, rfl, by go_num, hbr2⟩
        · have hxe := HXE.out
          rw [if_neg hx0] at hxe
          obtain ⟨b, off, me, mn, Ao, no, co, os, rfl, hbB, hcj, hos, hno, k0, k1, k2⟩ := hCa.at_ (j := x - 1) (by omega)
          have e1 := (HLGa.out.2 _ _ hcj).1
          simp only at e1
          rw [e1, ← hxe] at k0
          have d1 : (0 : Int) < (x : Int) := by omega
          have d3 : wrap64 ((x : Int) - 1) = (x : Int) - 1 := by simp only [wrap64]; omega
          have d4 : (1 : Int) ≤ (x : Int) := by omega
          have d5 : (x : Int) - 1 < (na : Int) := by omega
          clear hx0 hxe e1 hcj hos hno k1 k2
          go_wp2_with fail
          go_roundg (na + 1 - (x + 1))
          case measure => omega
          case rel => exact ⟨x + 1, by omega, rfl, by go_num, hbr2⟩
      · have ssc := H_ssc.out.later hbr
        have hCc := H_hCc.out.later hbr
        have hb := bl_trans HBV.out hbr HBV.out.size
        have hxi : ¬(x : Int) ≤ (na : Int) := by omega
        clear hbr
        by_cases hnn : na = n0
        · have d1 : ((na : Int) == (n0 : Int)) = true := by simp [hnn]
          clear hnn
          go_wp2_with fail
          go_ret
          exact ⟨rfl, hb⟩
        · have d1 : ((na : Int) == (n0 : Int)) = false := by simp; omega
          obtain ⟨b, off, me, mn, Ao, no, co, os, rfl, hbB, hcj, hos, hno, k0, k1, k2⟩ := hCa.at_ (j := n0) (by omega)
          have d5 : (n0 : Int) < (na : Int) := by omega
          have hgr := grown_lg HRa.out (by omega) HLGa.out hcj
          rw [HPTa.out, ← HLc.out] at hgr
          have hc := grown26 Asc lc csc Lc n0 ⟨me, mn, Ao, no, co, os⟩ wr ssc hos hno (by omega)
          rw [hgr] at hc
          have hln := tl_le (xa.take (n0 + 1))
          rw [List.length_take] at hln
          have htk := HLGa.out.take (show n0 + 1 ≤ na by omega)
          have HRI : Rise _ (n0 + 1) := ⟨fun i hi => HRa.out.1 i (by omega), fun i hi => HRa.out.2 i (by omega)⟩
          obtain ⟨G9, hG9⟩ : ∃ g, g = tl (xa.take (n0 + 1)) := ⟨_, rfl⟩
          obtain ⟨lg, hlg⟩ : ∃ k, k = G9.length := ⟨_, rfl⟩
          have HTR2 := hid (trim_eq (r := n0) HRI (by omega) htk hG9 (M := Lc) (by rw [List.take_take, show min n0 (n0 + 1) = n0 by omega, HPTa.out, ← HLc.out]) (by omega))
          rw [← hG9] at hc hln
          rw [← hlg] at hln
          have HLGN := hid hlg
          have hlg9 : lg ≤ 1000 := by omega
          have hc : Calls Try.prog 26 #[.slice Asc lc csc, .int .i64 (n0 : Nat), .agg #[.int .i64 me, .int .i64 mn, .slice Ao no co]] wr (TrimAs G9 lg 0 wr) := hc.mono fun e w' h => trim_as rfl HLGN.out h
          clear hgr htk HRI hG9 hlg hln hos hno hcj hnn
          go_wp2_with (go_at_call 26; refine stop_ (fun Ps hPs => ?_))
          refine hPs ?_
          clear hPs Ps
          refine (hc).mono ?_
          rintro e w34 ⟨vg, rfl, hog, hbn⟩
          have ssc := ssc.later hbn
          have hsp := hb.size
          have hb := bl_trans hb hbn hb.size
          clear hbn
          clear hc k0 k1 k2
          obtain ⟨Ag, cg, rfl, gg, kg⟩ := owned_slice hog
          have sg : SS w34 w34.heap.size Ag lg G9 := ⟨Rd.of_own hog, HLGN.out.symm⟩
          clear gg kg hog
          go_wp2_with (go_at_call 12; refine stop_ (fun Ps hPs => ?_))
          refine hPs ?_
          clear hPs Ps
          have hc := trim12 Ag lg cg G9 ((n0 + 1 : Nat) : Int) n0 w34 sg (by omega)
          rw [HTR2.out] at hc
          rw [show ((n0 + 1 : Nat) : Int) = (n0 : Int) + 1 by omega] at hc
          have hc : Calls Try.prog 12 #[.slice Ag lg cg, .int .i64 ((n0 : Int) + 1), .int .i64 (n0 : Nat)] w34 (TrimAs Lc lc 0 w34) := hc.mono fun e w' h => trim_as rfl HNcl.out h
          refine (hc).mono ?_
          rintro e w35 ⟨vu, rfl, hou, hbn⟩
          have ssc := ssc.later hbn
          have sg := sg.later hbn
          have hsp := hb.size
          have hb := bl_trans hb hbn hb.size
          clear hbn
          clear hc
          obtain ⟨Au, cu, rfl, gu, ku⟩ := owned_slice hou
          have su : SS w35 w35.heap.size Au lc Lc := ⟨Rd.of_own hou, HNcl.out.symm⟩
          clear gu ku hou
          go_wp2_with (go_at_call 14; refine stop_ (fun Ps hPs => ?_))
          refine hPs ?_
          clear hPs Ps
          have hc := same14_self Au Asc lc cu lc csc _ _ Lc w35 su ssc (by omega) (by omega)
          refine hc.mono ?_
          rintro e wz ⟨rfl, d, rfl⟩
          clear hc
          go_wp2_with fail
          go_ret
          exact ⟨rfl, below_drewN hb d⟩
end Go.Proofs.Ytmlfbjcgmbdafaa
