/- The statement FrameTorn: the walk through its own text. -/
import Derived.Test.YthihhmmpkbdmnaaBehind
import Derived.Test.YthihhmmpkbdmnaaRow
namespace Vi
theorem frs_split (rs : List (List UInt8)) (q : Nat) : frs rs = frs (rs.take q) ++ frs (rs.drop q) := by
  unfold frs; rw [← List.flatMap_append, List.take_append_drop]

/-- Of frames one behind the other, cut anywhere, just those are told that lie ahead of the cut whole. -/
theorem scan_torn (rs : List (List UInt8)) (k q : Nat) (h : ∀ r ∈ rs, r.length ≤ 131072) (hg : (frs (rs.take q)).length ≤ k) (hend : rs.length ≤ q ∨ k < (frs (rs.take (q + 1))).length) :
    scan ((frs rs).take k) = (rs.take q, (frs (rs.take q)).length) := by
  have ht : ∀ r ∈ rs.take q, r.length ≤ 131072 := fun r hr => h r (List.mem_of_mem_take hr)
  have e : (frs rs).take k = frs (rs.take q) ++ (frs (rs.drop q)).take (k - (frs (rs.take q)).length) := by
    rw [frs_split rs q, List.take_append, List.take_of_length_le hg]
  have hn : fread ((frs (rs.drop q)).take (k - (frs (rs.take q)).length)) = none := by
    rcases Nat.lt_or_ge q rs.length with hlt | hge
    · have hk : k < (frs (rs.take (q + 1))).length := by
        rcases hend with h1 | h1
        · omega
        · exact h1
      have hd : rs.drop q = rs[q] :: rs.drop (q + 1) := List.drop_eq_getElem_cons hlt
      have ht2 : rs.take (q + 1) = rs.take q ++ [rs[q]] := by rw [List.take_succ_eq_append_getElem hlt]
      rw [ht2, frs_snoc, List.length_append] at hk
      have e2 : frs (rs.drop q) = fr rs[q] ++ frs (rs.drop (q + 1)) := by rw [hd]; unfold frs; rw [List.flatMap_cons]
      rw [e2, List.take_append_of_le_length (by omega)]
      exact fread_cut _ _ (h _ (List.getElem_mem hlt)) (by omega)
    · rw [List.drop_of_length_le hge]
      simp only [frs, List.flatMap_nil, List.take_nil]
      decide
  rw [e, scan_frs _ _ ht, scan_none hn]
  simp
theorem scan_whole (rs : List (List UInt8)) (h : ∀ r ∈ rs, r.length ≤ 131072) : scan (frs rs) = (rs, (frs rs).length) := by
  have h2 := scan_frs rs [] h
  rw [scan_none (b := []) (by decide)] at h2
  simpa using h2
theorem fr_len (r : List UInt8) : (fr r).length ≤ r.length + 10 := by
  have := encF_len_le 9 r.length
  simp only [fr, enc, List.length_append]; omega
theorem frs_take {rs : List (List UInt8)} {j : Nat} {r : List UInt8} (h : rs[j]? = some r) : frs (rs.take (j + 1)) = frs (rs.take j) ++ fr r := by
  obtain ⟨hlt, rfl⟩ := List.getElem?_eq_some_iff.1 h
  rw [List.take_succ_eq_append_getElem hlt, frs_snoc]
end Vi
namespace Go.Proofs.Ythihhmmpkbdmnaa
open Go.RowKit Go.Lg
set_option linter.unusedVariables false
set_option linter.unusedSimpArgs false

/-- Where the frames end. -/
def ends9 (rs : List (List UInt8)) (j : Nat) : List Value := (List.range j).map fun i => Value.int .i64 ((Vi.frs (rs.take (i + 1))).length : Int)
theorem ends9_succ (rs : List (List UInt8)) (j : Nat) : ends9 rs (j + 1) = ends9 rs j ++ [Value.int .i64 ((Vi.frs (rs.take (j + 1))).length : Int)] := by simp [ends9, List.range_succ]
theorem ends9_get (rs : List (List UInt8)) (j n : Nat) (h : j < n) : (ends9 rs n)[j]? = some (Value.int .i64 ((Vi.frs (rs.take (j + 1))).length : Int)) := by simp [ends9, h]

theorem RR.drewN {w : World} {B n : Nat} {A : Option Addr} {vs : List Value} {rs : List (List UInt8)} (h : RR w B A n vs rs) (d : Nat) : RR (w.drewN d) B A n vs rs :=
  ⟨h.1.drewN d, h.2.1, fun i u r hu hr => by
    obtain ⟨Ai, ci, q1, q2, q3⟩ := h.2.2 i u r hu hr
    exact ⟨Ai, ci, q1, q2.drewN d, q3⟩⟩
theorem RR.at_ {w : World} {B n : Nat} {A : Option Addr} {vs : List Value} {rs : List (List UInt8)} {j : Nat} (h : RR w B A n vs rs) (hj : j < n) :
    ∃ b off Ai ci r, A = some ⟨b, off, none⟩ ∧ rs[j]? = some r ∧ w.cell? ⟨b, off + j, none⟩ = some (.slice Ai r.length ci) ∧ Rd w B 1 Ai r.length (bts r) ∧ r.length ≤ 9223372036854775807 := by
  obtain ⟨b, off, u, h1, h2, h3, h4⟩ := h.1.at_ hj
  have h5 : rs[j]? = some (rs[j]'(by rw [h.2.1]; exact hj)) := List.getElem?_eq_getElem _
  obtain ⟨Ai, ci, rfl, h6, h7⟩ := h.2.2 j u _ h3 h5
  exact ⟨b, off, Ai, ci, _, h1, h5, h4, h6, h7⟩

set_option maxHeartbeats 800000 in
set_option maxRecDepth 100000 in
theorem torn_walk (A : Option Addr) (n c : Nat) (vs : List Value) (rs : List (List UInt8)) (cut : Int) (w : World) (h : RR w w.heap.size A n vs rs) (hn : n ≤ 9223372036854775807) (hc : n ≤ c) (h1 : -9223372036854775808 ≤ cut) (h2 : cut ≤ 9223372036854775807) :
    Calls Try.prog 10 #[.slice A n c, .int .i64 cut] w fun e w' => e = .returned (.bool true) ∧ Below w.heap.size w w' := by
  have HL := hid h.2.1
  go_enter Try.func10, Try.ntmps10
  go_wp2_with fail
  refine (lives9_any w).mono ?_
  rintro e w1 ⟨rfl, hb1⟩
  by_cases h60 : 60 < n
  · go_wp2_with fail
    go_ret
    exact ⟨rfl, hb1⟩
  · obtain ⟨H, hH⟩ : ∃ H, H = w.heap.size := ⟨_, rfl⟩
    have HH := hid hH
    rw [← hH] at h hb1
    clear hH
    go_wp2_with fail
    go_loopg [5, 6, 7] n (fun k b en i wr => ∃ (j m cb : Nat) (Ab : Option Addr), j ≤ n ∧ k = n - j ∧ i = .int .i64 j ∧ b = .slice Ab m cb ∧ m ≤ cb ∧ m = (Vi.frs (rs.take j)).length ∧ m ≤ 410 * j ∧ cb ≤ maxLen ∧ Rd wr wr.heap.size 1 Ab m (bts (Vi.frs (rs.take j))) ∧
      wr.ownsRow H 3 1 en j (ends9 rs j) ∧ (∀ r ∈ rs.take j, r.length ≤ 400) ∧ Below H w wr)
    case atStart => exact ⟨0, 0, 0, none, by omega, rfl, rfl, rfl, by omega, rfl, by omega, by simp [maxLen], Rd.nil_, World.ownsRow_nil _ _ _ _, by simp, hb1⟩
    case round =>
      obtain ⟨j, m, cb, Ab, hj, rfl, rfl, rfl, hmc, hm, hm4, hcb, hrb, hen, hsm, hb⟩ := hrel
      have hm10 : m ≤ 24600 := by omega
      have hRw := h.below hb
      by_cases hlt : j < n
      · obtain ⟨b, off, Ai, ci, r, hA, hr, hcell, hrd, hrl⟩ := hRw.at_ hlt
        subst hA
        have hji : (j : Int) < (n : Int) := by omega
        have hHw : H ≤ wr.heap.size := by rw [HH.out]; exact hb.size
        have htk := take_succ_get? hr
        have hct := Vi.frs_take hr
        obtain ⟨bx, hbx⟩ : ∃ bx, bx = Vi.frs (rs.take (j + 1)) := ⟨_, rfl⟩
        rw [← hbx] at hct
        have hfl := Vi.fr_len r
        have hxl : bx.length = m + (Vi.fr r).length := by rw [hct, List.length_append, ← hm]
        obtain ⟨rl, hrl2⟩ : ∃ rl, rl = r.length := ⟨_, rfl⟩
        rw [← hrl2] at hcell hrd hrl hfl
        have HTK := hid htk
        have HCT := hid hct
        have HBX := hid hbx
        have HM := hid hm
        have HXL := hid hxl
        have HRL := hid hrl2
        have HSM := hid hsm
        clear hr htk hct hbx hm hxl hRw hrl2 hsm
        by_cases h400 : 400 < rl
        · go_wp2_with fail
          go_ret
          exact ⟨rfl, by rw [← HH.out]; exact hb⟩
        · have hbl : bx.length ≤ 410 * (j + 1) := by have := HXL.out; omega
          go_wp2_with fail
          refine (fAppend_any Ab Ai m cb rl ci _ r bx wr hrb (hrd.more hHw) (by omega) (by omega) HCT.out).mono ?_
          rintro e w2 ⟨v, rfl, hv, hb2⟩
          have hen2 := owned_later hen hb2
          have hs2 := hb2.size
          obtain ⟨A1, c1, rfl, g1, g2⟩ := owned_slice hv
          have HV := hid hv
          have HEN := hid hen
          have HEN2 := hid hen2
          clear hv hen hen2 hrb hrd
          go_wp2_with (at_builtin; refine stop_ (fun Ps hPs => ?_))
          refine hPs ?_
          clear hPs Ps
          refine wpList_app1 T37 (.tmp 46) (.tmp 49) rfl rfl HEN2.out rfl rfl rfl (by simp [Value.oneCell']) (by omega) (by omega) fun en' w3 hen3 hg hat => ?_
          have hv3 := owned_gb HV.out hg fun g hg1 he => by have := (HV.out.lt g hg1).1; have := (HEN.out.lt g he.symm).2; omega
          have hb3 : Below H w w3 := below_append (hb.trans (hb2.mono (by omega))) HEN2.out hg (by omega)
          have hr3 := Rd.of_own hv3
          have HEN3 := hid hen3
          clear hg hat hen3 hv3 HEN2 HEN HV
          go_wp2_with fail
          go_roundg (n - (j + 1))
          case measure => omega
          case rel =>
            refine ⟨j + 1, bx.length, c1, A1, by omega, rfl, by go_num, rfl, g1, by rw [HBX.out], hbl, g2, by rw [← HBX.out]; exact hr3, ?_, ?_, hb3⟩
            · rw [ends9_succ, ← HBX.out]
              exact HEN3.out
            · intro q hq
              rw [HTK.out, List.mem_append, List.mem_singleton] at hq
              rcases hq with hq | rfl
              · exact HSM.out q hq
              · have := HRL.out; omega
      · obtain rfl : j = n := by omega
        have htk : rs.take j = rs := List.take_of_length_le (Nat.le_of_eq HL.out)
        rw [htk] at hrb hm hsm
        obtain ⟨bs, hbs⟩ : ∃ bs, bs = Vi.frs rs := ⟨_, rfl⟩
        rw [← hbs] at hrb hm
        subst hm
        have HSM : Hid (∀ r ∈ rs, r.length ≤ 131072) := fun r hr => by have := hsm r hr; omega
        have HBS := hid hbs
        obtain ⟨Ae, ce, rfl, g1, g2⟩ := owned_slice hen
        have hre := Rd.of_own hen
        clear htk hlt hbs hen hj hsm
        have hk1 := pk_lt cut (bs.length + 1) (by omega)
        go_wp2_with fail
        refine (pick_as cut _ (bs.length + 1) _ (by omega) (by omega) (by omega) h1 h2).mono ?_
        rintro e w2 ⟨rfl, rfl⟩
        generalize pk cut (bs.length + 1) = kk at hk1 ⊢
        obtain ⟨wf, hwf⟩ : ∃ wf, wf = wr := ⟨_, rfl⟩
        rw [← hwf] at hrb hre hb hRw ⊢
        clear hwf
        go_wp2_with fail
        go_loopg [11, 12] j (fun g i at_ wr' => ∃ p a : Nat, p ≤ j ∧ g = j - p ∧ i = .int .i64 p ∧ at_ = .int .i64 a ∧ a = (Vi.frs (rs.take p)).length ∧ a ≤ kk ∧ wr' = wf)
        case atStart => exact ⟨0, 0, by omega, rfl, rfl, rfl, rfl, by omega, rfl⟩
        case round =>
          obtain ⟨p, a, hp, rfl, rfl, rfl, ha, hak, hwr⟩ := hrel
          subst hwr
          obtain ⟨nx, hnx⟩ : ∃ nx, nx = (Vi.frs (rs.take (p + 1))).length := ⟨_, rfl⟩
          have HNX := hid hnx
          have HA := hid ha
          have hcases : (p < j ∧ nx ≤ kk) ∨ (p < j ∧ kk < nx) ∨ p = j := by omega
          have hce : p < j → ∃ be offe, Ae = some ⟨be, offe, none⟩ ∧ wr.cell? ⟨be, offe + p, none⟩ = some (.int .i64 (nx : Int)) := by
            intro hlt
            obtain ⟨be, offe, ue, hAe, hbe, hue, hce⟩ := hre.at_ hlt
            rw [ends9_get rs p j hlt, ← hnx] at hue
            obtain rfl := Option.some.inj hue
            exact ⟨be, offe, hAe, hce⟩
          clear hnx ha
          rcases hcases with ⟨hlt, hnk⟩ | hstop
          · obtain ⟨be, offe, rfl, hcell⟩ := hce hlt
            have hpi : (p : Int) < (j : Int) := by omega
            have hnki : (nx : Int) ≤ (kk : Int) := by omega
            clear hce
            go_wp2_with fail
            go_roundg (j - (p + 1))
            case measure => omega
            case rel => exact ⟨p + 1, nx, by omega, rfl, by go_num, rfl, HNX.out, hnk, rfl⟩
          · have hsc : Vi.scan (bs.take kk) = (rs.take p, a) := by
              rw [HBS.out, HA.out]
              refine Vi.scan_torn rs kk p HSM.out (by rw [← HA.out]; exact hak) ?_
              rw [← HNX.out, HL.out]
              omega
            have hsw : Vi.scan bs = (rs, bs.length) := by rw [HBS.out]; exact Vi.scan_whole rs HSM.out
            have HSC := hid hsc
            have HSW := hid hsw
            have htake := hrb.take (show kk ≤ bs.length by omega)
            rw [Nat.mul_one, bts_take] at htake
            clear hsc hsw
            rcases hstop with ⟨hlt, hnk⟩ | hpj
            all_goals
              try (obtain ⟨be, offe, rfl, hcell⟩ := hce hlt; have hpi : (p : Int) < (j : Int) := (by omega); have hnki : (kk : Int) < (nx : Int) := (by omega))
              try obtain rfl := hpj
              clear hce
              go_wp2_with fail
              refine (scan_as Ab kk cb _ (rs.take p, a) _ HSC.out htake (by omega) (by omega) hcb).mono ?_
              rintro e w3 ⟨v3, vs3, rfl, hrec3, hb3⟩
              obtain ⟨A3, c3, hv3, g3, g4⟩ := owned_slice hrec3.out
              have hlp : (rs.take p).length = p := by rw [List.length_take, HL.out]; omega
              rw [show ((rs.take p, a) : List (List UInt8) × Nat).1.length = p from hlp] at hv3
              subst hv3
              have hR3 := hrec3.reads.2
              have hrb3 := (hrb.below hb3).more hb3.size
              have HR3 := hid hR3
              clear hR3 hrec3 htake hrb
              go_wp2_with fail
              refine (scan_as Ab bs.length cb bs (rs, bs.length) _ HSW.out hrb3 (by omega) (by omega) hcb).mono ?_
              rintro e w4 ⟨v4, vs4, rfl, hrec4, hb4⟩
              obtain ⟨A4, c4, hv4, g5, g6⟩ := owned_slice hrec4.out
              rw [show ((rs, bs.length) : List (List UInt8) × Nat).1.length = _ from HL.out] at hv4
              subst hv4
              have hR4 := hrec4.reads.2
              have b34 := bst hb3 hb4
              have b04 := hb.trans (b34.mono (by rw [HH.out]; exact hb.size))
              have hA4 := h.below b04
              have hT4 := hA4.take hp
              have k3 := HR3.out.below hb4
              have HK3 := hid k3
              have HK4 := hid hR4
              have HA4 := hid hA4
              have HT4 := hid hT4
              have hpc : (p : Int) ≤ (c : Int) := by omega
              have haa : ((a : Int) == (a : Int)) = true := by simp
              have hbb : ((bs.length : Int) == (bs.length : Int)) = true := by simp
              clear k3 hR4 hA4 hT4 hrec4 hrb3
              go_wp2_with fail
              refine (records_self _ _ p _ p _ _ _ _ _ (rs.take p) _ HK3.out HT4.out (by omega) (by omega)).mono ?_
              rintro e w5 ⟨rfl, d, rfl⟩
              go_wp2_with fail
              refine (records_self _ _ _ _ _ _ _ _ _ _ rs _ (HK4.out.drewN d) (HA4.out.drewN d) (by have := HL.out; omega) (by omega)).mono ?_
              rintro e w6 ⟨rfl, d2, rfl⟩
              go_wp2_with fail
              go_ret
              exact ⟨rfl, by rw [← HH.out]; exact below_drewN b04 (d + d2)⟩
end Go.Proofs.Ythihhmmpkbdmnaa
