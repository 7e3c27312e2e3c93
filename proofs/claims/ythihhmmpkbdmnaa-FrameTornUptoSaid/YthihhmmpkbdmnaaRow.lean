/- The statement VarintRow: the walk through its own text. -/
import Derived.Test.YthihhmmpkbdmnaaLaw2
import Derived.Test.YthihhmmpkbdmnaaOpen
namespace Go.Proofs.Ythihhmmpkbdmnaa
open Go.RowKit Go.Lg

/-- A number from 0 on, below m, that any number says. -/
def pk (x : Int) (m : Nat) : Nat := (x % (m : Int)).toNat
theorem pk_lt (x : Int) (m : Nat) (h : 0 < m) : pk x m < m := by
  unfold pk
  have := Int.emod_nonneg x (show (m : Int) ≠ 0 by omega)
  have := Int.emod_lt_of_pos x (show (0 : Int) < (m : Int) by omega)
  omega

set_option maxHeartbeats 400000 in
set_option maxRecDepth 100000 in
theorem pick_any (x : Int) (m : Nat) (w : World) (hm : 0 < m) (hm2 : m ≤ 4611686018427387904) (hx1 : -9223372036854775808 ≤ x) (hx2 : x ≤ 9223372036854775807) :
    Calls Try.prog 24 #[.int .i64 x, .int .i64 m] w fun e w' => e = .returned (.int .i64 (pk x m)) ∧ w = w' := by
  have hm1 : (1 : Int) ≤ (m : Int) := by omega
  have e1 := Int.emod_nonneg x (show (m : Int) ≠ 0 by omega)
  have e2 := Int.emod_lt_of_pos x (show (0 : Int) < (m : Int) by omega)
  have e3 : ((pk x m : Nat) : Int) = x % (m : Int) := by unfold pk; omega
  have E3 := hid e3
  by_cases h0 : 0 ≤ x
  · clear e3
    go_enter Try.func24, Try.ntmps24
    go_wp2_with fail
    go_ret
    exact ⟨rd_int (by rw [E3.out]), rfl⟩
  · have e4 : x.tmod (m : Int) = x % (m : Int) ∨ x.tmod (m : Int) = x % (m : Int) - (m : Int) := by
      rw [Int.tmod_eq_emod]
      split
      · left; simp
      · right; simp
    by_cases h1 : x.tmod (m : Int) < 0
    · have b1 : -(m : Int) < x.tmod (m : Int) + 1 := by omega
      have fin : x.tmod (m : Int) + (m : Int) = ((pk x m : Nat) : Int) := by omega
      have FIN := hid fin
      clear e3 e4 fin
      go_enter Try.func24, Try.ntmps24
      go_wp2_with fail
      go_ret
      exact ⟨rd_int FIN.out, rfl⟩
    · have b1 : x.tmod (m : Int) < (m : Int) := by omega
      have fin : x.tmod (m : Int) = ((pk x m : Nat) : Int) := by omega
      have FIN := hid fin
      clear e3 e4 fin
      go_enter Try.func24, Try.ntmps24
      go_wp2_with fail
      go_ret
      exact ⟨rd_int FIN.out, rfl⟩

/-- The numbers' bytes, one behind the other. -/
def cat (l : List Nat) : List UInt8 := l.flatMap Vi.enc
theorem cat_snoc (l : List Nat) (x : Nat) : cat (l ++ [x]) = cat l ++ Vi.enc x := by simp [cat]
theorem cat_cons (l : List Nat) (x : Nat) : cat (x :: l) = Vi.enc x ++ cat l := by simp [cat]
theorem cat_split {l : List Nat} {j x : Nat} (h : l[j]? = some x) : cat l = cat (l.take j) ++ (Vi.enc x ++ cat (l.drop (j + 1))) := by
  obtain ⟨a, b, rfl, rfl⟩ := split_at h
  rw [List.take_left, List.drop_append, show a.length + 1 - a.length = 1 by omega, List.drop_eq_nil_of_le (by omega)]
  simp [cat]
theorem cat_take {l : List Nat} {j x : Nat} (h : l[j]? = some x) : cat (l.take (j + 1)) = cat (l.take j) ++ Vi.enc x := by
  rw [take_succ_get? h, cat_snoc]
theorem cat_le (l : List Nat) : (cat l).length ≤ 10 * l.length := by
  induction l with
  | nil => simp [cat]
  | cons x l ih =>
    have := Vi.encF_len_le 9 x
    rw [cat_cons, List.length_append, List.length_cons]
    unfold Vi.enc
    omega
theorem cat_mono {l : List Nat} {j x : Nat} (h : l[j]? = some x) : (cat (l.take (j + 1))).length ≤ (cat l).length := by
  rw [cat_split h, cat_take h]; simp

/-- What the third loop reads at a number. -/
theorem cat_read {l : List Nat} {j x k : Nat} (h : l[j]? = some x) (hx : x < 2 ^ 64) (hat : (cat (l.take j)).length ≤ k) :
    Vi.dec 0 0 (((cat l).take k).drop (cat (l.take j)).length) = if (cat (l.take (j + 1))).length ≤ k then (x, (Vi.enc x).length, 0) else (0, 0, 5) := by
  have e : ((cat l).take k).drop (cat (l.take j)).length = (Vi.enc x ++ cat (l.drop (j + 1))).take (k - (cat (l.take j)).length) := by
    rw [cat_split h, List.take_append, List.take_of_length_le hat, List.drop_left]
  rw [e, cat_take h, List.length_append]
  split
  · rename_i hle
    rw [List.take_append, List.take_of_length_le (by omega)]
    exact Vi.dec_enc x _ hx
  · rename_i hle
    rw [List.take_append_of_le_length (by omega)]
    exact Vi.dec_enc_cut x _ hx (by omega)

def u64s (l : List Nat) : List Value := l.map fun (x : Nat) => Value.int .u64 (x : Int)
/-- Where the numbers' bytes end. -/
def ends (l : List Nat) (j : Nat) : List Value := (List.range j).map fun i => Value.int .i64 ((cat (l.take (i + 1))).length : Int)
theorem ends_succ (l : List Nat) (j : Nat) : ends l (j + 1) = ends l j ++ [Value.int .i64 ((cat (l.take (j + 1))).length : Int)] := by simp [ends, List.range_succ]
theorem ends_get (l : List Nat) (j n : Nat) (h : j < n) : (ends l n)[j]? = some (Value.int .i64 ((cat (l.take (j + 1))).length : Int)) := by simp [ends, h]
theorem ends_one (l : List Nat) (j : Nat) : ∀ u ∈ ends l j, u.oneCell' = true := by
  intro u hu
  obtain ⟨_, _, rfl⟩ := List.mem_map.1 hu
  rfl
theorem ends_length (l : List Nat) (j : Nat) : (ends l j).length = j := by simp [ends]

theorem pick_as (x mi : Int) (m : Nat) (w : World) (hmi : mi = (m : Int)) (hm : 0 < m) (hm2 : m ≤ 4611686018427387904) (hx1 : -9223372036854775808 ≤ x) (hx2 : x ≤ 9223372036854775807) :
    Calls Try.prog 24 #[.int .i64 x, .int .i64 mi] w fun e w' => e = .returned (.int .i64 (pk x m)) ∧ w = w' := hmi ▸ pick_any x m w hm hm2 hx1 hx2

theorem T37 : SlT Try.prog 37 3 1 8 := SlT.mk' (.int .i64 0) Try.underlying37 (by kernel_rfl) rfl (by decide) (by decide)

theorem u64_at {w : World} {B n : Nat} {A : Option Addr} {l : List Nat} {j : Nat} (h : Rd w B 1 A n (u64s l)) (hj : j < n) :
    ∃ b off x, A = some ⟨b, off, none⟩ ∧ b < B ∧ l[j]? = some x ∧ w.cell? ⟨b, off + j, none⟩ = some (.int .u64 (x : Int)) := by
  obtain ⟨b, off, u, h1, h2, h3, h4⟩ := h.at_ hj
  simp only [u64s, List.getElem?_map, Option.map_eq_some_iff] at h3
  obtain ⟨x, h5, rfl⟩ := h3
  exact ⟨b, off, x, h1, h2, h5, h4⟩

set_option maxHeartbeats 800000 in
set_option maxRecDepth 100000 in
theorem row_walk (A : Option Addr) (n c : Nat) (l : List Nat) (cut : Int) (w : World) (h : Rd w w.heap.size 1 A n (u64s l)) (hfit : ∀ x ∈ l, x < 2 ^ 64) (hn : n ≤ 9223372036854775807) (h1 : -9223372036854775808 ≤ cut) (h2 : cut ≤ 9223372036854775807) :
    Calls Try.prog 5 #[.slice A n c, .int .i64 cut] w fun e w' => e = .returned (.bool true) ∧ Below w.heap.size w w' := by
  have hl : l.length = n := by have := h.1; simpa [u64s] using this
  have HL := hid hl
  have HF := hid hfit
  clear hl hfit
  go_enter Try.func5, Try.ntmps5
  go_wp2_with fail
  refine (lives_any w).mono ?_
  rintro e w1 ⟨rfl, hb1⟩
  by_cases h200 : 200 < n
  · go_wp2_with fail
    go_ret
    exact ⟨rfl, hb1⟩
  · have h' := h.below hb1
    obtain ⟨H, hH⟩ : ∃ H, H = w.heap.size := ⟨_, rfl⟩
    have HH := hid hH
    have hsz := hb1.size
    rw [← hH] at h' hsz hb1
    clear hH h
    go_wp2_with fail
    go_loopg [5, 6, 7] n (fun k b en i wr => ∃ (j m cb : Nat) (Ab : Option Addr), j ≤ n ∧ k = n - j ∧ i = .int .i64 j ∧ b = .slice Ab m cb ∧ m ≤ cb ∧ m = (cat (l.take j)).length ∧ cb ≤ maxLen ∧ Rd wr wr.heap.size 1 Ab m (bts (cat (l.take j))) ∧
      wr.ownsRow H 3 1 en j (ends l j) ∧ Below H w wr)
    case atStart => exact ⟨0, 0, 0, none, by omega, rfl, rfl, rfl, by omega, rfl, by simp [maxLen], Rd.nil_, World.ownsRow_nil _ _ _ _, hb1⟩
    case round =>
      obtain ⟨j, m, cb, Ab, hj, rfl, rfl, rfl, hmc, hm, hcb, hrb, hen, hb⟩ := hrel
      have hm10 : m ≤ 2000 := by have := cat_le (l.take j); have := List.length_take_le j l; have := HL.out; omega
      by_cases hlt : j < n
      · have hrl := h'.keep (w' := wr) fun p hp => (hb.cell hp).trans (hb1.cell hp).symm
        obtain ⟨b, off, x, rfl, hbb, hx, hc⟩ := u64_at hrl hlt
        have hxf := HF.out x (List.mem_of_getElem? hx)
        have hct := cat_take hx
        obtain ⟨bx, hbx⟩ : ∃ bx, bx = cat (l.take (j + 1)) := ⟨_, rfl⟩
        rw [← hbx] at hct
        have hbl : bx.length ≤ 2010 := by
          rw [hct, List.length_append]
          have := Vi.encF_len_le 9 x
          unfold Vi.enc
          omega
        have HX := hid hx
        have HXF := hid hxf
        have HCT := hid hct
        have HBX := hid hbx
        have HM := hid hm
        clear hx hxf hct hbx hm hrl
        go_wp2_with fail
        refine (append_as Ab m cb _ bx x wr HCT.out hrb (by omega) HXF.out).mono ?_
        rintro e w2 ⟨v, rfl, hv, hb2⟩
        have hen2 := owned_later hen hb2
        have hs0 := hb.size
        have hs2 := hb2.size
        obtain ⟨A1, c1, rfl, g1, g2⟩ := owned_slice hv
        have HV := hid hv
        have HEN := hid hen
        have HEN2 := hid hen2
        have hHw : H ≤ wr.heap.size := by rw [HH.out]; exact hs0
        clear hv hen hen2
        go_wp2_with (at_builtin; refine stop_ (fun Ps hPs => ?_))
        refine hPs ?_
        clear hPs Ps
        refine wpList_app1 T37 (.tmp 33) (.tmp 36) rfl rfl HEN2.out rfl rfl rfl (by simp [Value.oneCell']) (by omega) (by omega) fun en' w3 hen3 hg hat => ?_
        have hv3 := owned_gb HV.out hg fun g hg1 he => by have := (HV.out.lt g hg1).1; have := (HEN.out.lt g he.symm).2; omega
        have hb3 : Below H w w3 := below_append (hb.trans (hb2.mono (by omega))) HEN2.out hg (by omega)
        have hr3 := Rd.of_own hv3
        have HEN3 := hid hen3
        clear hg hat hen3 hv3 HEN2 HEN HV
        go_wp2_with fail
        go_roundg (n - (j + 1))
        case measure => omega
        case rel =>
          refine ⟨j + 1, bx.length, c1, A1, by omega, rfl, by go_num, rfl, g1, by rw [HBX.out], g2, by rw [← HBX.out]; exact hr3, ?_, hb3⟩
          rw [ends_succ, ← HBX.out]
          exact HEN3.out
      · obtain rfl : j = n := by omega
        have htk : l.take j = l := List.take_of_length_le (Nat.le_of_eq HL.out)
        rw [htk] at hrb hm
        obtain ⟨bs, hbs⟩ : ∃ bs, bs = cat l := ⟨_, rfl⟩
        rw [← hbs] at hrb hm
        subst hm
        obtain ⟨wf, hwf⟩ : ∃ wf, wf = wr := ⟨_, rfl⟩
        rw [← hwf] at hrb hen hb ⊢
        have hrl := h'.keep (w' := wf) fun p hp => (hb.cell hp).trans (hb1.cell hp).symm
        have HBS := hid hbs
        obtain ⟨Ae, ce, rfl, g1, g2⟩ := owned_slice hen
        have hre := Rd.of_own hen
        clear hwf hbs htk hlt h' hb1 hsz hen hj
        go_wp2_with fail
        go_loopg [8, 9] j (fun k s i wr => ∃ q : Nat, q ≤ j ∧ k = j - q ∧ i = .int .i64 q ∧ s = .int .i64 (cat (l.take q)).length ∧ wr = wf)
        case atStart => exact ⟨0, by omega, rfl, rfl, rfl, rfl⟩
        case round =>
          obtain ⟨q, hq, rfl, rfl, rfl, hwr⟩ := hrel
          subst hwr
          by_cases hlt : q < j
          · obtain ⟨b, off, x, rfl, hbb, hx, hc⟩ := u64_at hrl hlt
            have hxf := HF.out x (List.mem_of_getElem? hx)
            have hct := congrArg List.length (cat_take hx)
            rw [List.length_append] at hct
            have h10 : (cat (l.take q)).length ≤ 2000 := by have := cat_le (l.take q); have := List.length_take_le q l; omega
            have h11 : (Vi.enc x).length ≤ 10 := Vi.encF_len_le 9 x
            have HXF := hid hxf
            have HCT := hid hct
            clear hx hxf hct hrl
            go_wp2_with fail
            refine (size_as x _ _ HXF.out rfl).mono ?_
            rintro e w2 ⟨rfl, rfl⟩
            go_wp2_with fail
            go_roundg (j - (q + 1))
            case measure => omega
            case rel => exact ⟨q + 1, by omega, rfl, by go_num, by rw [HCT.out]; go_num, rfl⟩
          · obtain rfl : q = j := by omega
            have htk : l.take q = l := List.take_of_length_le (Nat.le_of_eq HL.out)
            rw [htk, ← HBS.out]
            clear htk hlt hq
            have hk1 := pk_lt cut (bs.length + 1) (by omega)
            go_wp2_with fail
            refine (pick_as cut _ (bs.length + 1) _ (by omega) (by omega) (by omega) h1 h2).mono ?_
            rintro e w2 ⟨rfl, rfl⟩
            generalize pk cut (bs.length + 1) = kk at hk1 ⊢
            go_wp2_with fail
            go_loopg [11, 12] q (fun g at_ i wr' => ∃ p a : Nat, p ≤ q ∧ g = q - p ∧ i = .int .i64 p ∧ at_ = .int .i64 a ∧ a = (cat (l.take p)).length ∧ a ≤ kk ∧ wr' = wr)
            case atStart => exact ⟨0, 0, by omega, rfl, rfl, rfl, rfl, by omega, rfl⟩
            case round =>
              obtain ⟨p, a, hp, rfl, rfl, rfl, ha, hak, hwr⟩ := hrel
              subst hwr
              by_cases hlt : p < q
              · obtain ⟨b, off, x, rfl, hbb, hx, hc⟩ := u64_at hrl hlt
                have hxf := HF.out x (List.mem_of_getElem? hx)
                have hrd := cat_read (k := kk) hx hxf (by rw [← ha]; exact hak)
                have hcm := cat_mono hx
                have hct := congrArg List.length (cat_take hx)
                rw [List.length_append, ← ha] at hct
                rw [← ha, ← HBS.out] at hrd
                rw [← HBS.out] at hcm
                obtain ⟨be, offe, ue, hAe, hbe, hue, hce⟩ := hre.at_ hlt
                rw [ends_get l p q hlt] at hue
                obtain rfl := Option.some.inj hue
                subst hAe
                obtain ⟨nx, hnx⟩ : ∃ nx, nx = (cat (l.take (p + 1))).length := ⟨_, rfl⟩
                rw [← hnx] at hrd hct hcm hce
                have hslice := (hrb.take (show kk ≤ bs.length by omega)).drop (k := a) (cap := cb) hak (by omega)
                rw [Nat.mul_one, Nat.mul_one, bts_take, bts_drop] at hslice
                have HRD := hid hrd
                have HCT := hid hct
                have HNX := hid hnx
                have HHA := hid ha
                clear hx hxf hrd hct hnx ha hue hrb hrl
                have hlen : (Vi.enc x).length ≤ 10 := Vi.encF_len_le 9 x
                have hsum : (((a : Int) + ((Vi.enc x).length : Int)) != (nx : Int)) = false := by
                  have := HCT.out
                  simp only [bne_eq_false_iff_eq]; omega
                have hxx : ((x : Int) != (x : Int)) = false := by simp
                have hpi : (p : Int) < (q : Int) := by omega
                by_cases hnk : nx ≤ kk
                · have hd := HRD.out
                  rw [if_pos hnk] at hd
                  have HD := hid hd
                  clear hd
                  have hnki : (nx : Int) ≤ (kk : Int) := by omega
                  by_cases hca : cb = a
                  all_goals
                    first | rw [if_pos hca] at hslice | rw [if_neg hca] at hslice
                    try subst hca
                    go_wp2_with fail
                    refine (read_at _ _ _ _ _ x (Vi.enc x).length 0 _ hslice (by omega) HD.out).mono ?_
                    rintro e w3 ⟨rfl, rfl⟩
                    clear hslice
                    go_wp2_with fail
                    go_roundg (q - (p + 1))
                  all_goals first | omega | exact ⟨p + 1, nx, by omega, rfl, by go_num, by rw [HCT.out]; go_num, HNX.out, hnk, rfl⟩
                · have hd := HRD.out
                  rw [if_neg hnk] at hd
                  have HD := hid hd
                  clear hd
                  have hnki : (kk : Int) < (nx : Int) := by omega
                  by_cases hca : cb = a
                  all_goals
                    first | rw [if_pos hca] at hslice | rw [if_neg hca] at hslice
                    try subst hca
                    go_wp2_with fail
                    refine (read_at _ _ _ _ _ 0 0 5 _ hslice (by omega) HD.out).mono ?_
                    rintro e w3 ⟨rfl, rfl⟩
                    clear hslice
                    go_wp2_with fail
                    go_ret
                    exact ⟨rfl, by rw [← HH.out]; exact hb⟩
              · obtain rfl : p = q := by omega
                have htk : l.take p = l := List.take_of_length_le (Nat.le_of_eq HL.out)
                rw [htk, ← HBS.out] at ha
                subst ha
                go_wp2_with fail
                go_ret
                exact ⟨rfl, by rw [← HH.out]; exact hb⟩

theorem u64s_of {w : World} {B n : Nat} {A : Option Addr} {zs : List Int} (h : Rd w B 1 A n (zs.map (Value.int .u64))) (hwf : ∀ z ∈ zs, (Lit.int .u64 z).wf = true) : Rd w B 1 A n (u64s (zs.map Int.toNat)) := by
  have e : u64s (zs.map Int.toNat) = zs.map (Value.int .u64) := by
    simp only [u64s, List.map_map]
    refine List.map_congr_left fun z hz => ?_
    have := u64_wf (hwf z hz)
    simp only [Function.comp]
    congr 1
    omega
  rw [e]; exact h
theorem u64s_fit {zs : List Int} (hwf : ∀ z ∈ zs, (Lit.int .u64 z).wf = true) : ∀ x ∈ zs.map Int.toNat, x < 2 ^ 64 := by
  intro x hx
  obtain ⟨z, hz, rfl⟩ := List.mem_map.1 hx
  have := u64_wf (hwf z hz)
  omega
end Go.Proofs.Ythihhmmpkbdmnaa
