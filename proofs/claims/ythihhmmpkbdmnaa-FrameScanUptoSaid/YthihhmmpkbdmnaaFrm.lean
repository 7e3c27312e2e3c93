/- The walks through frames: one record. -/
import Derived.Test.YthihhmmpkbdmnaaLaw2
import Derived.Test.YthihhmmpkbdmnaaFrame
namespace Go.Proofs.Ythihhmmpkbdmnaa
open Go.RowKit Go.Lg
set_option linter.unusedVariables false
set_option linter.unusedSimpArgs false

set_option maxHeartbeats 400000 in
set_option maxRecDepth 100000 in
theorem clone_any (A : Option Addr) (n c : Nat) (l : List UInt8) (w : World) (h : Rd w w.heap.size 1 A n (bts l)) (hn : n ≤ 140737488355000) :
    Calls Try.prog 40 #[.slice A n c] w (Fresh w l) := by
  have hl := h.1
  rw [bts_length, Nat.mul_one] at hl
  have HL := hid hl
  clear hl
  cases A with
  | none =>
    have h0 : n = 0 := by
      rcases Nat.eq_zero_or_pos n with q | q
      · exact q
      · obtain ⟨b, off, q2, _⟩ := h.2 q; cases q2
    subst h0
    have hnil : l = [] := List.eq_nil_of_length_eq_zero HL.out
    subst hnil
    have q := fun w => Lib.run_eql_slice_nil (P := Try.prog) w 22 5 none 0 c 0 0 Try.underlying22
    go_enter Try.func40, Try.ntmps40
    go_wp2_with fail
    go_ret
    exact ⟨_, rfl, World.ownsRow_nil _ _ _ _, Below.refl _ _⟩
  | some a =>
    have q := fun w => Lib.run_eql_slice_nil (P := Try.prog) w 22 5 (some a) n c 0 0 Try.underlying22
    go_enter Try.func40, Try.ntmps40
    go_wp2_with (at_builtin; refine stop_ (fun Ps hPs => ?_))
    refine hPs ?_
    clear hPs Ps
    refine wpList_app T22 (.tmp 5) (.tmp 6) rfl rfl (World.ownsRow_lit w #[] 0 (Nat.le_refl _) (Nat.zero_le _) rfl) rfl (h.alloc (Nat.le_refl _) _) rfl (bts_one l) (by omega) (by simp) fun v1 w1 hown hg hat => ?_
    have hb : Below w.heap.size w w1 := ((Below.refl _ _).alloc (Nat.le_refl _) _).grown hg (by simp) (by intro k hk; simp [Value.ownBlock] at hk; omega)
    go_wp2_with fail
    go_ret
    exact ⟨v1, rfl, by rw [HL.out]; simpa using hown, hb⟩

set_option maxHeartbeats 400000 in
set_option maxRecDepth 100000 in
theorem whole_bad (A : Option Addr) (n c B : Nat) (l : List UInt8) (k m e : Nat) (w : World) (h : Rd w B 1 A n (bts l)) (hn : n ≤ 9223372036854775807) (hs : Vi.small 131072 l = (k, m, e)) (hb : e ≠ 0 ∨ n < m + k) (hk : k ≤ 131072) (hm : m ≤ 10) :
    Calls Try.prog 39 #[.slice A n c] w fun e w' => e = .returned (.tuple #[.int .i64 0, .int .i64 0, .bool false]) ∧ w = w' := by
  have HS := hid hs
  clear hs
  go_enter Try.func39, Try.ntmps39
  go_wp2_with fail
  refine (small_at A n c B l 131072 k m e w h hn (by decide) HS.out).mono ?_
  rintro e' w1 ⟨rfl, rfl⟩
  clear h
  by_cases h0 : e = 0
  · subst h0
    have h1 : (((0 : Nat) : Int) != 0) = false := rfl
    have h2 : n < m + k := by omega
    clear hb
    go_wp2_with fail
    go_ret3
    exact ⟨rfl, rfl⟩
  · have h1 : ((e : Int) != 0) = true := by simp; omega
    clear hb
    go_wp2_with fail
    go_ret3
    exact ⟨rfl, rfl⟩

set_option maxHeartbeats 400000 in
set_option maxRecDepth 100000 in
theorem whole_ok (A : Option Addr) (n c B : Nat) (l : List UInt8) (k m t : Nat) (w : World) (h : Rd w B 1 A n (bts l)) (hn : n ≤ 9223372036854775807) (hs : Vi.small 131072 l = (k, m, 0)) (hb : m + k ≤ n) (ht : t = m + k) (hk : k ≤ 131072) (hm : m ≤ 10) :
    Calls Try.prog 39 #[.slice A n c] w fun e w' => e = .returned (.tuple #[.int .i64 m, .int .i64 t, .bool true]) ∧ w = w' := by
  have HS := hid hs
  have HT := hid ht
  clear hs ht
  go_enter Try.func39, Try.ntmps39
  go_wp2_with fail
  refine (small_at A n c B l 131072 k m 0 w h hn (by decide) HS.out).mono ?_
  rintro e' w1 ⟨rfl, rfl⟩
  clear h
  have h1 : (((0 : Nat) : Int) != 0) = false := rfl
  go_wp2_with fail
  go_ret3
  refine ⟨?_, rfl⟩
  rw [HT.out]; rfl

set_option maxHeartbeats 400000 in
set_option maxRecDepth 100000 in
theorem fRead_none (A : Option Addr) (n c B : Nat) (l : List UInt8) (w : World) (h : Rd w B 1 A n (bts l)) (hn : n ≤ 9223372036854775807) (hf : Vi.fread l = none) :
    Calls Try.prog 28 #[.slice A n c] w fun e w' => e = .returned (.tuple #[.slice none 0 0, .int .i64 0, .int .i64 5]) ∧ w = w' := by
  obtain ⟨k, m, e, hs⟩ : ∃ k m e, Vi.small 131072 l = (k, m, e) := ⟨_, _, _, rfl⟩
  have hl : l.length = n := by have := h.1; rw [bts_length] at this; omega
  have hbad : e ≠ 0 ∨ n < m + k := by
    unfold Vi.fread at hf
    split at hf
    · rename_i q; rw [hs] at q; rw [hl] at q; exact q
    · cases hf
  have hkm : k ≤ 131072 ∧ m ≤ 10 := by
    rcases Nat.eq_zero_or_pos e with h0 | h0
    · have h1 := Vi.small_ok (m := 131072) (b := l) (by rw [hs]; exact h0)
      have h2 := Vi.small_len (m := 131072) (b := l) (by rw [hs]; exact h0)
      rw [hs] at h1 h2
      exact ⟨by have := h1.2.2; omega, h2.2.2⟩
    · have h1 := Vi.small_bad (m := 131072) (b := l) (by rw [hs]; show e ≠ 0; omega)
      rw [hs] at h1
      cases h1
      omega
  have HS := hid hs
  clear hs hf hl
  go_enter Try.func28, Try.ntmps28
  go_wp2_with fail
  refine (whole_bad A n c B l k m e w h hn HS.out hbad hkm.1 hkm.2).mono ?_
  rintro e' w1 ⟨rfl, rfl⟩
  clear h
  go_wp2_with fail
  go_ret3
  exact ⟨rfl, rfl⟩

/-- What a reading of a frame tells: its record, in memory of its own, and its length. -/
def FreshAt (w : World) (l : List UInt8) (m : Nat) (e : Ending) (w' : World) : Prop :=
  ∃ v, e = .returned (.tuple #[v, .int .i64 m, .int .i64 0]) ∧ w'.ownsRow w.heap.size 5 1 v l.length (bts l) ∧ Below w.heap.size w w'

set_option maxHeartbeats 400000 in
set_option maxRecDepth 100000 in
theorem fRead_some (A : Option Addr) (n c : Nat) (l r : List UInt8) (t : Nat) (w : World) (h : Rd w w.heap.size 1 A n (bts l)) (hn : n ≤ 140737488355000) (hc : n ≤ c) (hcm : c ≤ maxLen) (hf : Vi.fread l = some (r, t)) :
    Calls Try.prog 28 #[.slice A n c] w (FreshAt w r t) := by
  obtain ⟨k, m, e, hs⟩ : ∃ k m e, Vi.small 131072 l = (k, m, e) := ⟨_, _, _, rfl⟩
  have hl : l.length = n := by have := h.1; rw [bts_length] at this; omega
  unfold Vi.fread at hf
  split at hf
  · cases hf
  · rename_i q
    rw [hs] at q hf
    simp only [Option.some.injEq, Prod.mk.injEq] at hf q
    obtain ⟨hr, ht⟩ := hf
    have he : e = 0 := by
      rcases Nat.eq_zero_or_pos e with h0 | h0
      · exact h0
      · exact absurd (.inl (by omega)) q
    subst he
    have hle : m + k ≤ n := by
      rcases Nat.lt_or_ge n (m + k) with h0 | h0
      · exact absurd (.inr (by omega)) q
      · exact h0
    have h1 := Vi.small_ok (m := 131072) (b := l) (by rw [hs])
    have h2 := Vi.small_len (m := 131072) (b := l) (by rw [hs])
    rw [hs] at h1 h2
    have hk : k ≤ 131072 := by have := h1.2.2; omega
    have hm : m ≤ 10 := h2.2.2
    have htn : t ≤ n := by omega
    have hmt : m ≤ t := by omega
    have hslice := (h.take htn).drop (k := m) (cap := c) hmt (by omega)
    rw [Nat.mul_one, Nat.mul_one, bts_take, bts_drop] at hslice
    have hrr : (l.take t).drop m = r := by rw [List.drop_take, ← hr]; congr 1; omega
    rw [hrr] at hslice
    unfold maxLen at hcm
    have HS := hid hs
    have HT := hid ht.symm
    clear hs ht q hr hl h1 h2 hrr
    go_enter Try.func28, Try.ntmps28
    go_wp2_with fail
    refine (whole_ok A n c _ l k m t w h (by omega) HS.out hle HT.out hk hm).mono ?_
    rintro e' w1 ⟨rfl, rfl⟩
    clear h
    by_cases hca : c = m
    all_goals
      first | rw [if_pos hca] at hslice | rw [if_neg hca] at hslice
      try subst hca
      go_wp2_with fail
      refine (clone_any _ _ _ r w hslice (by omega)).mono ?_
      rintro e w2 ⟨v, rfl, hv, hb⟩
      go_wp2_with fail
      go_ret3
      exact ⟨v, rfl, hv, hb⟩

/-- What framing a record tells. -/
def Framed (w : World) (l : List UInt8) (e : Ending) (w' : World) : Prop :=
  ∃ v, e = .returned (.tuple #[v, .int .i64 0]) ∧ w'.ownsRow w.heap.size 5 1 v l.length (bts l) ∧ Below w.heap.size w w'

set_option maxHeartbeats 400000 in
set_option maxRecDepth 100000 in
theorem fAppend_long (A A' : Option Addr) (n c n' c' : Nat) (w : World) (hn' : n' ≤ 9223372036854775807) (hl : 131072 < n') :
    Calls Try.prog 30 #[.slice A n c, .slice A' n' c'] w fun e w' => e = .returned (.tuple #[.slice none 0 0, .int .i64 3]) ∧ w = w' := by
  go_enter Try.func30, Try.ntmps30
  go_wp2_with fail
  go_ret2
  exact ⟨rfl, rfl⟩

set_option maxHeartbeats 400000 in
set_option maxRecDepth 100000 in
theorem fAppend_any (A A' : Option Addr) (n c n' c' : Nat) (b r out : List UInt8) (w : World) (h : Rd w w.heap.size 1 A n (bts b)) (h' : Rd w w.heap.size 1 A' n' (bts r)) (hn : n ≤ 140737488000000) (hn' : n' ≤ 131072) (hout : out = b ++ Vi.fr r) :
    Calls Try.prog 30 #[.slice A n c, .slice A' n' c'] w (Framed w out) := by
  have hl : r.length = n' := by have := h'.1; rw [bts_length] at this; omega
  have hbl : b.length = n := by have := h.1; rw [bts_length] at this; omega
  obtain ⟨bx, hbx⟩ : ∃ bx, bx = b ++ Vi.enc n' := ⟨_, rfl⟩
  have hxl : bx.length ≤ n + 10 := by
    rw [hbx, List.length_append]
    have := Vi.encF_len_le 9 n'
    unfold Vi.enc
    omega
  have hox : bx ++ r = out := by rw [hbx, hout, ← hl, Vi.fr, List.append_assoc]
  have HBX := hid hbx
  have HOX := hid hox
  have HOL : Hid (bx.length + n' = out.length) := by
    have := congrArg List.length hox
    rw [List.length_append, hl] at this
    exact this
  clear hbx hox hl hbl hout
  go_enter Try.func30, Try.ntmps30
  go_wp2_with fail
  refine (append_as A n c b bx n' w HBX.out h (by omega) (by omega)).mono ?_
  rintro e w1 ⟨v, rfl, hv, hb⟩
  have h1 := h'.below hb
  have hs := hb.size
  have HV := hid hv
  clear hv h h'
  go_wp2_with (at_builtin; refine stop_ (fun Ps hPs => ?_))
  refine hPs ?_
  clear hPs Ps
  refine wpList_app T22 (.tmp 13) (.tmp 14) rfl rfl HV.out rfl h1 rfl (bts_one r) (by omega) hs fun v2 w2 hv2 hg hat => ?_
  have hb2 : Below w.heap.size w w2 := below_append hb HV.out hg hs
  rw [← bts_append, HOX.out, HOL.out] at hv2
  clear hg hat h1
  have HV2 := hid hv2
  clear hv2
  go_wp2_with fail
  go_ret2
  exact ⟨v2, rfl, HV2.out, hb2⟩

set_option maxHeartbeats 400000 in
set_option maxRecDepth 100000 in
theorem put_any (A : Option Addr) (n c m : Nat) (b r : List UInt8) (w : World) (h : Rd w w.heap.size 1 A n (bts b)) (hn : n ≤ 140737488354000) (hm : m ≤ 131072) (hr : r = b ++ Vi.enc m) :
    Calls Try.prog 41 #[.slice A n c, .int .i64 m] w (Fresh w r) := by
  go_enter Try.func41, Try.ntmps41
  go_wp2_with fail
  refine (refAppend_as A n c b r m w hr h hn (by omega)).mono ?_
  rintro e w1 ⟨v, rfl, hv, hb⟩
  go_wp2_with fail
  go_ret
  exact ⟨v, rfl, hv, hb⟩

set_option maxHeartbeats 400000 in
set_option maxRecDepth 100000 in
theorem rAppend_long (A A' : Option Addr) (n c n' c' : Nat) (w : World) (hn' : n' ≤ 9223372036854775807) (hl : 131072 < n') :
    Calls Try.prog 32 #[.slice A n c, .slice A' n' c'] w fun e w' => e = .returned (.tuple #[.slice none 0 0, .int .i64 3]) ∧ w = w' := by
  go_enter Try.func32, Try.ntmps32
  go_wp2_with fail
  go_ret2
  exact ⟨rfl, rfl⟩

set_option maxHeartbeats 400000 in
set_option maxRecDepth 100000 in
theorem rAppend_any (A A' : Option Addr) (n c n' c' : Nat) (b r out : List UInt8) (w : World) (h : Rd w w.heap.size 1 A n (bts b)) (h' : Rd w w.heap.size 1 A' n' (bts r)) (hn : n ≤ 140737488000000) (hn' : n' ≤ 131072) (hout : out = b ++ Vi.fr r) :
    Calls Try.prog 32 #[.slice A n c, .slice A' n' c'] w (Framed w out) := by
  have hl : r.length = n' := by have := h'.1; rw [bts_length] at this; omega
  have hbl : b.length = n := by have := h.1; rw [bts_length] at this; omega
  obtain ⟨bx, hbx⟩ : ∃ bx, bx = b ++ Vi.enc n' := ⟨_, rfl⟩
  have hxl : bx.length ≤ n + 10 := by
    rw [hbx, List.length_append]
    have := Vi.encF_len_le 9 n'
    unfold Vi.enc
    omega
  have hox : bx ++ r = out := by rw [hbx, hout, ← hl, Vi.fr, List.append_assoc]
  have HBX := hid hbx
  have HOX := hid hox
  have HOL : Hid (bx.length + n' = out.length) := by
    have := congrArg List.length hox
    rw [List.length_append, hl] at this
    exact this
  clear hbx hox hl hbl hout
  go_enter Try.func32, Try.ntmps32
  go_wp2_with fail
  refine (put_any A n c n' b bx w h (by omega) (by omega) HBX.out).mono ?_
  rintro e w1 ⟨v, rfl, hv, hb⟩
  have h1 := h'.below hb
  have hs := hb.size
  have HV := hid hv
  clear hv h h'
  go_wp2_with (at_builtin; refine stop_ (fun Ps hPs => ?_))
  refine hPs ?_
  clear hPs Ps
  refine wpList_app T22 (.tmp 14) (.tmp 15) rfl rfl HV.out rfl h1 rfl (bts_one r) (by omega) hs fun v2 w2 hv2 hg hat => ?_
  have hb2 : Below w.heap.size w w2 := below_append hb HV.out hg hs
  rw [← bts_append, HOX.out, HOL.out] at hv2
  clear hg hat h1
  have HV2 := hid hv2
  clear hv2
  go_wp2_with fail
  go_ret2
  exact ⟨v2, rfl, HV2.out, hb2⟩

/-- Records: a slice whose cells are slices that read as bytes. -/
def RR (w : World) (B : Nat) (A : Option Addr) (n : Nat) (vs : List Value) (rs : List (List UInt8)) : Prop :=
  Rd w B 1 A n vs ∧ rs.length = n ∧ ∀ (i : Nat) u r, vs[i]? = some u → rs[i]? = some r → ∃ Ai ci, u = .slice Ai r.length ci ∧ Rd w B 1 Ai r.length (bts r) ∧ r.length ≤ 9223372036854775807

set_option maxHeartbeats 400000 in
set_option maxRecDepth 100000 in
theorem records_any (A A' : Option Addr) (n c n' c' B B' : Nat) (vs vs' : List Value) (rs rs' : List (List UInt8)) (w : World) (h : RR w B A n vs rs) (h' : RR w B' A' n' vs' rs') (hn : n ≤ 9223372036854775807) (hn' : n' ≤ 9223372036854775807) :
    Calls Try.prog 34 #[.slice A n c, .slice A' n' c'] w fun e w' => e = .returned (.bool (decide (rs = rs'))) ∧ ∃ d, w' = w.drewN d := by
  obtain ⟨h1, h2, h3⟩ := h
  obtain ⟨h1', h2', h3'⟩ := h'
  by_cases hne : n = n'
  · subst hne
    have hbeq : ((n : Int) != (n : Int)) = false := by simp
    have HL := hid h2
    have HL' := hid h2'
    have H3 := hid h3
    have H3' := hid h3'
    clear h2 h2' h3 h3'
    go_enter Try.func34, Try.ntmps34
    go_wp2_with fail
    go_loopg [5] n (fun k i wr => ∃ j : Nat, j ≤ n ∧ k = n - j ∧ i = .int .i64 j ∧ rs.take j = rs'.take j ∧ ∃ d, wr = w.drewN d)
    case atStart => exact ⟨0, by omega, rfl, rfl, by simp, 0, rfl⟩
    case round =>
      obtain ⟨j, hj, rfl, rfl, htk, d, hd⟩ := hrel
      have HT := hid htk
      have k1 : Rd wr B 1 A n vs := by rw [hd]; exact h1.drewN d
      have k1' : Rd wr B' 1 A' n vs' := by rw [hd]; exact h1'.drewN d
      have HD := hid hd
      clear htk hd h1 h1'
      by_cases hlt : j < n
      · obtain ⟨b, off, u, rfl, hb, hu, hc⟩ := k1.at_ hlt
        obtain ⟨b', off', u', rfl, hb', hu', hc'⟩ := k1'.at_ hlt
        obtain ⟨r, hr⟩ : ∃ r, rs[j]? = some r := ⟨rs[j]'(by rw [HL.out]; exact hlt), List.getElem?_eq_getElem _⟩
        obtain ⟨r', hr'⟩ : ∃ r', rs'[j]? = some r' := ⟨rs'[j]'(by rw [HL'.out]; exact hlt), List.getElem?_eq_getElem _⟩
        obtain ⟨Ai, ci, rfl, hrd, hle⟩ := H3.out j u r hu hr
        obtain ⟨Ai', ci', rfl, hrd', hle'⟩ := H3'.out j u' r' hu' hr'
        have krd : Rd wr B 1 Ai r.length (bts r) := by rw [HD.out]; exact hrd.drewN d
        have krd' : Rd wr B' 1 Ai' r'.length (bts r') := by rw [HD.out]; exact hrd'.drewN d
        have HR := hid hr
        have HR' := hid hr'
        have hji : (j : Int) < (n : Int) := by omega
        clear hr hr' hu hu' k1 k1' hrd hrd'
        by_cases hxx : r = r'
        · subst hxx
          go_wp2_with fail
          go_quiet ((go_at_call 16; exact Calls.quiet_of (same_self _ _ _ _ _ _ _ _ r _ (krd.drewN _) (krd'.drewN _) hle hle')))
          go_wp2_with fail
          go_roundg (n - (j + 1))
          case measure => omega
          case rel => exact ⟨j + 1, by omega, rfl, by go_num, by rw [take_succ_get? HR.out, take_succ_get? HR'.out, HT.out], d + nq, by rw [HD.out, World.drewN_drewN]⟩
        · have hdf : decide (r = r') = false := decide_eq_false hxx
          have HDF := hid hdf
          clear hdf
          go_wp2_with fail
          go_quiet ((go_at_call 16; exact Calls.quiet_of (same_at _ _ _ _ _ _ _ _ r r' false _ HDF.out (krd.drewN _) (krd'.drewN _) hle hle')))
          go_wp2_with fail
          go_ret
          refine ⟨?_, d + nq, by rw [HD.out, World.drewN_drewN]⟩
          have : rs ≠ rs' := by
            rintro rfl
            have h1 := HR.out
            rw [HR'.out] at h1
            exact hxx (Option.some.inj h1).symm
          simp [this]
      · obtain rfl : j = n := by omega
        go_wp2_with fail
        go_ret
        refine ⟨?_, d, HD.out⟩
        have : rs = rs' := by
          have h1 := HT.out
          rwa [List.take_of_length_le (by have := HL.out; omega), List.take_of_length_le (by have := HL'.out; omega)] at h1
        simp [this]
  · have hbne : ((n : Int) != (n' : Int)) = true := by simp; omega
    have : decide (rs = rs') = false := by
      rw [decide_eq_false_iff_not]; rintro rfl; omega
    rw [this]
    clear this h1 h1' h2 h2' h3 h3'
    go_enter Try.func34, Try.ntmps34
    go_wp2_with fail
    go_ret
    exact ⟨rfl, 0, rfl⟩
end Go.Proofs.Ythihhmmpkbdmnaa
