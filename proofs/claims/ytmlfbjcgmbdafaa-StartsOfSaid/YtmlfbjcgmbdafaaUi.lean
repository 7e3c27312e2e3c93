/- Commits lent. -/
import Derived.Test.YtmlfbjcgmbdafaaUh
namespace Go.Proofs.Ytmlfbjcgmbdafaa
open Go.RowKit Go.Lg
set_option linter.unusedVariables false
set_option linter.unusedSimpArgs false

/-- A commit that is lent for another one. -/
def LC (B : Nat) (w : World) (m m' : Cm) : Prop := m'.ep = m.ep ∧ m'.num = m.num ∧ m'.n = m.n ∧ m'.os = m.os ∧ w.ownsRow B 68 3 (.slice m'.A (m.n + 3) m'.c) (m.n + 3) (opc (lentO m.os))
def LCs (B : Nat) (w : World) (cs cs' : List Cm) : Prop := ∀ (i : Nat) (m m' : Cm), cs[i]? = some m → cs'[i]? = some m' → LC B w m m'
def spareC : List Cm := List.replicate 3 ⟨-7, 0, none, 0, 0, []⟩
def LentsIs (cs : List Cm) (w : World) (e : Ending) (w' : World) : Prop :=
  ∃ v cs', e = .returned v ∧ cs'.length = cs.length ∧ w'.ownsRow w.heap.size 40 3 v (cs.length + 3) (cmc (cs' ++ spareC)) ∧ LCs w.heap.size w' cs cs' ∧ Below w.heap.size w w'
theorem cmc_app (a b : List Cm) : cmc (a ++ b) = cmc a ++ cmc b := by simp [cmc]
theorem lcs_gb {w w' : World} {B n : Nat} {v : Value} {xs : List Value} {cs cs' : List Cm} (h : LCs B w cs cs') (ho : w.ownsRow B 40 3 v n xs) (hg : w.grownBy w' v.ownBlock) : LCs B w' cs cs' := by
  intro i m m' h1 h2
  obtain ⟨k1, k2, k3, k4, k5⟩ := h i m m' h1 h2
  exact ⟨k1, k2, k3, k4, owned_gb k5 hg fun g hg1 he => ne_by_type k5 ho (by decide) g hg1 he.symm⟩
theorem lcs_later {w w' : World} {B : Nat} {cs cs' : List Cm} (h : LCs B w cs cs') (hb : Below w.heap.size w w') : LCs B w' cs cs' := by
  intro i m m' h1 h2
  obtain ⟨k1, k2, k3, k4, k5⟩ := h i m m' h1 h2
  exact ⟨k1, k2, k3, k4, owned_later k5 hb⟩
theorem lcs_snoc {w : World} {B j : Nat} {cs cs' : List Cm} {m m' : Cm} (h : LCs B w cs cs') (hl : cs'.length = j) (hm : cs[j]? = some m) (hc : LC B w m m') : LCs B w cs (cs' ++ [m']) := by
  intro i a b h1 h2
  rcases Nat.lt_or_ge i j with hi | hi
  · rw [List.getElem?_append_left (by omega)] at h2
    exact h i a b h1 h2
  · rw [List.getElem?_append_right (by omega)] at h2
    have hi0 : i - cs'.length = 0 := by
      rcases Nat.eq_zero_or_pos (i - cs'.length) with q | q
      · exact q
      · rw [List.getElem?_eq_none (by simp; omega)] at h2
        cases h2
    rw [hi0] at h2
    obtain rfl : i = j := by omega
    rw [hm] at h1
    cases h1
    cases h2
    exact hc
theorem lents_eq {cs cs' : List Cm} {n : Nat} {v : Value} {w w' : World} (hn : cs.length = n) (hl : cs'.length = n) (ho : w'.ownsRow w.heap.size 40 3 v (n + 3) (cmc (cs' ++ spareC))) (hk : LCs w.heap.size w' cs cs') (hb : Below w.heap.size w w') : LentsIs cs w (.returned v) w' := by
  subst hn
  exact ⟨v, cs', rfl, hl, ho, hk, hb⟩

set_option maxHeartbeats 4000000 in
set_option maxRecDepth 100000 in
theorem lentcommits22 (A : Option Addr) (n c : Nat) (cs : List Cm) (w : World) (h : CS w w.heap.size A n cs) (hm : ∀ m ∈ cs, m.n ≤ 3518437208780) (hn : n ≤ 900) :
    Calls Try.prog 22 #[.slice A n c] w (LentsIs cs w) := by
  have HL := hid h.2.1
  go_enter Try.func22, Try.ntmps22
  go_wp2_with fail
  go_loopg [3, 4] n (fun k v i wr => ∃ (j : Nat) (cs' : List Cm) (vv : Value), v = vv ∧ j ≤ n ∧ k = n - j ∧ i = .int .i64 j ∧ Hid (cs'.length = j) ∧ wr.ownsRow w.heap.size 40 3 vv j (cmc cs') ∧ Hid (LCs w.heap.size wr cs cs') ∧ Below w.heap.size w wr)
  case atStart => exact ⟨0, [], _, rfl, by omega, rfl, rfl, hid rfl, World.ownsRow_nil _ _ _ _, hid (fun i m m' h1 h2 => by simp at h2), Below.refl _ _⟩
  case round =>
    obtain ⟨j, cs', vv, rfl, hj, rfl, rfl, hps, ho, hk, hb⟩ := hrel
    have hsz := hb.size
    by_cases hlt : j < n
    · have hw := h.keep hb
      obtain ⟨b, off, me, mn, Ao, no, co, os, rfl, hbB, hcj, hos, hno, c0, c1, c2⟩ := hw.at_ hlt
      have hm9 := hm _ (List.mem_of_getElem? hcj)
      have hji : (j : Int) < (n : Int) := by omega
      have hcp := lentcommit23 ⟨me, mn, Ao, no, co, os⟩ wr (hos.more hsz) hm9
      have HCJ := hid hcj
      have HO := hid ho
      have HB := hid hb
      clear hcj hos hno hw ho hb hm9
      go_wp2_with (go_at_call 23; refine stop_ (fun Ps hPs => ?_))
      refine hPs ?_
      clear hPs Ps
      refine hcp.mono ?_
      clear hcp c0 c1 c2
      rintro e w2 ⟨A5, c5, rfl, ho5, hb5⟩
      have HO2 := hid ((owned_later HO.out hb5))
      have hs5 : w.heap.size ≤ w2.heap.size := Nat.le_trans hsz hb5.size
      have HO5 := hid ho5
      have HB5 := hid hb5
      clear ho5 hb5
      go_wp2_with (at_builtin; refine stop_ (fun Ps hPs => ?_))
      refine hPs ?_
      clear hPs Ps
      refine wpList_app1 T37 (.tmp 12) (.tmp 18) rfl rfl HO2.out rfl rfl rfl (by simp [Value.oneCell']) (by omega) hs5 fun v' w3 ho3 hg hat => ?_
      have hb3 := below_append (bl_trans' HB.out HB5.out hsz) HO2.out hg hs5
      have hlc : LC w.heap.size w2 ⟨me, mn, Ao, no, co, os⟩ ⟨me, mn, A5, no, c5, os⟩ := ⟨rfl, rfl, rfl, rfl, owned_less HO5.out hsz⟩
      have hk3 := lcs_gb (lcs_snoc (lcs_later hk.out HB5.out) hps.out HCJ.out hlc) HO2.out hg
      have HO3 := hid ho3
      have HK3 := hid hk3
      have HB3 := hid hb3
      clear ho3 hk3 hb3 hg hat hlc
      go_wp2_with fail
      go_roundg (n - (j + 1))
      case measure => omega
      case rel =>
        refine ⟨j + 1, _, v', rfl, by omega, rfl, by go_num, hid ?_, ?_, HK3, HB3.out⟩
        · rw [List.length_append, hps.out]
          rfl
        · rw [cmc_snoc]
          exact HO3.out
    · obtain rfl : j = n := by omega
      have HO := hid ho
      have HB := hid hb
      clear ho hb
      go_wp2_with fail
      go_loopg [3, 5] 3 (fun k v i wq => ∃ (j2 : Nat) (vv : Value), v = vv ∧ j2 ≤ 3 ∧ k = 3 - j2 ∧ i = .int .i64 j2 ∧ wq.ownsRow w.heap.size 40 3 vv (j + j2) (cmc (cs' ++ spareC.take j2)) ∧ Hid (LCs w.heap.size wq cs cs') ∧ Below w.heap.size w wq)
      case atStart => exact ⟨0, _, rfl, by omega, rfl, rfl, by simpa using HO.out, hk, HB.out⟩
      case round =>
        clear hk HO HB hsz
        obtain ⟨j2, vv, rfl, hj2, rfl, rfl, ho, hk, hb⟩ := hrel
        have hsz := hb.size
        by_cases hlt2 : j2 < 3
        · have hsp : spareC.take (j2 + 1) = spareC.take j2 ++ [⟨-7, 0, none, 0, 0, []⟩] := by
            obtain rfl | rfl | rfl : j2 = 0 ∨ j2 = 1 ∨ j2 = 2 := by omega
            all_goals rfl
          have HSP := hid hsp
          have hji : (j2 : Int) < 3 := by omega
          have HO := hid ho
          have HB := hid hb
          clear ho hb hsp
          go_wp2_with (at_builtin; refine stop_ (fun Ps hPs => ?_))
          refine hPs ?_
          clear hPs Ps
          refine wpList_app1 T37 (.tmp 24) (.tmp 26) rfl rfl HO.out rfl rfl rfl (by simp [Value.oneCell']) (by omega) hsz fun v1 w1 ho1 hg hat => ?_
          have hb1 := below_append HB.out HO.out hg hsz
          have hk1 := lcs_gb hk.out HO.out hg
          have HO1 := hid ho1
          have HK1 := hid hk1
          clear ho1 hg hat hk1
          go_wp2_with fail
          go_roundg (3 - (j2 + 1))
          case measure => omega
          case rel =>
            refine ⟨j2 + 1, v1, rfl, by omega, rfl, by go_num, ?_, HK1, hb1⟩
            rw [HSP.out, ← List.append_assoc, cmc_app _ [_]]
            exact HO1.out
        · obtain rfl : j2 = 3 := by omega
          have HO := hid ho
          clear ho
          go_wp2_with fail
          go_ret
          exact lents_eq HL.out hps.out HO.out hk.out hb
end Go.Proofs.Ytmlfbjcgmbdafaa
