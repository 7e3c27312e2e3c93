/- The reference's scan. -/
import Derived.Test.YthihhmmpkbdmnaaRef9b
namespace Go.Proofs.Ythihhmmpkbdmnaa
open Go.RowKit Go.Lg
set_option linter.unusedVariables false
set_option linter.unusedSimpArgs false

set_option maxHeartbeats 800000 in
set_option maxRecDepth 100000 in
theorem rScan_any (A : Option Addr) (n c : Nat) (l : List UInt8) (w : World) (h : Rd w w.heap.size 1 A n (bts l)) (hn : n ≤ 2000000) (hc : n ≤ c) (hcm : c ≤ maxLen) :
    Calls Try.prog 35 #[.slice A n c] w (Scanned w l) := by
  have hl : l.length = n := by have := h.1; rw [bts_length] at this; omega
  have HL := hid hl
  have hcm0 := hid hcm
  unfold maxLen at hcm
  obtain ⟨H, hH⟩ : ∃ H, H = w.heap.size := ⟨_, rfl⟩
  have HH := hid hH
  clear hl hH
  go_enter Try.func35, Try.ntmps35
  go_wp2_with fail
  go_loopg [4, 5] n (fun k out at_ wr => ∃ (rs : List (List UInt8)) (vs : List Value) (a : Nat), at_ = .int .i64 a ∧ a ≤ n ∧ k = n - a ∧ Recs wr H out vs rs ∧ Below H w wr ∧ rs.length ≤ a ∧
    Vi.scan l = (rs ++ (Vi.scan (l.drop a)).1, a + (Vi.scan (l.drop a)).2))
  case atStart => exact ⟨[], [], 0, rfl, by omega, rfl, Recs.nil _ _, Below.refl _ _, by simp, by simp⟩
  case round =>
    obtain ⟨rs, vs, a, rfl, ha, rfl, hrec, hb, hra, hsc⟩ := hrel
    have hHw : H ≤ wr.heap.size := by rw [HH.out]; exact hb.size
    have hslice := ((h.keep (w' := wr) fun p hp => hb.cell (by rw [HH.out]; exact hp)).more hb.size).drop (k := a) (cap := c) ha hc
    rw [Nat.mul_one, bts_drop] at hslice
    have HSC := hid hsc
    have HREC := hid hrec
    clear hsc hrec
    cases hf : Vi.fread (l.drop a) with
    | none =>
      have HF := hid hf
      have h5 : (((5 : Nat) : Int) != 0) = true := rfl
      clear hf
      have fin : ∀ w1, Below wr.heap.size wr w1 → Scanned w l (.returned (.tuple #[u4, .int .i64 a])) w1 := by
        intro w1 hbw
        have hs0 := HSC.out
        rw [Vi.scan_none HF.out, List.append_nil] at hs0
        exact ⟨u4, vs, by rw [hs0]; rfl, by rw [hs0, ← HH.out]; exact HREC.out.later hbw, by rw [← HH.out]; exact hb.trans (hbw.mono hHw)⟩
      have FIN := hid fin
      clear fin
      by_cases hca : c = a
      · rw [if_pos hca] at hslice
        obtain rfl : a = n := by omega
        subst hca
        rw [Nat.sub_self] at hslice
        go_wp2_with fail
        refine (rRead_none _ _ _ _ wr hslice (by omega) (by omega) (by have := hcm0.out; omega) HF.out).mono ?_
        rintro e w1 ⟨rfl, hbw⟩
        clear hslice
        go_wp2_with fail
        go_ret2
        exact FIN.out _ hbw
      · rw [if_neg hca] at hslice
        go_wp2_with fail
        refine (rRead_none _ _ _ _ wr hslice (by omega) (by omega) (by have := hcm0.out; omega) HF.out).mono ?_
        rintro e w1 ⟨rfl, hbw⟩
        clear hslice
        go_wp2_with fail
        go_ret2
        exact FIN.out _ hbw
    | some x =>
      obtain ⟨r, m⟩ := x
      have hfit := Vi.fread_fits hf
      rw [List.length_drop, HL.out] at hfit
      have HF := hid hf
      clear hf
      by_cases hca : c = a
      · exfalso; omega
      · rw [if_neg hca] at hslice
        go_wp2_with fail
        refine (rRead_some _ _ _ _ r m wr hslice (by omega) (by omega) (by have := hcm0.out; omega) HF.out).mono ?_
        rintro e w1 ⟨u, rfl, hu, hbu⟩
        have hs1 := hbu.size
        have hout1 := owned_later HREC.out.out hbu
        have HU := hid hu
        have HO1 := hid hout1
        clear hslice hu hout1
        obtain ⟨Au, cu, rfl, g1, g2⟩ := owned_slice HU.out
        go_wp2_with (at_builtin; refine stop_ (fun Ps hPs => ?_))
        refine hPs ?_
        clear hPs Ps
        refine wpList_app1 T30 (.tmp 21) (.tmp 23) rfl rfl HO1.out rfl rfl rfl (by simp [Value.oneCell']) (by omega) (by omega) fun v2 w2 hv2 hg hat => ?_
        have hrec2 := HREC.out.snoc hbu hHw HU.out (by omega) hv2 hg
        have hb2 : Below H w w2 := below_append (hb.trans (hbu.mono hHw)) HO1.out hg (by omega)
        have HREC2 := hid hrec2
        have hs2 := HSC.out
        rw [Vi.scan_some HF.out, List.drop_drop] at hs2
        have HS2 := hid hs2
        clear hrec2 hg hat hv2 HO1 hs2
        go_wp2_with fail
        go_roundg (n - (a + m))
        case measure => omega
        case rel =>
          refine ⟨rs ++ [r], vs ++ [.slice Au r.length cu], a + m, by go_num, by omega, rfl, HREC2.out, hb2, by simp; omega, ?_⟩
          rw [HS2.out]
          simp only [List.append_assoc, List.singleton_append, Prod.mk.injEq, true_and]
          omega
end Go.Proofs.Ythihhmmpkbdmnaa
