/- The starts of commits, the document's way. -/
import Derived.Test.YtmlfbjcgmbdafaaUb
import Derived.Test.YtmlfbjcgmbdafaaSt
namespace Go.Proofs.Ytmlfbjcgmbdafaa
open Go.RowKit Go.Lg
set_option linter.unusedVariables false
set_option linter.unusedSimpArgs false

theorem gr_last (l : List (Int × Int)) (ep num : Int) : 0 < (gr l ep num).length ∧ Sl.E (gr l ep num) ((gr l ep num).length - 1) = ep := by
  unfold gr
  split
  · rename_i h
    exact h
  · refine ⟨by simp, ?_⟩
    rw [List.length_append, List.length_singleton, Nat.add_sub_cancel]
    simp [Sl.E, List.getD_eq_getElem?_getD]
theorem tl_last {cs : List Cm} {j : Nat} {m m' : Cm} (h : cs[j]? = some m) (h' : cs[j + 1]? = some m') : tl (cs.take (j + 1 + 1)) = if m'.ep = m.ep then tl (cs.take (j + 1)) else tl (cs.take (j + 1)) ++ [(m'.ep, m'.num)] := by
  rw [take_succ_get? h', tl_snoc]
  have hg := gr_last (tl (cs.take j)) m.ep m.num
  rw [← tl_snoc, ← take_succ_get? h] at hg
  conv => lhs; unfold gr
  rw [hg.2]
  by_cases he : m'.ep = m.ep
  · rw [if_pos ⟨hg.1, he.symm⟩, if_pos he]
  · rw [if_neg (fun q => he q.2.symm), if_neg he]
theorem tl_first {cs : List Cm} {m : Cm} (h : cs[0]? = some m) : tl (cs.take 1) = [] ++ [(m.ep, m.num)] := by
  have h1 := take_succ_get? h
  rw [show (0 : Nat) + 1 = 1 from rfl] at h1
  rw [h1, tl_snoc]
  simp [tl, gr]
set_option maxHeartbeats 4000000 in
set_option maxRecDepth 100000 in
theorem told40 (A : Option Addr) (n c : Nat) (cs : List Cm) (w : World) (h : CS w w.heap.size A n cs) (hn : n ≤ 10000) : Calls Try.prog 40 #[.slice A n c] w (NewS (tl cs) w) := by
  have HL := hid h.2.1
  go_enter Try.func40, Try.ntmps40
  go_wp2_with fail
  go_loopg [3, 4] n (fun k v i wr => ∃ (j : Nat) (vv : Value), v = vv ∧ j ≤ n ∧ k = n - j ∧ i = .int .i64 j ∧ wr.ownsRow w.heap.size 58 2 vv (tl (cs.take j)).length (sts (tl (cs.take j))) ∧ Below w.heap.size w wr)
  case atStart => exact ⟨0, _, rfl, by omega, rfl, rfl, World.ownsRow_nil _ _ _ _, Below.refl _ _⟩
  case round =>
    obtain ⟨j, vv, rfl, hj, rfl, rfl, ho, hb⟩ := hrel
    have hsz := hb.size
    obtain ⟨Av, cv, rfl, gv1, gv2⟩ := owned_slice ho
    by_cases hlt : j < n
    · have hw := h.keep hb
      obtain ⟨b, off, me, mn, Ao, no, co, os, rfl, hbB, hcj, _, _, c0, c1, _⟩ := hw.at_ hlt
      have hji : (j : Int) < (n : Int) := by omega
      have hbw : b < wr.heap.size := by omega
      have hln : (tl (cs.take j)).length ≤ 10000 := by
        have := tl_le (cs.take j)
        rw [List.length_take] at this
        omega
      obtain ⟨L, hL⟩ : ∃ L, L = tl (cs.take j) := ⟨_, rfl⟩
      obtain ⟨nl, hnl⟩ : ∃ k, k = L.length := ⟨_, rfl⟩
      rw [← hL, ← hnl] at ho
      rw [← hL, ← hnl] at hln
      rw [← hL, ← hnl]
      have HNL := hid hnl
      have HLL := hid hL
      have HCJ := hid hcj
      have MORE : Hid (∀ w0 : World, (∃ d, w0 = wr.drewN d) → w0.ownsRow w.heap.size 58 2 (.slice Av nl cv) nl (sts L) ∧ Below w.heap.size w w0 ∧ w0.cell? ⟨b, off + j * 3, none⟩ = some (.int .i64 me) ∧ w0.cell? ⟨b, off + j * 3 + 1, none⟩ = some (.int .i64 mn) ∧ b < w0.heap.size) := by
        rintro w0 ⟨d, rfl⟩
        rw [← hL, ← hnl] at *
        exact ⟨ho, below_drewN hb d, c0, c1, hbw⟩
      by_cases hj0 : j = 0
      · have HT : Hid (tl (cs.take (j + 1)) = L ++ [(me, mn)]) := by
          subst hj0
          rw [HLL.out]
          exact tl_first HCJ.out
        have d1 : ((j : Int) == 0) = true := by simp [hj0]
        have d2 : (j == 0) = true := by simp [hj0]
        clear hj0 hcj hnl hL hw ho hb gv1
        go_wp2_with fail
        go_quiet (fail)
        go_wp2_with fail
        generalize hw5 : World.drewN wr _ = w5
        obtain ⟨ho5, hb5, k0, k1, hbw5⟩ := MORE.out w5 ⟨_, hw5.symm⟩
        clear hw5 c0 c1
        have hs5 : w.heap.size ≤ w5.heap.size := hb5.size
        have K1 : Hid (w5.drew.cell? ⟨b, off + j * 3, none⟩ = some (Value.int .i64 me) ∧ w5.drew.cell? ⟨b, off + j * 3 + 1, none⟩ = some (Value.int .i64 mn)) := hid ⟨(drew_cell w5 _).trans k0, (drew_cell w5 _).trans k1⟩
        have K2 : Hid ((w5.drew.alloc (.cells #[.int .i64 me, .int .i64 mn] 58)).cell? ⟨b, off + j * 3, none⟩ = some (Value.int .i64 me) ∧ (w5.drew.alloc (.cells #[.int .i64 me, .int .i64 mn] 58)).cell? ⟨b, off + j * 3 + 1, none⟩ = some (Value.int .i64 mn)) :=
          hid ⟨(World.cell?_alloc_lt w5.drew _ _ hbw5).trans K1.out.1, (World.cell?_alloc_lt w5.drew _ _ hbw5).trans K1.out.2⟩
        have K3 : Hid ((w5.alloc (.cells #[.int .i64 me, .int .i64 mn] 58)).drew.cell? ⟨b, off + j * 3, none⟩ = some (Value.int .i64 me) ∧ (w5.alloc (.cells #[.int .i64 me, .int .i64 mn] 58)).drew.cell? ⟨b, off + j * 3 + 1, none⟩ = some (Value.int .i64 mn)) :=
          hid ⟨(drew_cell _ _).trans ((World.cell?_alloc_lt w5 _ _ hbw5).trans k0), (drew_cell _ _).trans ((World.cell?_alloc_lt w5 _ _ hbw5).trans k1)⟩
        have HO := hid (own_drew ho5)
        have HB5 := hid hb5
        have HN := hid (own_ne_block ho5 hbB)
        clear ho5 hb5
        go_region_held3 (fun w' => w'.cell? ⟨b, off + j * 3, none⟩ = some (Value.int .i64 me) ∧ w'.cell? ⟨b, off + j * 3 + 1, none⟩ = some (Value.int .i64 mn)) (first | (with_reducible exact K1.out) | (with_reducible exact K2.out) | (with_reducible exact K3.out) | exact ⟨q0, q1⟩)
          (first
            | (refine step_app T22 (.tmp 27) (.tmp 39) rfl rfl (HO.out.alloc _) rfl (Rd.lit w5.drew #[.int .i64 me, .int .i64 mn] 58 (0, 0) 1 rfl) rfl (by simp [Value.oneCell']) (by omega) (by simp; omega) ?_; intro v2 w2 hv2 hg hat2; have q0 : w2.cell? ⟨b, off + j * 3, none⟩ = some (.int .i64 me) := World.grownBy.cell hg K2.out.1 HN.out; have q1 : w2.cell? ⟨b, off + j * 3 + 1, none⟩ = some (.int .i64 mn) := World.grownBy.cell hg K2.out.2 HN.out))
        have hb2 : Below w.heap.size w w2 := below_append ((Below.drew HB5.out).alloc hs5 _) (HO.out.alloc _) hg (by simp; omega)
        have HV := hid hv2
        clear hg hat2 hv2 q0 q1 k0 k1 K1 K2 K3
        go_wp2_with fail
        go_roundg (n - (j + 1))
        case measure => omega
        case rel =>
          refine ⟨j + 1, v2, rfl, by omega, rfl, by go_num, ?_, hb2⟩
          rw [HT.out, sts_snoc, List.length_append, List.length_singleton, ← HNL.out]
          exact HV.out
      · obtain ⟨b', off', me', mn', Ao', no', co', os', hA, _, hcj', _, _, e0, _, _⟩ := hw.at_ (j := j - 1) (by omega)
        simp only [Option.some.injEq, Addr.mk.injEq, and_true] at hA
        obtain ⟨rfl, rfl⟩ := hA
        obtain ⟨q, hq⟩ : ∃ q, j = q + 1 := ⟨j - 1, by omega⟩
        have htl : tl (cs.take (j + 1)) = if me = me' then L else L ++ [(me, mn)] := by
          rw [HLL.out]
          subst hq
          exact tl_last (by simpa using hcj') HCJ.out
        have HTL := hid htl
        have d1 : ((j : Int) == 0) = false := by simp [hj0]
        have d2 : (j == 0) = false := by simp [hj0]
        have d3 : wrap64 ((j : Int) - 1) = (j : Int) - 1 := by simp only [wrap64]; omega
        have d4 : IntKind.i64.wrap ((j : Int) - 1) = (j : Int) - 1 := IntWalk.i64_in _ (by omega)
        have d5 : (1 : Int) ≤ (j : Int) := by omega
        have d6 : (j : Int) - 1 < (n : Int) := by omega
        clear hj0 hcj hnl hL hw gv1 htl hq hcj'
        by_cases hee : me = me'
        · have HT : Hid (tl (cs.take (j + 1)) = L) := by rw [HTL.out, if_pos hee]; exact hid rfl
          have d7 : (me != me') = false := by simp [hee]
          have HO := hid ho
          have HB := hid hb
          clear hee ho hb
          go_wp2_with fail
          go_quiet (fail)
          go_wp2_with fail
          go_roundg (n - (j + 1))
          case measure => omega
          case rel =>
            refine ⟨j + 1, _, rfl, by omega, rfl, by go_num, ?_, below_drewN HB.out _⟩
            rw [HT.out, ← HNL.out]
            exact own_drewN HO.out _
        · have HT : Hid (tl (cs.take (j + 1)) = L ++ [(me, mn)]) := by rw [HTL.out, if_neg hee]; exact hid rfl
          have d7 : (me != me') = true := by simp [hee]
          clear hee ho hb
          go_wp2_with fail
          go_quiet (fail)
          go_wp2_with fail
          generalize hw5 : World.drewN wr _ = w5
          obtain ⟨ho5, hb5, k0, k1, hbw5⟩ := MORE.out w5 ⟨_, hw5.symm⟩
          clear hw5 c0 c1 e0
          have hs5 : w.heap.size ≤ w5.heap.size := hb5.size
          have K1 : Hid (w5.drew.cell? ⟨b, off + j * 3, none⟩ = some (Value.int .i64 me) ∧ w5.drew.cell? ⟨b, off + j * 3 + 1, none⟩ = some (Value.int .i64 mn)) := hid ⟨(drew_cell w5 _).trans k0, (drew_cell w5 _).trans k1⟩
          have K2 : Hid ((w5.drew.alloc (.cells #[.int .i64 me, .int .i64 mn] 58)).cell? ⟨b, off + j * 3, none⟩ = some (Value.int .i64 me) ∧ (w5.drew.alloc (.cells #[.int .i64 me, .int .i64 mn] 58)).cell? ⟨b, off + j * 3 + 1, none⟩ = some (Value.int .i64 mn)) :=
            hid ⟨(World.cell?_alloc_lt w5.drew _ _ hbw5).trans K1.out.1, (World.cell?_alloc_lt w5.drew _ _ hbw5).trans K1.out.2⟩
          have K3 : Hid ((w5.alloc (.cells #[.int .i64 me, .int .i64 mn] 58)).drew.cell? ⟨b, off + j * 3, none⟩ = some (Value.int .i64 me) ∧ (w5.alloc (.cells #[.int .i64 me, .int .i64 mn] 58)).drew.cell? ⟨b, off + j * 3 + 1, none⟩ = some (Value.int .i64 mn)) :=
            hid ⟨(drew_cell _ _).trans ((World.cell?_alloc_lt w5 _ _ hbw5).trans k0), (drew_cell _ _).trans ((World.cell?_alloc_lt w5 _ _ hbw5).trans k1)⟩
          have HO := hid (own_drew ho5)
          have HB5 := hid hb5
          have HN := hid (own_ne_block ho5 hbB)
          clear ho5 hb5
          go_region_held3 (fun w' => w'.cell? ⟨b, off + j * 3, none⟩ = some (Value.int .i64 me) ∧ w'.cell? ⟨b, off + j * 3 + 1, none⟩ = some (Value.int .i64 mn)) (first | (with_reducible exact K1.out) | (with_reducible exact K2.out) | (with_reducible exact K3.out) | exact ⟨q0, q1⟩)
            (first
              | (refine step_app T22 (.tmp 27) (.tmp 39) rfl rfl (HO.out.alloc _) rfl (Rd.lit w5.drew #[.int .i64 me, .int .i64 mn] 58 (0, 0) 1 rfl) rfl (by simp [Value.oneCell']) (by omega) (by simp; omega) ?_; intro v2 w2 hv2 hg hat2; have q0 : w2.cell? ⟨b, off + j * 3, none⟩ = some (.int .i64 me) := World.grownBy.cell hg K2.out.1 HN.out; have q1 : w2.cell? ⟨b, off + j * 3 + 1, none⟩ = some (.int .i64 mn) := World.grownBy.cell hg K2.out.2 HN.out))
          have hb2 : Below w.heap.size w w2 := below_append ((Below.drew HB5.out).alloc hs5 _) (HO.out.alloc _) hg (by simp; omega)
          have HV := hid hv2
          clear hg hat2 hv2 q0 q1 k0 k1 K1 K2 K3
          go_wp2_with fail
          go_roundg (n - (j + 1))
          case measure => omega
          case rel =>
            refine ⟨j + 1, v2, rfl, by omega, rfl, by go_num, ?_, hb2⟩
            rw [HT.out, sts_snoc, List.length_append, List.length_singleton, ← HNL.out]
            exact HV.out
    · obtain rfl : j = n := by omega
      have htk : cs.take j = cs := List.take_of_length_le (by rw [HL.out]; omega)
      rw [htk] at ho
      rw [htk]
      have HO := hid ho
      clear ho htk
      go_wp2_with fail
      go_ret
      exact news_eq rfl rfl HO.out hb
end Go.Proofs.Ytmlfbjcgmbdafaa
