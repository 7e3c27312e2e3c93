/- The iterator of Each: the records one by one, each in memory of its own. -/
import Derived.Test.YthihhmmpkbdmnaaGb
namespace Go.Proofs.Ythihhmmpkbdmnaa
open Go.RowKit Go.Lg Go.Shelf
set_option linter.unusedVariables false
set_option linter.unusedSimpArgs false
attribute [local go_sem] Oper.semAt_some

/-- A record that is handed: where its frame begins, its bytes, its slice. -/
structure El where
  at_ : Nat
  r : List UInt8
  v : Value
def El.p (x : El) : Nat × List UInt8 := (x.at_, x.r)
abbrev encE (x : El) : Array Value := #[.int .i64 (x.at_ : Int), x.v]
def RxE (x : El) (W : World) : Prop := ∃ A c, x.v = .slice A x.r.length c ∧ Rd W W.heap.size 1 A x.r.length (bts x.r) ∧ x.r.length ≤ 131072
theorem rx_own (B : Nat) (x : El) : OwnFrom B (fun (_ : Unit) W => RxE x W) := fun s X Y row hs hg hr => by
  obtain ⟨A, c, h1, h2, h3⟩ := hs
  refine ⟨A, c, h1, ⟨h2.1, fun hn => ?_⟩, h3⟩
  obtain ⟨b, off, e, hb, hc⟩ := h2.2 hn
  exact ⟨b, off, e, Nat.lt_of_lt_of_le hb hg.size, fun j u hu => cell_kept (hc j u hu) hg (fun r e => (hr r e).2)⟩
theorem abides_below {β : Type} {B : Nat} {J : β → World → Prop} (h : AbidesFrom B J) {s : β} {W W' : World} (hs : J s W) (hb : Below W.heap.size W W') : J s W' :=
  h s W W' none hs (gb_below hb none) (fun r e => by cases e)
set_option maxRecDepth 100000 in
set_option maxHeartbeats 4000000 in
theorem each44_in (n : Nat) (hn : 1 ≤ n) (l Bo n₀ n1 cap : Nat) (A : Option Addr) (b : List UInt8) (hlen : n1 = b.length) (hb2 : n1 ≤ 2000000) (hBo : Bo < n₀) (J Jx : List El → World → Prop)
    (W : World) (hJ : AbidesFrom W.heap.size J)
    (hY : ∀ pre x W, J pre W → RxE x W → pre.length < (Vi.sq 0 b).length → YieldAt Fence.wide (n - 1) Try.prog l (encE x) W fun e W' =>
      (e = .returned (.bool true) ∧ J (pre ++ [x]) W' ∧ Below n₀ W W') ∨ (e = .returned (.bool false) ∧ Jx (pre ++ [x]) W'))
    (hn₀ : n₀ ≤ W.heap.size) (hBs : W.cell? ⟨Bo, 0, none⟩ = some (.slice A n1 cap)) (hos : Rd W n₀ 1 A n1 (bts b)) (hlc : n1 ≤ cap) (hcm : cap ≤ maxLen) (h0 : J [] W) :
    CallsIn Fence.wide n Try.prog 44 #[.func (.yield l) #[] #[], .pointer (some ⟨Bo, 0, none⟩)] W fun e W' => (∃ v, e = .returned v) ∧
      ((∃ ys : List El, ys.map El.p = Vi.sq 0 b ∧ J ys W') ∨ (∃ pre : List El, (∃ k, k ≤ (Vi.sq 0 b).length ∧ pre.map El.p = (Vi.sq 0 b).take k) ∧ Jx pre W')) := by
  refine callsIn_of_wp Try.func44 rfl trivial ?_ rfl
  have HL := hid hlen
  have hcm0 := hid hcm
  unfold maxLen at hcm
  clear hlen
  simp only [Try.ntmps44, List.size_toArray, List.length_cons, List.length_nil, Nat.reduceAdd, Nat.reduceSub, Array.replicate_succ, Array.replicate_zero, List.push_toArray, List.append_toArray, List.nil_append, List.cons_append]
  gi_wp2
  gi_loopw [3, 4, 5, 6] (fun at_ _ _ _ wr => ∃ (a : Nat) (pre : List El), at_ = .int .i64 a ∧ a ≤ n1 ∧ Vi.sq 0 b = pre.map El.p ++ Vi.sq a (b.drop a) ∧ J pre wr ∧ Below n₀ W wr)
    (fun at_ _ _ _ _ => n1 - (intOf at_).toNat)
  case atStart => exact ⟨0, [], rfl, by omega, by simp, h0, Below.refl _ _⟩
  case round =>
    obtain ⟨a, pre, rfl, ha, hsq, hJs, hnx⟩ := hrel
    have hs := Nat.le_trans hn₀ hnx.size
    have c0 : wr.cell? ⟨Bo, 0, none⟩ = some (.slice A n1 cap) := (hnx.cell (p := ⟨Bo, 0, none⟩) hBo).trans hBs
    have hslice := ((hos.below hnx).more hs).drop (k := a) (cap := cap) ha hlc
    rw [Nat.mul_one, bts_drop] at hslice
    have hki : (a : Int) ≤ (n1 : Int) := by omega
    have hk0 : (0 : Int) ≤ (a : Int) := Int.natCast_nonneg _
    have hkc : (n1 : Int) ≤ (cap : Int) := by omega
    have HSQ := hid hsq
    clear hsq
    have t28 : Fence.wide.fn 28 := trivial
    have hl : b.length = n1 := HL.out.symm
    cases hf : Vi.fread (b.drop a) with
    | none =>
      have HF := hid hf
      have h5 : (((5 : Nat) : Int) != 0) = true := rfl
      clear hf
      by_cases hca : cap = a
      · rw [if_pos hca] at hslice
        obtain rfl : a = n1 := by omega
        subst hca
        rw [Nat.sub_self] at hslice
        have HC := hid (fRead_none _ _ 0 _ _ wr hslice (by omega) HF.out)
        clear hslice
        gi_wp2_with (gi_at_call 28; refine stop_ (fun Ps hPs => ?_))
        refine hPs ?_
        clear hPs Ps
        refine (callsIn_wide.2 HC.out).mono ?_
        rintro e w1 ⟨rfl, rfl⟩
        clear HC
        gi_wp2
        refine ⟨fun _ h => (by cases h), ?_⟩
        gi_wp2
        refine bodyPost_ret (results_none rfl _ _ _) rfl ?_
        have hs0 := HSQ.out
        rw [Vi.sq_none HF.out, List.append_nil] at hs0
        exact ⟨⟨_, rfl⟩, .inl ⟨pre, hs0.symm, hJs⟩⟩
      · rw [if_neg hca] at hslice
        have HC := hid (fRead_none _ _ (cap - a) _ _ wr hslice (by omega) HF.out)
        clear hslice
        gi_wp2_with (gi_at_call 28; refine stop_ (fun Ps hPs => ?_))
        refine hPs ?_
        clear hPs Ps
        refine (callsIn_wide.2 HC.out).mono ?_
        rintro e w1 ⟨rfl, rfl⟩
        clear HC
        gi_wp2
        refine ⟨fun _ h => (by cases h), ?_⟩
        gi_wp2
        refine bodyPost_ret (results_none rfl _ _ _) rfl ?_
        have hs0 := HSQ.out
        rw [Vi.sq_none HF.out, List.append_nil] at hs0
        exact ⟨⟨_, rfl⟩, .inl ⟨pre, hs0.symm, hJs⟩⟩
    | some x =>
      obtain ⟨r, m⟩ := x
      have hfit := Vi.fread_fits hf
      rw [List.length_drop, hl] at hfit
      have HF := hid hf
      clear hf
      by_cases hca : cap = a
      · exfalso; omega
      · rw [if_neg hca] at hslice
        have HC := hid (fRead_some _ _ (cap - a) _ r m wr hslice (by omega) (by omega) (by have := hcm0.out; omega) HF.out)
        have HJS := hid hJs
        have HNX := hid hnx
        have HFT := hid hfit
        clear hslice hfit hJs hnx hl
        gi_wp2_with (gi_at_call 28; refine stop_ (fun Ps hPs => ?_))
        refine hPs ?_
        clear hPs Ps c0
        refine (callsIn_wide.2 HC.out).mono ?_
        rintro e w1 ⟨u, rfl, hu, hbu⟩
        clear HC
        have hJ1 := abides_below hJ HJS.out hbu
        have hs2 := HSQ.out
        rw [Vi.sq_some HF.out, List.drop_drop] at hs2
        obtain ⟨Au, cu, rfl, _, _⟩ := owned_slice hu
        obtain ⟨fn, tmps, assign, body, hy, hR⟩ := hY pre ⟨a, r, .slice Au r.length cu⟩ w1 hJ1 ⟨Au, cu, rfl, Rd.of_own hu, HFT.out.2.2.1⟩ (by have := congrArg List.length hs2; simp at this; omega)
        dsimp only [encE] at hy
        have HS2 := hid hs2
        have HB1 := hid (HNX.out.trans (hbu.mono (Nat.le_trans hn₀ HNX.out.size)))
        have hm0 : (((0 : Nat) : Int) != 0) = false := rfl
        clear hs2 hu hbu hJ1
        gi_wp2
        refine hR.mono ?_
        rintro e W3 (⟨rfl, hJ3, hk3⟩ | ⟨rfl, hJx3⟩)
        · have HK3 := hid (HB1.out.trans hk3)
          have HJ3 := hid hJ3
          have hmi : (m : Int) ≤ 2000000 := by have := HFT.out; omega
          have hai : (a : Int) ≤ 2000000 := by omega
          clear hJ3 hk3
          gi_wp2
          go_roundw
          case rel =>
            refine ⟨a + m, pre ++ [⟨a, r, .slice Au r.length cu⟩], by go_num, by have := HFT.out; omega, ?_, HJ3.out, HK3.out⟩
            rw [HS2.out]
            simp [El.p]
          case measure => have := HFT.out; simp [intOf]; omega
        · gi_wp2
          refine bodyPost_ret (results_none rfl _ _ _) rfl ?_
          refine ⟨⟨_, rfl⟩, .inr ⟨_, ⟨pre.length + 1, ?_, ?_⟩, hJx3⟩⟩
          · have := congrArg List.length HS2.out
            simp at this
            omega
          · rw [HS2.out]
            simp [El.p, List.take_append]
            exact (List.take_of_length_le (by simp)).symm
theorem each_hands (n : Nat) (hn : 1 ≤ n) (Bo n₀ n1 cap : Nat) (A : Option Addr) (b : List UInt8) (hlen : n1 = b.length) (hb2 : n1 ≤ 2000000) (w : World) (hBo : Bo < n₀) (hn₀ : n₀ ≤ w.heap.size)
    (hc : w.cell? ⟨Bo, 0, none⟩ = some (.slice A n1 cap)) (hos : Rd w n₀ 1 A n1 (bts b)) (hlc : n1 ≤ cap) (hcm : cap ≤ maxLen) :
    Hands Fence.wide n Try.prog 44 #[.pointer (some ⟨Bo, 0, none⟩)] encE RxE (Below n₀) (fun ys => ys.map El.p = Vi.sq 0 b) (fun pre => ∃ k, k ≤ (Vi.sq 0 b).length ∧ pre.map El.p = (Vi.sq 0 b).take k) (Vi.sq 0 b).length w := fun l J Jx W hW hJ _ hY h0 =>
  each44_in n hn l Bo n₀ n1 cap A b hlen hb2 hBo J Jx W hJ hY (Nat.le_trans hn₀ hW.size) ((hW.cell (p := ⟨Bo, 0, none⟩) (by show Bo < _; omega)).trans hc) (hos.below (hW.mono hn₀)) hlc hcm h0
end Go.Proofs.Ythihhmmpkbdmnaa
