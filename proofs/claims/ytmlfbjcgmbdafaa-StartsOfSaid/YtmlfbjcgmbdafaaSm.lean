/- Starts: of any two logs all is told as the document says: the walk. -/
import Derived.Test.YtmlfbjcgmbdafaaSi
import Derived.Test.YtmlfbjcgmbdafaaSk
import Derived.Test.YtmlfbjcgmbdafaaSl
namespace Go.Proofs.Ytmlfbjcgmbdafaa
open Go.RowKit Go.Lg
set_option linter.unusedVariables false
set_option linter.unusedSimpArgs false

theorem lentS_length (l : List (Int × Int)) : (lentS l).length = l.length + 3 := by simp [lentS, spareS]
theorem SS.front {w : World} {B m n : Nat} {A : Option Addr} {l : List (Int × Int)} (h : SS w B A m (lentS l)) (hn : l.length = n) : SS w B A n l := by
  have hm : m = n + 3 := by rw [← h.2, lentS_length, hn]
  have h1 := h.1.take (k := n) (by omega)
  have e1 : (sts (lentS l)).take (n * 2) = sts l := by
    unfold lentS
    rw [sts_append, List.take_left' (by rw [sts_length, hn])]
  rw [e1] at h1
  exact ⟨h1, hn⟩
set_option maxHeartbeats 1000000 in
set_option maxRecDepth 100000 in
theorem kept20 (A A' : Option Addr) (n c n' c' : Nat) (l : List (Int × Int)) (w : World) (h : SS w w.heap.size A n (lentS l)) (h' : SS w w.heap.size A' n' l) (hn : n ≤ 900) (hn' : n' ≤ 900) :
    Calls Try.prog 20 #[.slice A n c, .slice A' n' c'] w (Yes w) := by
  go_enter Try.func20, Try.ntmps20
  go_wp2_with (go_at_call 15; refine stop_ (fun Ps hPs => ?_))
  refine hPs ?_
  clear hPs Ps
  refine (lent15 A' n' c' l w h' hn').mono ?_
  rintro e w1 ⟨v, rfl, ho, hb⟩
  have hl := h.2
  rw [hl] at ho
  obtain ⟨A1, c1, rfl, g1, g2⟩ := owned_slice ho
  have hc := same14_self A A1 n c n c1 _ _ (lentS l) w1 (h.later hb) ⟨Rd.of_own ho, hl⟩ (by omega) (by omega)
  clear hl ho
  go_wp2_with (go_at_call 14; refine stop_ (fun Ps hPs => ?_))
  refine hPs ?_
  clear hPs Ps
  refine hc.mono ?_
  rintro e w2 ⟨rfl, d, rfl⟩
  go_wp2_with fail
  go_ret
  exact ⟨rfl, below_drewN hb d⟩
theorem two_sides {r : Int × Int} {a b : Int} {w w' : World} {e : Ending} (hr : r = (a, b)) (h : Two r w e w') : e = .returned (.tuple #[.int .i64 a, .int .i64 b]) ∧ Below w.heap.size w w' := by
  subst hr
  exact h
def TrimAs (l : List (Int × Int)) (n : Nat) (k : Int) (w : World) (e : Ending) (w' : World) : Prop := ∃ v, e = .returned (.tuple #[v, .int .i64 k]) ∧ w'.ownsRow w.heap.size 58 2 v n (sts l) ∧ Below w.heap.size w w'
theorem trim_as {r : List (Int × Int) × Int} {l : List (Int × Int)} {n : Nat} {k : Int} {w w' : World} {e : Ending} (hr : r = (l, k)) (hn : n = l.length) (h : Trims r w e w') : TrimAs l n k w e w' := by
  subst hr hn
  exact h
theorem trim_le (l : List (Int × Int)) (e m : Int) : (trim l e m).1.length ≤ l.length := by
  unfold trim
  split
  · split
    · simp; omega
    · simp
  · simp

set_option maxHeartbeats 16000000 in
set_option maxRecDepth 100000 in
theorem calls4 (A A' : Option Addr) (n c n' c' : Nat) (a b : List (Int × Int)) (ae be m : Int) (w : World) (sa : SS w w.heap.size A n a) (sb : SS w w.heap.size A' n' b) (hn9 : n ≤ 9223372036854775807) (hn9' : n' ≤ 9223372036854775807) :
    Calls Try.prog 4 #[.slice A n c, .int .i64 ae, .slice A' n' c', .int .i64 be, .int .i64 m] w (Yes w) := by
  have HL := hid sa.2
  have HL' := hid sb.2
  have hlv := lives13 w
  go_enter Try.func4, Try.ntmps4
  go_wp2_with (go_at_call 13; refine stop_ (fun Ps hPs => ?_))
  refine hPs ?_
  clear hPs Ps
  refine hlv.mono ?_
  clear hlv
  rintro e w1 ⟨rfl, hb⟩
  by_cases h40 : 40 < n
  · have q1 : (40 : Int) < (n : Int) := by omega
    go_wp2_with fail
    go_ret
    exact ⟨rfl, hb⟩
  by_cases h40' : 40 < n'
  · have q1 : ¬(40 : Int) < (n : Int) := by omega
    have q2 : (40 : Int) < (n' : Int) := by omega
    go_wp2_with fail
    go_ret
    exact ⟨rfl, hb⟩
  have q1 : ¬(40 : Int) < (n : Int) := by omega
  have q2 : ¬(40 : Int) < (n' : Int) := by omega
  have hn : n ≤ 40 := by omega
  have hn' : n' ≤ 40 := by omega
  clear h40 h40' hn9 hn9'
  have sa := sa.later hb
  have sb := sb.later hb
  go_wp2_with (go_at_call 15; refine stop_ (fun Ps hPs => ?_))
  refine hPs ?_
  clear hPs Ps
  have hc := lent15 A n c a w1 sa (by omega)
  refine (hc).mono ?_
  rintro e w2 ⟨vx, rfl, hox, hbn⟩
  have sa := sa.later hbn
  have sb := sb.later hbn
  have hsn := hbn.size
  have hsp := hb.size
  have hb := bl_trans hb hbn hb.size
  clear hbn
  clear hc
  have hox := owned_less hox hsp
  rw [lentS_length, HL.out] at hox
  obtain ⟨Ax, cx, rfl, gx, kx⟩ := owned_slice hox
  have fx : SS w2 w2.heap.size Ax (n + 3) (lentS a) := ⟨Rd.of_own hox, by rw [lentS_length, HL.out]⟩
  have sx := fx.front HL.out
  go_wp2_with (go_at_call 15; refine stop_ (fun Ps hPs => ?_))
  refine hPs ?_
  clear hPs Ps
  have hc := lent15 A' n' c' b w2 sb (by omega)
  refine (hc).mono ?_
  rintro e w3 ⟨vy, rfl, hoy, hbn⟩
  have sa := sa.later hbn
  have sb := sb.later hbn
  have fx := fx.later hbn
  have sx := sx.later hbn
  have hox := owned_later hox hbn
  have hsn := hbn.size
  have hsp := hb.size
  have hb := bl_trans hb hbn hb.size
  clear hbn
  clear hc
  have hoy := owned_less hoy hsp
  rw [lentS_length, HL'.out] at hoy
  obtain ⟨Ay, cy, rfl, gy, ky⟩ := owned_slice hoy
  have fy : SS w3 w3.heap.size Ay (n' + 3) (lentS b) := ⟨Rd.of_own hoy, by rw [lentS_length, HL'.out]⟩
  have sy := fy.front HL'.out
  have icy0 : (n' : Int) ≤ (cy : Int) := by have := (owned_cap hoy).1; omega
  clear hoy gy ky gx kx
  obtain ⟨N1, hN1⟩ : ∃ N, N = w3.heap.size := ⟨_, rfl⟩
  have hxlt : ∀ g, (Value.slice Ax (n + 3) cx).ownBlock = some g → g < N1 := fun g hg => by rw [hN1]; exact (hox.lt g hg).2
  have N1le : N1 ≤ w3.heap.size := Nat.le_of_eq hN1
  clear hN1
  have i1 : (n : Int) ≤ (cx : Int) := by have := (owned_cap hox).1; omega
  have icy : (n' : Int) ≤ (cy : Int) := icy0
  go_wp2_with fail
  go_quiet (fail)
  obtain ⟨w4, hnw⟩ : ∃ x, x = w3.drewN nq := ⟨_, rfl⟩
  have hbn : Below w3.heap.size w3 w4 := by rw [hnw]; exact below_drewN (Below.refl _ _) _
  rw [← hnw]
  clear hnw
  have sa := sa.later hbn
  have sb := sb.later hbn
  have fx := fx.later hbn
  have sx := sx.later hbn
  have fy := fy.later hbn
  have sy := sy.later hbn
  have hox := owned_later hox hbn
  have hsn := hbn.size
  have hsp := hb.size
  have hb := bl_trans hb hbn hb.size
  clear hbn
  have N1p := N1le
  have N1le := Nat.le_trans N1le hsn
  obtain ⟨⟨r1, k1⟩, hat⟩ : ∃ r, at_ a ae m = r := ⟨_, rfl⟩
  have HAT9 := hid (fun (A : Option Addr) (n c : Nat) (W : World) (h1 : SS W W.heap.size A n a) (h2 : n ≤ 140737488355328) => (at9 A n c a ae m W h1 h2).mono fun e w' h => two_sides hat h)
  have HAT16 := hid (fun (A : Option Addr) (n c : Nat) (W : World) (h1 : SS W W.heap.size A n a) (h2 : n ≤ 140737488355328) => (at16 A n c a ae m W h1 h2).mono fun e w' h => two_sides hat h)
  clear hat
  have hlt := trim_le a ae m
  rw [HL.out] at hlt
  obtain ⟨⟨tl, kt⟩, htr⟩ : ∃ r, trim a ae m = r := ⟨_, rfl⟩
  rw [htr] at hlt
  obtain ⟨nt, hnt⟩ : ∃ k, k = tl.length := ⟨_, rfl⟩
  have hlt : nt ≤ n := by rw [hnt]; exact hlt
  have HNT := hid hnt.symm
  have HTR12 := hid (fun (A : Option Addr) (n c : Nat) (W : World) (h1 : SS W W.heap.size A n a) (h2 : n ≤ 1000000) => (trim12 A n c a ae m W h1 h2).mono fun e w' h => trim_as htr hnt h)
  have HTR18 := hid (fun (A : Option Addr) (n c : Nat) (W : World) (h1 : SS W W.heap.size A n a) (h2 : n ≤ 1000000) => (trim18 A n c a ae m W h1 h2).mono fun e w' h => trim_as htr hnt h)
  clear htr hnt
  obtain ⟨ck, hck⟩ : ∃ k, Sl.chk a ae = k := ⟨_, rfl⟩
  have HCK11 := hid (fun (A : Option Addr) (n c : Nat) (W : World) (h1 : SS W W.heap.size A n a) (h2 : n ≤ 9223372036854775807) => check11 A n c a ae W h1 h2)
  rw [hck] at HCK11
  have HCK19 := hid (fun (A : Option Addr) (n c : Nat) (W : World) (h1 : SS W W.heap.size A n a) (h2 : n ≤ 9223372036854775807) => check19 A n c a ae W h1 h2)
  rw [hck] at HCK19
  clear hck
  go_wp2_with (go_at_call 9; refine stop_ (fun Ps hPs => ?_))
  refine hPs ?_
  clear hPs Ps
  refine (HAT9.out Ax n cx w4 sx (by omega)).mono ?_
  rintro e w5 ⟨rfl, hbn⟩
  have sa := sa.later hbn
  have sb := sb.later hbn
  have fx := fx.later hbn
  have sx := sx.later hbn
  have fy := fy.later hbn
  have sy := sy.later hbn
  have hox := owned_later hox hbn
  have hsn := hbn.size
  have hsp := hb.size
  have hb := bl_trans hb hbn hb.size
  clear hbn
  have N1p := N1le
  have N1le := Nat.le_trans N1le hsn
  go_wp2_with (go_at_call 16; refine stop_ (fun Ps hPs => ?_))
  refine hPs ?_
  clear hPs Ps
  refine (HAT16.out A n c w5 sa (by omega)).mono ?_
  rintro e w6 ⟨rfl, hbn⟩
  have sa := sa.later hbn
  have sb := sb.later hbn
  have fx := fx.later hbn
  have sx := sx.later hbn
  have fy := fy.later hbn
  have sy := sy.later hbn
  have hox := owned_later hox hbn
  have hsn := hbn.size
  have hsp := hb.size
  have hb := bl_trans hb hbn hb.size
  clear hbn
  have N1p := N1le
  have N1le := Nat.le_trans N1le hsn
  go_wp2_with (go_at_call 10; refine stop_ (fun Ps hPs => ?_))
  refine hPs ?_
  clear hPs Ps
  refine (fork10 Ax Ay n cx n' cy a b ae be w6 sx sy (by omega) (by omega)).mono ?_
  rintro e w7 ⟨xf, kf, rfl, hk, hbn⟩
  have sa := sa.later hbn
  have sb := sb.later hbn
  have fx := fx.later hbn
  have sx := sx.later hbn
  have fy := fy.later hbn
  have sy := sy.later hbn
  have hox := owned_later hox hbn
  have hsn := hbn.size
  have hsp := hb.size
  have hb := bl_trans hb hbn hb.size
  clear hbn
  have N1p := N1le
  have N1le := Nat.le_trans N1le hsn
  have HK := hid hk
  clear hk
  go_wp2_with (go_at_call 17; refine stop_ (fun Ps hPs => ?_))
  refine hPs ?_
  clear hPs Ps
  refine (fork17 A A' n c n' c' a b ae be w7 sa sb (by omega) (by omega)).mono ?_
  rintro e w8 ⟨xf2, kf2, rfl, hk, hbn⟩
  have sa := sa.later hbn
  have sb := sb.later hbn
  have fx := fx.later hbn
  have sx := sx.later hbn
  have fy := fy.later hbn
  have sy := sy.later hbn
  have hox := owned_later hox hbn
  have hsn := hbn.size
  have hsp := hb.size
  have hb := bl_trans hb hbn hb.size
  clear hbn
  have N1p := N1le
  have N1le := Nat.le_trans N1le hsn
  obtain ⟨rfl, rfl⟩ := fk_one HK.out hk
  clear HK hk
  go_wp2_with (go_at_call 12; refine stop_ (fun Ps hPs => ?_))
  refine hPs ?_
  clear hPs Ps
  refine (HTR12.out Ax n cx w8 sx (by omega)).mono ?_
  rintro e w9 ⟨vt, rfl, hot, hbn⟩
  have sa := sa.later hbn
  have sb := sb.later hbn
  have fx := fx.later hbn
  have sx := sx.later hbn
  have fy := fy.later hbn
  have sy := sy.later hbn
  have hox := owned_later hox hbn
  have hsn := hbn.size
  have hsp := hb.size
  have hb := bl_trans hb hbn hb.size
  clear hbn
  have N1p := N1le
  have N1le := Nat.le_trans N1le hsn
  have htge : ∀ g, vt.ownBlock = some g → N1 ≤ g := fun g hg => Nat.le_trans N1p (hot.lt g hg).1
  have hax : ∀ g, vt.ownBlock = some g → (Value.slice Ax (n + 3) cx).ownBlock ≠ some g := fun g hg hg2 => by have := htge g hg; have := hxlt g hg2; omega
  have hot := owned_less hot hsp
  have htl : ∀ g, vt.ownBlock = some g → g < w9.heap.size := fun g hg => (hot.lt g hg).2
  obtain ⟨At, ct, rfl, gt, kt9⟩ := owned_slice hot
  have st : SS w9 w9.heap.size At nt tl := ⟨Rd.of_own hot, HNT.out⟩
  clear gt kt9 htge hxlt
  go_wp2_with (go_at_call 18; refine stop_ (fun Ps hPs => ?_))
  refine hPs ?_
  clear hPs Ps
  refine (HTR18.out A n c w9 sa (by omega)).mono ?_
  rintro e w10 ⟨vu, rfl, hou, hbn⟩
  have sa := sa.later hbn
  have sb := sb.later hbn
  have fx := fx.later hbn
  have sx := sx.later hbn
  have fy := fy.later hbn
  have sy := sy.later hbn
  have st := st.later hbn
  have hox := owned_later hox hbn
  have hot := owned_later hot hbn
  have hsn := hbn.size
  have hsp := hb.size
  have hb := bl_trans hb hbn hb.size
  clear hbn
  have N1p := N1le
  have N1le := Nat.le_trans N1le hsn
  have hau : ∀ g, (Value.slice At nt ct).ownBlock = some g → vu.ownBlock ≠ some g := fun g hg hg2 => by have := htl g hg; have := (hou.lt g hg2).1; omega
  have hou := owned_less hou hsp
  obtain ⟨Au, cu, rfl, gu, ku9⟩ := owned_slice hou
  have su : SS w10 w10.heap.size Au nt tl := ⟨Rd.of_own hou, HNT.out⟩
  clear gu ku9 htl
  have HAX := hid hax
  have HAU := hid hau
  clear hax hau
  go_wp2_with (go_at_call 11; refine stop_ (fun Ps hPs => ?_))
  refine hPs ?_
  clear hPs Ps
  refine (HCK11.out Ax n cx w10 sx (by omega)).mono ?_
  rintro e w11 ⟨rfl, hbn⟩
  have sa := sa.later hbn
  have sb := sb.later hbn
  have fx := fx.later hbn
  have sx := sx.later hbn
  have fy := fy.later hbn
  have sy := sy.later hbn
  have st := st.later hbn
  have su := su.later hbn
  have hox := owned_later hox hbn
  have hot := owned_later hot hbn
  have hou := owned_later hou hbn
  have hsn := hbn.size
  have hsp := hb.size
  have hb := bl_trans hb hbn hb.size
  clear hbn
  have N1p := N1le
  have N1le := Nat.le_trans N1le hsn
  go_wp2_with (go_at_call 19; refine stop_ (fun Ps hPs => ?_))
  refine hPs ?_
  clear hPs Ps
  refine (HCK19.out A n c w11 sa (by omega)).mono ?_
  rintro e w12 ⟨rfl, hbn⟩
  have sa := sa.later hbn
  have sb := sb.later hbn
  have fx := fx.later hbn
  have sx := sx.later hbn
  have fy := fy.later hbn
  have sy := sy.later hbn
  have st := st.later hbn
  have su := su.later hbn
  have hox := owned_later hox hbn
  have hot := owned_later hot hbn
  have hou := owned_later hou hbn
  have hsn := hbn.size
  have hsp := hb.size
  have hb := bl_trans hb hbn hb.size
  clear hbn
  have N1p := N1le
  have N1le := Nat.le_trans N1le hsn
  go_wp2_with (go_at_call 14; refine stop_ (fun Ps hPs => ?_))
  refine hPs ?_
  clear hPs Ps
  refine (same14_self At Au nt ct nt cu _ _ tl w12 st su (by omega) (by omega)).mono ?_
  rintro e w13 ⟨rfl, d, hz⟩
  have hbn : Below w12.heap.size w12 w13 := by rw [hz]; exact below_drewN (Below.refl _ _) d
  clear hz
  have sa := sa.later hbn
  have sb := sb.later hbn
  have fx := fx.later hbn
  have sx := sx.later hbn
  have fy := fy.later hbn
  have sy := sy.later hbn
  have st := st.later hbn
  have su := su.later hbn
  have hox := owned_later hox hbn
  have hot := owned_later hot hbn
  have hou := owned_later hou hbn
  have hsn := hbn.size
  have hsp := hb.size
  have hb := bl_trans hb hbn hb.size
  clear hbn
  have N1p := N1le
  have N1le := Nat.le_trans N1le hsn
  go_wp2_with (go_at_call 20; refine stop_ (fun Ps hPs => ?_))
  refine hPs ?_
  clear hPs Ps
  refine (kept20 Ax A (n + 3) cx n c a w13 fx sa (by omega) (by omega)).mono ?_
  rintro e w14 ⟨rfl, hbn⟩
  have sa := sa.later hbn
  have sb := sb.later hbn
  have fx := fx.later hbn
  have sx := sx.later hbn
  have fy := fy.later hbn
  have sy := sy.later hbn
  have st := st.later hbn
  have su := su.later hbn
  have hox := owned_later hox hbn
  have hot := owned_later hot hbn
  have hou := owned_later hou hbn
  have hsn := hbn.size
  have hsp := hb.size
  have hb := bl_trans hb hbn hb.size
  clear hbn
  have N1p := N1le
  have N1le := Nat.le_trans N1le hsn
  go_wp2_with (go_at_call 20; refine stop_ (fun Ps hPs => ?_))
  refine hPs ?_
  clear hPs Ps
  refine (kept20 Ay A' (n' + 3) cy n' c' b w14 fy sb (by omega) (by omega)).mono ?_
  rintro e w15 ⟨rfl, hbn⟩
  have sa := sa.later hbn
  have sb := sb.later hbn
  have fx := fx.later hbn
  have sx := sx.later hbn
  have fy := fy.later hbn
  have sy := sy.later hbn
  have st := st.later hbn
  have su := su.later hbn
  have hox := owned_later hox hbn
  have hot := owned_later hot hbn
  have hou := owned_later hou hbn
  have hsn := hbn.size
  have hsp := hb.size
  have hb := bl_trans hb hbn hb.size
  clear hbn
  have N1p := N1le
  have N1le := Nat.le_trans N1le hsn
  go_wp2_with (go_at_call 21; refine stop_ (fun Ps hPs => ?_))
  refine hPs ?_
  clear hPs Ps
  have hap := apart21 w.heap.size (.slice At nt ct) (.slice Ax (n + 3) cx) (.slice Au nt cu) tl (lentS a) tl w15 (by rw [HNT.out]; exact hot) (by rw [lentS_length, HL.out]; exact hox) (by rw [HNT.out]; exact hou) HAX.out HAU.out hb.size (by rw [HNT.out]; omega) (by rw [lentS_length, HL.out]; omega) (by rw [HNT.out]; omega)
  refine hap.mono ?_
  rintro e wz ⟨rfl, hbn⟩
  have hb := hb.trans hbn
  go_wp2_with fail
  go_ret
  exact ⟨rfl, hb⟩
end Go.Proofs.Ytmlfbjcgmbdafaa
