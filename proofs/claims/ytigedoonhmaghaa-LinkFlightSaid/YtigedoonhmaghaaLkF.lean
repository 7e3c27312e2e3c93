/- Links: what is in flight, by the program and by the document. -/
import Derived.Test.YtigedoonhmaghaaLjF
namespace Go.Proofs.Ytigedoonhmaghaa
open Go.RowKit Go.Lg
variable {F : Nat}
set_option linter.unusedVariables false
set_option linter.unusedSimpArgs false

def Apart (l : List Lt) : Prop := ∀ (i j : Nat) (x y : Lt), l[i]? = some x → l[j]? = some y → i ≠ j → ∀ g, x.v.ownBlock = some g → y.v.ownBlock ≠ some g
/-- New letters, up to the k-th: as those of ls, in memory of the call's own, apart. -/
structure Fl (H : Nat) (wr : World) (ls ls' : List Lt) (k : Nat) : Prop where
  len : ls'.length = k
  keys : ls'.map Lt.k = (ls.take k).map Lt.k
  own : ∀ x ∈ ls', Own1 H wr x
  apart : Apart ls'
theorem Fl.start (H : Nat) (wr : World) (ls : List Lt) : Fl H wr ls [] 0 := ⟨rfl, by simp, fun x hx => absurd hx List.not_mem_nil, fun i j x y h => by simp at h⟩
theorem Fl.keep {H : Nat} {w w' : World} {ls ls' : List Lt} {k : Nat} (h : Fl H w ls ls' k) (hk : ∀ x, Own1 H w x → Own1 H w' x) : Fl H w' ls ls' k := ⟨h.len, h.keys, fun x hx => hk x (h.own x hx), h.apart⟩
theorem Fl.snoc {H : Nat} {w w' : World} {ls ls' : List Lt} {k : Nat} {x : Lt} {u : Value} (h : Fl H w ls ls' k) (hx : ls[k]? = some x) (hH : H ≤ w.heap.size) (ho : w'.ownsRow w.heap.size 5 1 u x.b.length (bts x.b)) (hb : Below w.heap.size w w') (h40 : x.b.length ≤ 40) (ht : x.to = 0 ∨ x.to = 1) :
    Fl H w' ls (ls' ++ [⟨x.n, x.to, u, x.b⟩]) (k + 1) := by
  refine ⟨by simp [h.len], ?_, ?_, ?_⟩
  · rw [List.map_append, h.keys, take_succ_get? hx, List.map_append]
    rfl
  · intro y hy
    rw [List.mem_append, List.mem_singleton] at hy
    rcases hy with hy | rfl
    · exact (h.own y hy).later hb
    · exact ⟨owned_less ho hH, h40, ht⟩
  · intro i j a b ha hb2 hij g hg hg2
    have key : ∀ (i j : Nat) (a b : Lt), (ls' ++ [(⟨x.n, x.to, u, x.b⟩ : Lt)])[i]? = some a → (ls' ++ [(⟨x.n, x.to, u, x.b⟩ : Lt)])[j]? = some b → i < j → ∀ g, a.v.ownBlock = some g → b.v.ownBlock = some g → False := by
      intro i j a b ha hb2 hij g hg hg2
      have hj := (List.getElem?_eq_some_iff.1 hb2).1
      simp only [List.length_append, List.length_singleton] at hj
      rw [List.getElem?_append_left (by omega)] at ha
      rcases Nat.lt_or_ge j ls'.length with h1 | h1
      · rw [List.getElem?_append_left h1] at hb2
        exact h.apart i j a b ha hb2 (by omega) g hg hg2
      · obtain rfl : j = ls'.length := by omega
        rw [List.getElem?_append_right (Nat.le_refl _)] at hb2
        simp at hb2
        subst hb2
        have q1 := ((h.own a (List.mem_of_getElem? ha)).own.lt g hg).2
        have q2 := (ho.lt g hg2).1
        omega
    rcases Nat.lt_or_gt_of_ne hij with h1 | h1
    · exact key i j a b ha hb2 h1 g hg hg2
    · exact key j i b a hb2 ha h1 g hg2 hg
/-- All letters in flight, in new memory. -/
def Flown (ls : List Lt) (w : World) (e : Ending) (w' : World) : Prop :=
  ∃ v ls', e = .returned v ∧ w'.ownsRow w.heap.size 31 3 v ls'.length (ltc ls') ∧ Fl w.heap.size w' ls ls' ls.length ∧ Below w.heap.size w w'
theorem ltc_set (a r : List Lt) (x : Lt) (u : Value) : (ltc (a ++ x :: r)).set (a.length * 3 + 2) u = ltc (a ++ ⟨x.n, x.to, u, x.b⟩ :: r) := by
  rw [ltc_app, ltc_app, List.set_append_right _ _ (by rw [ltc_length]; omega), ltc_length, Nat.add_sub_cancel_left, ltc_cons, ltc_cons]
  rfl
theorem drop_get {α : Type} {l : List α} {k : Nat} {x : α} (h : l[k]? = some x) : l.drop k = x :: l.drop (k + 1) := by
  obtain ⟨hk, rfl⟩ := List.getElem?_eq_some_iff.1 h
  exact List.drop_eq_getElem_cons hk
set_option maxHeartbeats 4000000 in
set_option maxRecDepth 100000 in
theorem flight21 {B z : Nat} {last : Int} {sv : Value} {ls : List Lt} {w : World} (h : LX F false w B z last sv ls) : Calls Try.prog 21 #[P z] w (Flown ls w) := by
  have HN := hid (none27 h)
  have hone := ltc_one h.by_
  obtain ⟨A, c, rfl, hc1, hc2⟩ := owned_slice h.own
  have kz : Blk w z 55 #[.bool true, .int .i64 last, .slice A ls.length c] := h.blk
  have z2 : w.cell? ⟨z, 2, none⟩ = some (.slice A ls.length c) := kz.cell 2
  have HC := hid (clone37 A c ls w (Rd.of_own h.own) hone h.le)
  have H := hid h
  have h5 := h.le
  obtain ⟨H0, hH0⟩ : ∃ H0, H0 = w.heap.size := ⟨_, rfl⟩
  have HH := hid hH0
  obtain ⟨m, hm⟩ : ∃ m, m = ls.length := ⟨_, rfl⟩
  have HM := hid hm
  rw [← hm] at h5
  clear h hone hc1 hc2 kz hH0 hm
  go_enter Try.func21, Try.ntmps21
  go_wp2_with (go_at_call 27; refine stop_ (fun Ps hPs => ?_))
  refine hPs ?_
  clear hPs Ps
  refine HN.out.mono ?_
  rintro e w1 ⟨rfl, h9⟩
  subst h9
  go_wp2_with (go_at_call 37; refine stop_ (fun Ps hPs => ?_))
  refine hPs ?_
  clear hPs Ps
  refine HC.out.mono ?_
  rintro e w2 ⟨v2, rfl, ho2, hb2⟩
  rw [← HM.out] at ho2
  have h2 := H.out.later hb2
  rcases owned_form0 ho2 with ⟨rfl, h0⟩ | ⟨g, c2, rfl⟩
  · have HO := hid ho2
    have HB := hid hb2
    clear ho2 hb2 h2
    subst h0
    go_wp2_with fail
    go_loopg [4, 14] 0 (fun gg a b wr => gg = 0 ∧ b = .int .i64 0 ∧ wr = w2)
    case atStart => exact ⟨rfl, rfl, rfl⟩
    case round =>
      obtain ⟨rfl, rfl, rfl⟩ := hrel
      go_wp2_with fail
      go_ret
      have hl : ls = [] := List.length_eq_zero_iff.1 HM.out.symm
      subst hl
      exact ⟨_, [], rfl, HO.out, Fl.start _ _ _, HB.out⟩
  · have hcap := owned_cap ho2
    rw [← HH.out] at ho2 hb2
    have HO := hid ho2
    have HB := hid hb2
    have H2 := hid h2
    clear ho2 hb2 h2
    go_wp2_with fail
    go_loopg [4, 14] m (fun gg a b wr => ∃ (k : Nat) (ls' : List Lt), k ≤ m ∧ gg = m - k ∧ b = .int .i64 k ∧ Hid (wr.ownsRow H0 31 3 (.slice (some ⟨g, 0, none⟩) m c2) m (ltc (ls' ++ ls.drop k))) ∧ Hid (Fl H0 wr ls ls' k) ∧ Hid (Below H0 w1 wr))
    case atStart => exact ⟨0, [], by omega, rfl, rfl, HO, hid (Fl.start _ _ _), HB⟩
    case round =>
      obtain ⟨k, ls', hk, rfl, rfl, HOr, HFr, HBr⟩ := hrel
      by_cases hlt : k < m
      · obtain ⟨x, hx⟩ : ∃ x, ls[k]? = some x := ⟨ls[k]'(by rw [← HM.out]; exact hlt), List.getElem?_eq_getElem _⟩
        have hr := H.out.later (show Below w1.heap.size w1 wr by rw [← HH.out]; exact HBr.out)
        have hox := hr.by_ _ (List.mem_of_getElem? hx)
        have hdr := drop_get hx
        have hxk : (ls' ++ ls.drop k)[k]? = some x := by
          rw [hdr, List.getElem?_append_right (by have := HFr.out.len; omega), HFr.out.len, Nat.sub_self]
          rfl
        obtain ⟨g', off', e9, hg, c0, c1, c2'⟩ := ltAt (Rd.of_own HOr.out) hxk
        injection e9 with e9
        injection e9 with e8 e9
        subst e8 e9
        have hw2 := HOr.out.frozenAt (k * 3 + 2)
        obtain ⟨xn, xt, xv, xb⟩ := x
        obtain ⟨Ax, cx, e9, _, _⟩ := owned_slice hox.own
        simp only at e9
        subst e9
        simp only [Nat.zero_add] at c0 c1 c2'
        have hki : (k : Int) < (m : Int) := by omega
        have hk0 : (0 : Int) ≤ (k : Int) := Int.natCast_nonneg _
        have hk5 : (k : Int) < 512 := by omega
        have HCL := hid (clone38 Ax xb.length cx xb wr (Rd.of_own hox.own) (by have := hox.le; simp only at this; omega))
        have HX := hid hx
        have HD := hid hdr
        have HOX := hid hox
        have hH0 : H0 ≤ wr.heap.size := by rw [HH.out]; exact HBr.out.size
        have HHS := hid hH0
        clear hx hdr hox hr hxk c0 c1 hH0
        go_wp2_with (go_at_call 38; refine stop_ (fun Ps hPs => ?_))
        refine hPs ?_
        clear hPs Ps c2' hw2
        refine HCL.out.mono ?_
        rintro e w3 ⟨u, rfl, hu, hbu⟩
        have ho3 := owned_later HOr.out hbu
        have hw2 := ho3.frozenAt (k * 3 + 2)
        have hc2 : ∃ y, w3.cell? ⟨g, k * 3 + 2, none⟩ = some y := by
          rw [ho3.cellAt (k * 3 + 2) (by omega)]
          exact ⟨_, List.getElem?_eq_getElem (by rw [ho3.1]; omega)⟩
        obtain ⟨y, hc2⟩ := hc2
        have hst := ho3.stored (k * 3 + 2) u
        have hfl := (HFr.out.snoc (u := u) HX.out HHS.out hu hbu HOX.out.le HOX.out.to).keep (w' := w3.setCell ⟨g, k * 3 + 2, none⟩ u) (fun x hx9 => hx9.keep (owned_gb hx9.own hst.2 fun g9 h1 h2 => ne_by_type hx9.own ho3 (by decide) g9 h1 h2.symm))
        have hrow : (w3.setCell ⟨g, k * 3 + 2, none⟩ u).ownsRow H0 31 3 (.slice (some ⟨g, 0, none⟩) m c2) m (ltc ((ls' ++ [⟨xn, xt, u, xb⟩]) ++ ls.drop (k + 1))) := by
          have h9 := hst.1
          have e9 := ltc_set ls' (ls.drop (k + 1)) ⟨xn, xt, .slice Ax xb.length cx, xb⟩ u
          rw [HFr.out.len] at e9
          rw [HD.out, e9] at h9
          rw [List.append_assoc]
          exact h9
        have hlow := (HBr.out.trans (hbu.mono HHS.out)).setCell (p := ⟨g, k * 3 + 2, none⟩) (HO.out.lt g rfl).1 u
        obtain ⟨A3, c3, rfl, _, _⟩ := owned_slice hu
        have HR1 := hid hrow
        have HR2 := hid hfl
        have HR3 := hid hlow
        clear hu hbu ho3 hst hfl hrow hlow
        go_wp2_with fail
        go_roundg (m - (k + 1))
        case measure => omega
        case rel => exact ⟨k + 1, _, by omega, rfl, by go_num, HR1, HR2, HR3⟩
      · obtain rfl : k = m := by omega
        have hki : ¬ (k : Int) < (k : Int) := by omega
        go_wp2_with fail
        go_ret
        have h9 := HOr.out
        rw [List.drop_of_length_le (by have := HM.out; omega), List.append_nil] at h9
        refine ⟨_, ls', rfl, ?_, ?_, ?_⟩
        · rw [← HH.out, HFr.out.len]; exact h9
        · rw [← HH.out, ← HM.out]; exact HFr.out
        · rw [← HH.out]; exact HBr.out
end Go.Proofs.Ytigedoonhmaghaa
