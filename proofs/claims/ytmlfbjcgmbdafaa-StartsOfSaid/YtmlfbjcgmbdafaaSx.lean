/- The starts of a log grow commit by commit: the plain law. -/
import Derived.Test.YtmlfbjcgmbdafaaSw
namespace Go.Proofs.Ytmlfbjcgmbdafaa
open Go.RowKit Go.Lg
set_option linter.unusedVariables false
set_option linter.unusedSimpArgs false

theorem E_app {l : List (Int × Int)} {s : Int × Int} {i : Nat} (h : i < l.length) : Sl.E (l ++ [s]) i = Sl.E l i ∧ Sl.F (l ++ [s]) i = Sl.F l i := by
  simp [Sl.E, Sl.F, List.getElem?_append_left h, List.getD_eq_getElem?_getD]
theorem E_new (l : List (Int × Int)) (s : Int × Int) : Sl.E (l ++ [s]) l.length = s.1 ∧ Sl.F (l ++ [s]) l.length = s.2 := by
  simp [Sl.E, Sl.F, List.getD_eq_getElem?_getD]
/-- The starts of k commits with epochs p. -/
structure Gs (p : Nat → Int) (k : Nat) (l : List (Int × Int)) : Prop where
  ok : Sl.ok l k
  last : 0 < k → Sl.E l (l.length - 1) = p (k - 1)
  ep : ∀ x : Nat, x ≤ k → Sl.ep l x = if x = 0 then 0 else p (x - 1)
theorem cnt_app {l : List (Int × Int)} {s : Int × Int} {x : Int} (h : x < s.2) : Sl.cnt (l ++ [s]) x = Sl.cnt l x := by
  induction l with
  | nil => simp [Sl.cnt]; omega
  | cons a l ih =>
    simp only [List.cons_append, Sl.cnt, ih]
theorem cnt_all {l : List (Int × Int)} {e x : Int} (h : Sl.ok l e) (hx : e ≤ x) : Sl.cnt l x = l.length :=
  Sl.cnt_of (Nat.le_refl _) (fun i hi => Int.le_trans (Sl.F_end h hi) hx) (fun h => absurd h (Nat.lt_irrefl _))
theorem gs_zero (p : Nat → Int) : Gs p 0 [] :=
  ⟨by decide, fun h => absurd h (by omega), fun x hx => by obtain rfl : x = 0 := by omega
                                                           rfl⟩
theorem gs_step {p : Nat → Int} {k : Nat} {l : List (Int × Int)} (h : Gs p k l) (hk : k < 1000) (h1 : 1 ≤ p k) (h2 : p k ≤ 1048576) (h3 : 0 < k → p (k - 1) ≤ p k) :
    Gs p (k + 1) (gr l (p k) ((k : Int) + 1)) := by
  have hok := h.ok
  have hlen : l.length = 0 ↔ k = 0 := by
    have := hok.1.2.2
    constructor
    · intro h0
      have := this.1 h0
      omega
    · intro h0
      exact this.2 (by omega)
  unfold gr
  split
  · rename_i hc
    obtain ⟨c1, c2⟩ := hc
    have hok2 : Sl.ok l ((k + 1 : Nat) : Int) := ⟨⟨by omega, by omega, by constructor <;> intro h0 <;> omega⟩, fun i hi => by
      obtain ⟨g1, g2, g3, g4, g5⟩ := hok.2 i hi
      exact ⟨g1, g2, g3, by omega, g5⟩⟩
    refine ⟨hok2, fun _ => by rw [c2]; rfl, fun x hx => ?_⟩
    rcases Nat.lt_or_ge x (k + 1) with h9 | h9
    · exact h.ep x (by omega)
    · obtain rfl : x = k + 1 := by omega
      have hc := cnt_all hok (x := ((k + 1 : Nat) : Int)) (by omega)
      rw [if_neg (by omega), Nat.add_sub_cancel]
      unfold Sl.ep Sl.epo
      rw [hc, if_neg (by omega), c2]
  · rename_i hc
    have hlt : ∀ i, i < l.length → Sl.E l i < p k := by
      intro i hi
      have hkp : 0 < k := by
        rcases Nat.eq_zero_or_pos k with h0 | h0
        · have := hlen.2 h0
          omega
        · exact h0
      have hl1 := h.last hkp
      have hne : Sl.E l (l.length - 1) ≠ p k := fun hq => hc ⟨by omega, hq⟩
      have h4 := h3 hkp
      have hle : Sl.E l i ≤ Sl.E l (l.length - 1) := by
        rcases Nat.lt_or_ge i (l.length - 1) with h5 | h5
        · have := Sl.E_lt hok h5 (by omega)
          omega
        · obtain rfl : i = l.length - 1 := by omega
          exact Int.le_refl _
      omega
    have hfl : ∀ i, i < l.length → Sl.F l i ≤ (k : Int) := fun i hi => Sl.F_end hok hi
    have hok2 : Sl.ok (l ++ [(p k, (k : Int) + 1)]) ((k + 1 : Nat) : Int) := by
      refine ⟨⟨by omega, by omega, by simp; omega⟩, fun i hi => ?_⟩
      rw [List.length_append, List.length_singleton] at hi
      rcases Nat.lt_or_ge i l.length with h5 | h5
      · obtain ⟨g1, g2, g3, g4, g5⟩ := hok.2 i h5
        obtain ⟨e1, e2⟩ := E_app (s := (p k, (k : Int) + 1)) h5
        unfold Sl.good
        rw [e1, e2]
        rcases Nat.eq_zero_or_pos i with h6 | h6
        · rw [if_pos h6] at g1 g3 ⊢
          rw [if_pos h6]
          exact ⟨g1, g2, g3, by omega, g5⟩
        · obtain ⟨e3, e4⟩ := E_app (l := l) (s := (p k, (k : Int) + 1)) (i := i - 1) (by omega)
          rw [if_neg (by omega)] at g1 g3 ⊢
          rw [if_neg (by omega), e3, e4]
          exact ⟨g1, g2, g3, by omega, g5⟩
      · obtain rfl : i = l.length := by omega
        obtain ⟨e1, e2⟩ := E_new l (p k, (k : Int) + 1)
        unfold Sl.good
        rw [e1, e2]
        rcases Nat.eq_zero_or_pos l.length with h6 | h6
        · have hk0 := hlen.1 h6
          rw [if_pos h6, if_pos h6]
          exact ⟨by show 0 < p k; omega, h2, by show (0 : Int) < (k : Int) + 1; omega, by show (k : Int) + 1 ≤ ((k + 1 : Nat) : Int); omega, fun _ => by show (k : Int) + 1 = 1; omega⟩
        · obtain ⟨e3, e4⟩ := E_app (l := l) (s := (p k, (k : Int) + 1)) (i := l.length - 1) (by omega)
          have q1 := hlt (l.length - 1) (by omega)
          have q2 := hfl (l.length - 1) (by omega)
          rw [if_neg (by omega), if_neg (by omega), e3, e4]
          exact ⟨q1, h2, by show Sl.F l (l.length - 1) < (k : Int) + 1; omega, by show (k : Int) + 1 ≤ ((k + 1 : Nat) : Int); omega, fun h0 => by omega⟩
    refine ⟨hok2, fun _ => by rw [List.length_append, List.length_singleton, Nat.add_sub_cancel, (E_new l _).1]; rfl, fun x hx => ?_⟩
    rcases Nat.lt_or_ge x (k + 1) with h9 | h9
    · have hcn := cnt_app (l := l) (s := (p k, (k : Int) + 1)) (x := (x : Int)) (by show (x : Int) < (k : Int) + 1; omega)
      have hcl := Sl.cnt_le l x
      rw [← h.ep x (by omega)]
      unfold Sl.ep Sl.epo
      rw [hcn]
      split
      · rfl
      · rw [(E_app (by omega)).1]
    · obtain rfl : x = k + 1 := by omega
      have hcn := cnt_all hok2 (x := ((k + 1 : Nat) : Int)) (Int.le_refl _)
      rw [if_neg (by omega), Nat.add_sub_cancel]
      unfold Sl.ep Sl.epo
      rw [hcn, List.length_append, List.length_singleton, if_neg (by omega), Nat.add_sub_cancel, (E_new l _).1]
/-- Front parts. -/
theorem gr_take {l : List (Int × Int)} {e num : Int} {x : Int} (hx : x < num) : (gr l e num).take (Sl.cnt (gr l e num) x) = l.take (Sl.cnt l x) := by
  unfold gr
  split
  · rfl
  · rw [cnt_app (by exact hx), List.take_append_of_le_length (Sl.cnt_le l x)]

/-- Commits of such a log. -/
def Lg (p : Nat → Int) (n : Nat) (cs : List Cm) : Prop := cs.length = n ∧ ∀ i m, cs[i]? = some m → m.ep = p i ∧ m.num = (i : Int) + 1 ∧ m.os = [kop]
def Rise (p : Nat → Int) (n : Nat) : Prop := (∀ i, i < n → 1 ≤ p i ∧ p i ≤ 1048576) ∧ ∀ i, i + 1 < n → p i ≤ p (i + 1)
theorem Lg.take {p : Nat → Int} {n k : Nat} {cs : List Cm} (h : Lg p n cs) (hk : k ≤ n) : Lg p k (cs.take k) := by
  refine ⟨by rw [List.length_take, h.1]; omega, fun i m hm => ?_⟩
  rw [List.getElem?_take] at hm
  split at hm
  · exact h.2 i m hm
  · cases hm
theorem gs_tl {p : Nat → Int} {n : Nat} (hr : Rise p n) (hn : n ≤ 1000) : ∀ (k : Nat) (cs : List Cm), k ≤ n → Lg p k cs → Gs p k (tl cs)
  | 0, cs, _, h => by
    obtain rfl : cs = [] := List.eq_nil_of_length_eq_zero h.1
    exact gs_zero p
  | k + 1, cs, hk, h => by
    have hl := h.1
    have hcs : cs = cs.take k ++ [cs[k]'(by omega)] := by
      have h1 := List.take_succ_eq_append_getElem (l := cs) (i := k) (by omega)
      rw [List.take_of_length_le (by omega)] at h1
      exact h1
    obtain ⟨e1, e2, e3⟩ := h.2 k _ (List.getElem?_eq_getElem (by omega))
    have hg := gs_tl hr hn k (cs.take k) (by omega) (h.take (by omega))
    have hb := hr.1 k (by omega)
    have hst := gs_step hg (by omega) hb.1 hb.2 (fun h0 => by
      have := hr.2 (k - 1) (by omega)
      rwa [show k - 1 + 1 = k by omega] at this)
    rw [hcs, tl_snoc, e1, e2]
    exact hst
theorem tl_take {p : Nat → Int} {n : Nat} {cs : List Cm} (hr : Rise p n) (hn : n ≤ 1000) (h : Lg p n cs) (x : Nat) : ∀ d k, k = x + d → k ≤ n → (tl (cs.take k)).take (Sl.cnt (tl (cs.take k)) x) = tl (cs.take x)
  | 0, k, hk, hkn => by
    obtain rfl : k = x := by omega
    have hg := gs_tl hr hn k (cs.take k) hkn (h.take hkn)
    rw [cnt_all hg.ok (Int.le_refl _), List.take_length]
  | d + 1, k, hk, hkn => by
    obtain ⟨k', rfl⟩ : ∃ k', k = k' + 1 := ⟨k - 1, by omega⟩
    have hi : cs[k']? = some (cs[k']'(by rw [h.1]; omega)) := List.getElem?_eq_getElem _
    obtain ⟨e1, e2, e3⟩ := h.2 k' _ hi
    rw [take_succ_get? hi, tl_snoc, e2, gr_take (by omega)]
    exact tl_take hr hn h x d k' (by omega) (by omega)
theorem k_zero {p : Nat → Int} {n i : Nat} {cs : List Cm} {m : Cm} (hr : Rise p n) (hn : n ≤ 1000) (h : Lg p n cs) (hm : cs[i]? = some m) : m.k = 0 := by
  have hi : i < n := by rw [← h.1]; exact (List.getElem?_eq_some_iff.1 hm).1
  obtain ⟨e1, e2, e3⟩ := h.2 i m hm
  have hb := hr.1 i hi
  unfold Cm.k
  rw [if_pos, e3]
  · exact bk_kop
  · unfold Cm.in_
    rw [e1, e2]
    exact ⟨hb, by omega, by omega⟩
theorem fol_zero : ∀ (cs : List Cm) (ep num : Int) (i : Nat), (∀ m ∈ cs, m.k = 0) → (∀ m, cs[0]? = some m → m.num - 1 = num ∧ ep ≤ m.ep) → (∀ j m m', cs[j]? = some m → cs[j + 1]? = some m' → m'.num - 1 = m.num ∧ m.ep ≤ m'.ep) → fol ep num i cs = (0, 0)
  | [], _, _, _, _, _, _ => rfl
  | m :: r, ep, num, i, h1, h2, h3 => by
    obtain ⟨a1, a2⟩ := h2 m rfl
    have a3 := h1 m (by simp)
    simp only [fol]
    rw [if_neg (by simpa using a3), if_neg (by omega)]
    exact fol_zero r m.ep m.num (i + 1) (fun x hx => h1 x (by simp [hx])) (fun x hx => h3 0 m x rfl (by simpa using hx)) (fun j x x' hx hx' => h3 (j + 1) x x' (by simpa using hx) (by simpa using hx'))
theorem fol_lg {p : Nat → Int} {n : Nat} {cs : List Cm} (hr : Rise p n) (hn : n ≤ 1000) (h : Lg p n cs) : fol 0 0 0 cs = (0, 0) := by
  refine fol_zero cs 0 0 0 (fun m hm => ?_) (fun m hm => ?_) (fun j m m' hm hm' => ?_)
  · obtain ⟨i, hi, rfl⟩ := List.getElem_of_mem hm
    exact k_zero hr hn h (List.getElem?_eq_getElem hi)
  · obtain ⟨e1, e2, _⟩ := h.2 0 m hm
    have hi : 0 < n := by rw [← h.1]; exact (List.getElem?_eq_some_iff.1 hm).1
    have := hr.1 0 hi
    omega
  · obtain ⟨e1, e2, _⟩ := h.2 j m hm
    obtain ⟨d1, d2, _⟩ := h.2 (j + 1) m' hm'
    have hi : j + 1 < n := by rw [← h.1]; exact (List.getElem?_eq_some_iff.1 hm').1
    have := hr.2 j hi
    omega
end Go.Proofs.Ytmlfbjcgmbdafaa
