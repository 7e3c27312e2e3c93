/- What lent commits tell. -/
import Derived.Test.YtmlfbjcgmbdafaaUj
import Derived.Test.YtmlfbjcgmbdafaaUe
namespace Go.Proofs.Ytmlfbjcgmbdafaa
open Go.RowKit Go.Lg
set_option linter.unusedVariables false
set_option linter.unusedSimpArgs false

def ky (m : Cm) : Int × Int × List Op3 := (m.ep, m.num, m.os)
theorem k_ky {m m' : Cm} (h : ky m = ky m') : m.k = m'.k := by
  simp only [ky, Prod.mk.injEq] at h
  obtain ⟨h1, h2, h3⟩ := h
  simp only [Cm.k, Cm.in_, h1, h2, h3]
theorem fol_ky : ∀ (cs cs' : List Cm) (ep num : Int) (i : Nat), cs.map ky = cs'.map ky → fol ep num i cs = fol ep num i cs'
  | [], [], ep, num, i, _ => rfl
  | [], m :: cs', ep, num, i, h => by simp at h
  | m :: cs, [], ep, num, i, h => by simp at h
  | m :: cs, m' :: cs', ep, num, i, h => by
    simp only [List.map_cons, List.cons.injEq] at h
    have hk := k_ky h.1
    have h1 := h.1
    simp only [ky, Prod.mk.injEq] at h1
    simp only [fol, hk, h1.1, h1.2.1]
    rw [fol_ky cs cs' _ _ _ h.2]
theorem tl_ky {cs cs' : List Cm} (h : cs.map ky = cs'.map ky) : tl cs = tl cs' := by
  have e1 : ∀ cs : List Cm, tl cs = (cs.map ky).foldl (fun acc q => gr acc q.1 q.2.1) [] := by
    intro cs
    unfold tl
    rw [List.foldl_map]
    rfl
  rw [e1, e1, h]
theorem lcs_ky {w : World} {B : Nat} {cs cs' : List Cm} (h : LCs B w cs cs') (hl : cs'.length = cs.length) : cs'.map ky = cs.map ky := by
  apply List.ext_getElem?
  intro i
  rw [List.getElem?_map, List.getElem?_map]
  rcases Nat.lt_or_ge i cs.length with hi | hi
  · obtain ⟨k1, k2, k3, k4, _⟩ := h i cs[i] (cs'[i]'(by omega)) (List.getElem?_eq_getElem _) (List.getElem?_eq_getElem _)
    rw [List.getElem?_eq_getElem hi, List.getElem?_eq_getElem (by omega)]
    simp [ky, k1, k2, k4]
  · rw [List.getElem?_eq_none hi, List.getElem?_eq_none (by omega)]
theorem os_front {w : World} {B n : Nat} {A : Option Addr} {os : List Op3} (h : OS w B A (n + 3) (lentO os)) (hn : os.length = n) : OS w B A n os := by
  have h1 := h.1.take (k := n) (by omega)
  have e1 : (opc (lentO os)).take (n * 3) = opc os := by
    unfold lentO
    rw [opc_app, List.take_left' (by
      have : ∀ l : List Op3, (opc l).length = l.length * 3 := by
        intro l
        induction l with
        | nil => rfl
        | cons a l ih => simp only [opc, List.flatMap_cons, List.length_append, List.length_cons, List.length_nil] at ih ⊢; omega
      rw [this, hn])]
  rw [e1] at h1
  exact ⟨h1, hn⟩
theorem lcs_lrs {w : World} {B : Nat} {cs cs' : List Cm} (h : LCs B w cs cs') (hn : ∀ m ∈ cs, m.os.length = m.n) : LRs w.heap.size w cs cs' := by
  intro i m m' h1 h2
  obtain ⟨k1, k2, k3, k4, k5⟩ := h i m m' h1 h2
  have hm := hn m (List.mem_of_getElem? h1)
  obtain ⟨A, c, hv, g1, g2⟩ := owned_slice k5
  simp only [Value.slice.injEq] at hv
  refine ⟨k1, k2, k3, k4, ⟨Rd.of_own k5, by rw [lentO_length, hm]⟩, by omega⟩
theorem lents_cs {w : World} {B n c : Nat} {A : Option Addr} {cs cs' : List Cm} (h : LCs B w cs cs') (hl : cs'.length = n) (hc : cs.length = n) (ho : w.ownsRow B 40 3 (.slice A (n + 3) c) (n + 3) (cmc (cs' ++ spareC))) (hn : ∀ m ∈ cs, m.os.length = m.n ∧ m.n ≤ 9223372036854775807) :
    CS w w.heap.size A (n + 3) (cs' ++ spareC) := by
  refine ⟨Rd.of_own ho, by rw [List.length_append, hl]; rfl, ?_⟩
  intro m hm
  rw [List.mem_append] at hm
  rcases hm with hm | hm
  · obtain ⟨i, hi, rfl⟩ := List.getElem_of_mem hm
    have h1 : cs[i]? = some (cs[i]'(by omega)) := List.getElem?_eq_getElem _
    have h2 : cs'[i]? = some cs'[i] := List.getElem?_eq_getElem _
    obtain ⟨k1, k2, k3, k4, k5, k6⟩ := lcs_lrs h (fun m hm => (hn m hm).1) i _ _ h1 h2
    have h9 := hn _ (List.mem_of_getElem? h1)
    rw [k3, k4]
    exact ⟨os_front k5 h9.1, h9.2⟩
  · have : m = ⟨-7, 0, none, 0, 0, []⟩ := by simpa [spareC] using hm
    subst this
    exact ⟨⟨Rd.nil_, rfl⟩, by decide⟩
theorem cs_front {w : World} {B n : Nat} {A : Option Addr} {cs' : List Cm} (h : CS w B A (n + 3) (cs' ++ spareC)) (hl : cs'.length = n) : CS w B A n cs' := by
  have h1 := h.1.take (k := n) (by omega)
  have e1 : (cmc (cs' ++ spareC)).take (n * 3) = cmc cs' := by
    rw [cmc_app, List.take_left' (by
      have : ∀ l : List Cm, (cmc l).length = l.length * 3 := by
        intro l
        induction l with
        | nil => rfl
        | cons a l ih => simp only [cmc, List.flatMap_cons, List.length_append, List.length_cons, List.length_nil] at ih ⊢; omega
      rw [this, hl])]
  rw [e1] at h1
  exact ⟨h1, hl, fun m hm => h.2.2 m (List.mem_append_left _ hm)⟩
end Go.Proofs.Ytmlfbjcgmbdafaa
