/- Commits copied; two logs with one first part: the plain law. -/
import Derived.Test.YtmlfbjcgmbdafaaSy
namespace Go.Proofs.Ytmlfbjcgmbdafaa
open Go.RowKit Go.Lg
set_option linter.unusedVariables false
set_option linter.unusedSimpArgs false

theorem tl_pairs {a b : List Cm} (h : a.map pairOf = b.map pairOf) : tl a = tl b := by
  have key : ∀ (cs : List Cm) (acc : List (Int × Int)), cs.foldl (fun acc m => gr acc m.ep m.num) acc = (cs.map pairOf).foldl (fun acc s => gr acc s.1 s.2) acc := by
    intro cs
    induction cs with
    | nil => intro acc; rfl
    | cons m cs ih => intro acc; simp only [List.foldl_cons, List.map_cons, pairOf]; exact ih _
  unfold tl
  rw [key, key, h]
/-- Epochs behind a first part. -/
def pq (p : Nat → Int) (nc : Nat) (E : Int) (bs : List Bool) (i : Nat) : Int := if i < nc then p i else E + 2 * ((bs.take (i - nc + 1)).count true : Nat)
theorem lg_behind {p : Nat → Int} {nc n B : Nat} {bs : List Bool} {E : Int} {c a : List Cm} {w : World} (hc : Lg p nc c) (h : a.map pairOf = c.map pairOf ++ pr E ((nc : Nat) + 1) bs n) (hk : ∀ m ∈ a, KC B w m) : Lg (pq p nc E bs) (nc + n) a := by
  have hlc : (c.map pairOf).length = nc := by rw [List.length_map, hc.1]
  refine ⟨by have := congrArg List.length h; simp [pr, hc.1] at this; omega, fun i m hm => ?_⟩
  have h1 : (a.map pairOf)[i]? = some (pairOf m) := by rw [List.getElem?_map, hm]; rfl
  rw [h] at h1
  refine ⟨?_, ?_, (hk m (List.mem_of_getElem? hm)).1⟩
  · unfold pq
    split
    · rename_i hi
      rw [List.getElem?_append_left (by omega), List.getElem?_map, Option.map_eq_some_iff] at h1
      obtain ⟨m', hm', he⟩ := h1
      have := (hc.2 i m' hm').1
      simp only [pairOf, Prod.mk.injEq] at he
      rw [← he.1, this]
    · rename_i hi
      rw [List.getElem?_append_right (by omega), hlc] at h1
      simp only [pr, List.getElem?_map, Option.map_eq_some_iff] at h1
      obtain ⟨i', hi', he⟩ := h1
      obtain ⟨hi1, hi2⟩ := List.getElem?_eq_some_iff.1 hi'
      simp at hi2
      subst hi2
      simp only [pairOf, Prod.mk.injEq] at he
      exact he.1.symm
  · rcases Nat.lt_or_ge i nc with hi | hi
    · rw [List.getElem?_append_left (by omega), List.getElem?_map, Option.map_eq_some_iff] at h1
      obtain ⟨m', hm', he⟩ := h1
      have := (hc.2 i m' hm').2.1
      simp only [pairOf, Prod.mk.injEq] at he
      rw [← he.2, this]
    · rw [List.getElem?_append_right (by omega), hlc] at h1
      simp only [pr, List.getElem?_map, Option.map_eq_some_iff] at h1
      obtain ⟨i', hi', he⟩ := h1
      obtain ⟨hi1, hi2⟩ := List.getElem?_eq_some_iff.1 hi'
      simp at hi2
      subst hi2
      simp only [pairOf, Prod.mk.injEq] at he
      omega
theorem rise_behind {p : Nat → Int} {nc n : Nat} {bs : List Bool} {E : Int} (hp : Rise p nc) (hn : n ≤ 1000) (h1 : 1 ≤ E) (h2 : E ≤ 1000000) (hlast : ∀ i, i + 1 = nc → p i ≤ E) : Rise (pq p nc E bs) (nc + n) := by
  refine ⟨fun i hi => ?_, fun i hi => ?_⟩
  · unfold pq
    split
    · rename_i h; exact hp.1 i h
    · have h3 := List.count_le_length (a := true) (l := bs.take (i - nc + 1))
      rw [List.length_take] at h3
      omega
  · unfold pq
    by_cases ha : i + 1 < nc
    · rw [if_pos (by omega), if_pos ha]
      exact hp.2 i ha
    · by_cases hb : i < nc
      · rw [if_pos hb, if_neg ha]
        have := hlast i (by omega)
        omega
      · rw [if_neg hb, if_neg ha]
        have h3 : (bs.take (i - nc + 1)).count true ≤ (bs.take (i + 1 - nc + 1)).count true := by
          refine List.Sublist.count_le true ?_
          rw [show bs.take (i - nc + 1) = (bs.take (i + 1 - nc + 1)).take (i - nc + 1) by rw [List.take_take]; congr 1; omega]
          exact List.take_sublist _ _
        omega
/-- The fork is where the logs part. -/
theorem fork_parts {p : Nat → Int} {nc na nb : Nat} {E : Int} {x y : List Bool} {la lb : List (Int × Int)} (ha : Gs (pq p nc (E + 100) x) (nc + na) la) (hb : Gs (pq p nc (E + 101) y) (nc + nb) lb) : Sl.Fork la ((nc + na : Nat) : Int) lb ((nc + nb : Nat) : Int) (nc : Nat) := by
  refine ⟨by omega, by omega, by omega, ?_, fun z h1 h2 h3 => ?_⟩
  · rw [ha.ep nc (by omega), hb.ep nc (by omega)]
    split
    · rfl
    · unfold pq
      rw [if_pos (by omega), if_pos (by omega)]
  · obtain ⟨k, rfl⟩ : ∃ k : Nat, z = (k : Int) := ⟨z.toNat, by omega⟩
    rw [ha.ep k (by omega), hb.ep k (by omega), if_neg (by omega), if_neg (by omega)]
    unfold pq
    rw [if_neg (by omega), if_neg (by omega)]
    omega
theorem fork_front {p : Nat → Int} {nc na : Nat} {E : Int} {x : List Bool} {la lc : List (Int × Int)} (ha : Gs (pq p nc E x) (nc + na) la) (hc : Gs p nc lc) : Sl.Fork la ((nc + na : Nat) : Int) lc (nc : Nat) (nc : Nat) := by
  refine ⟨by omega, by omega, by omega, ?_, fun z h1 h2 h3 => by omega⟩
  rw [ha.ep nc (by omega), hc.ep nc (by omega)]
  split
  · rfl
  · unfold pq
    rw [if_pos (by omega)]
theorem fork_flip {a b : List (Int × Int)} {ae be x : Int} (h : Sl.Fork a ae b be x) : Sl.Fork b be a ae x :=
  ⟨h.1, h.2.2.1, h.2.1, h.2.2.2.1.symm, fun y h1 h2 h3 he => h.2.2.2.2 y h1 h3 h2 he.symm⟩
end Go.Proofs.Ytmlfbjcgmbdafaa
