/- Letters sent, and which are over: the plain law. -/
import Derived.Test.YtigedoonhmaghaaAc
namespace Go.Proofs.Ytigedoonhmaghaa
open Go.RowKit Go.Lg
set_option linter.unusedVariables false
set_option linter.unusedSimpArgs false

/-- What is in flight of the letters sent. -/
def fl : List Lt → List Bool → List Key
  | x :: s, o :: os => if o = true then fl s os else x.k :: fl s os
  | _, _ => []
theorem fl_snoc (x : Lt) : ∀ (s : List Lt) (os : List Bool), s.length = os.length → fl (s ++ [x]) (os ++ [false]) = fl s os ++ [x.k]
  | [], [], _ => rfl
  | [], _ :: _, h => by cases h
  | _ :: _, [], h => by cases h
  | a :: s, o :: os, h => by
    have ih := fl_snoc x s os (by simpa using h)
    cases o
    · show a.k :: fl (s ++ [x]) (os ++ [false]) = a.k :: fl s os ++ [x.k]
      rw [ih]
      rfl
    · exact ih
theorem fx_cons (n : Int) (k : Key) (t : List Key) : fx n (k :: t) = if (k.1 == n) = true then some 0 else (fx n t).map (· + 1) := by simp [fx, List.findIdx?_cons]
theorem dE_cons (n : Int) (k : Key) (t : List Key) : dE n (k :: t) = if (k.1 == n) = true then 0 else dE n t := by
  simp only [dE, fx_cons]
  by_cases hb : (k.1 == n) = true
  · simp only [if_pos hb]
    try rfl
  · simp only [if_neg hb]
    cases fx n t <;> rfl
theorem dX_cons (n : Int) (k : Key) (t : List Key) : dX n (k :: t) = if (k.1 == n) = true then k else dX n t := by
  simp only [dX, fx_cons]
  by_cases hb : (k.1 == n) = true
  · simp only [if_pos hb]
    try rfl
  · simp only [if_neg hb]
    cases fx n t <;> simp
theorem dK_cons (n : Int) (k : Key) (t : List Key) : dK n (k :: t) = if (k.1 == n) = true then t else k :: dK n t := by
  simp only [dK, fx_cons]
  by_cases hb : (k.1 == n) = true
  · simp only [if_pos hb]
    try rfl
  · simp only [if_neg hb]
    cases fx n t <;> rfl
theorem fl_law (n : Int) : ∀ (s : List Lt) (os : List Bool) (a : Int), (∀ (i : Nat) (x : Lt), s[i]? = some x → x.n = a + i) → s.length = os.length →
    (∀ i : Nat, a + i = n → os[i]? = some false → ∃ x, s[i]? = some x ∧ dE n (fl s os) = 0 ∧ dX n (fl s os) = x.k ∧ dK n (fl s os) = fl s (os.set i true)) ∧
    ((∀ i : Nat, a + i = n → os[i]? ≠ some false) → dE n (fl s os) = 4 ∧ dK n (fl s os) = fl s os)
  | [], [], a, _, _ => ⟨fun i _ h => by simp at h, fun _ => ⟨rfl, rfl⟩⟩
  | [], _ :: _, _, _, h => by cases h
  | _ :: _, [], _, _, h => by cases h
  | x :: s, o :: os, a, hn, hl => by
    have hx : x.n = a := by have := hn 0 x rfl; simpa using this
    have ih := fl_law n s os (a + 1) (fun i y hy => by have := hn (i + 1) y (by simpa using hy); rw [this]; push_cast; omega) (by simpa using hl)
    have hk : x.k.1 = a := hx
    by_cases he : a = n
    · have hb : (x.k.1 == n) = true := by rw [hk]; simpa using he
      refine ⟨fun i hi ho => ?_, fun hno => ?_⟩
      · obtain rfl : i = 0 := by omega
        simp at ho
        subst ho
        refine ⟨x, rfl, ?_, ?_, ?_⟩
        · show dE n (x.k :: fl s os) = 0
          rw [dE_cons, if_pos hb]
        · show dX n (x.k :: fl s os) = x.k
          rw [dX_cons, if_pos hb]
        · show dK n (x.k :: fl s os) = fl s os
          rw [dK_cons, if_pos hb]
      · have ho : o = true := by
          have := hno 0 (by simpa using he)
          cases o
          · simp at this
          · rfl
        subst ho
        exact ih.2 (fun i hi => by omega)
    · have hb : ¬ (x.k.1 == n) = true := by rw [hk]; simpa using he
      refine ⟨fun i hi ho => ?_, fun hno => ?_⟩
      · obtain ⟨j, rfl⟩ : ∃ j, i = j + 1 := ⟨i - 1, by omega⟩
        obtain ⟨y, h1, h2, h3, h4⟩ := ih.1 j (by push_cast at hi; omega) (by simpa using ho)
        cases o
        · refine ⟨y, by simpa using h1, ?_, ?_, ?_⟩
          · show dE n (x.k :: fl s os) = 0
            rw [dE_cons, if_neg hb, h2]
          · show dX n (x.k :: fl s os) = y.k
            rw [dX_cons, if_neg hb, h3]
          · show dK n (x.k :: fl s os) = x.k :: fl s (os.set j true)
            rw [dK_cons, if_neg hb, h4]
        · exact ⟨y, by simpa using h1, h2, h3, h4⟩
      · have h9 := ih.2 (fun i hi => by have := hno (i + 1) (by push_cast; omega); simpa using this)
        cases o
        · refine ⟨?_, ?_⟩
          · show dE n (x.k :: fl s os) = 4
            rw [dE_cons, if_neg hb, h9.1]
          · show dK n (x.k :: fl s os) = x.k :: fl s os
            rw [dK_cons, if_neg hb, h9.2]
        · exact h9
/-- In flight, or not: at a whole number n. -/
theorem fl_in {n : Int} {s : List Lt} {os : List Bool} (hn : ∀ (i : Nat) (x : Lt), s[i]? = some x → x.n = i) (hl : s.length = os.length) (i : Nat) (hi : n = i) (ho : os[i]? = some false) :
    ∃ x, s[i]? = some x ∧ dE n (fl s os) = 0 ∧ dX n (fl s os) = x.k ∧ dK n (fl s os) = fl s (os.set i true) :=
  (fl_law n s os 0 (fun i x h => by rw [hn i x h]; omega) hl).1 i (by omega) ho
theorem fl_out {n : Int} {s : List Lt} {os : List Bool} (hn : ∀ (i : Nat) (x : Lt), s[i]? = some x → x.n = i) (hl : s.length = os.length) (h : ∀ i : Nat, n = i → os[i]? ≠ some false) : dE n (fl s os) = 4 ∧ dK n (fl s os) = fl s os :=
  (fl_law n s os 0 (fun i x h => by rw [hn i x h]; omega) hl).2 (fun i hi => h i (by omega))
theorem tE_of (n : Int) (ks : List Key) : tE n ks = if dE n ks = 0 then (if ks.length < 512 then 0 else 3) else 4 := by
  cases h : fx n ks <;> simp [tE, dE, h]
end Go.Proofs.Ytigedoonhmaghaa
