/- Acts in memory; are they few and short; a pick. -/
import Derived.Test.YtigedoonhmaghaaLmF
namespace Go.Proofs.Ytigedoonhmaghaa
open Go.RowKit Go.Lg
variable {F : Nat}
set_option linter.unusedVariables false
set_option linter.unusedSimpArgs false

/-- An act in memory: kind, number, its bytes' slice, its bytes. -/
structure Am where
  kind : Int
  n : Int
  A : Option Addr
  m : Nat
  c : Nat
  b : List UInt8
def Am.cs (x : Am) : List Value := [.int .i64 x.kind, .int .i64 x.n, .slice x.A x.m x.c]
def Am.v (x : Am) : Value := .agg #[.int .i64 x.kind, .int .i64 x.n, .slice x.A x.m x.c]
def acc (l : List Am) : List Value := l.flatMap Am.cs
structure Am.ok (w : World) (B : Nat) (x : Am) : Prop where
  rd : Rd w B 1 x.A x.m (bts x.b)
  kind : -9223372036854775808 ≤ x.kind ∧ x.kind ≤ 9223372036854775807
  n : -9223372036854775808 ≤ x.n ∧ x.n ≤ 9223372036854775807
  le : x.m ≤ x.c
  max : x.c ≤ maxLen
def AS (w : World) (B : Nat) (A : Option Addr) (n : Nat) (l : List Am) : Prop := Rd w B 3 A n (acc l) ∧ l.length = n ∧ ∀ x ∈ l, x.ok w B
theorem Am.ok.len {w : World} {B : Nat} {x : Am} (h : x.ok w B) : x.b.length = x.m := by have := h.rd.1; rw [bts_length] at this; omega
theorem Am.ok.below {w w' : World} {B : Nat} {x : Am} (h : x.ok w B) (hb : Below B w w') : x.ok w' B := ⟨h.rd.below hb, h.kind, h.n, h.le, h.max⟩
theorem AS.below {w w' : World} {B n : Nat} {A : Option Addr} {l : List Am} (h : AS w B A n l) (hb : Below B w w') : AS w' B A n l := ⟨h.1.below hb, h.2.1, fun x hx => (h.2.2 x hx).below hb⟩
theorem acc_len (l : List Am) : (acc l).length = l.length * 3 := by
  induction l with
  | nil => rfl
  | cons a l ih => simp only [acc, Am.cs, List.flatMap_cons, List.length_append, List.length_cons, List.length_nil] at ih ⊢; omega
theorem acc_get : ∀ (l : List Am) (j : Nat) (x : Am), l[j]? = some x → (acc l)[j * 3]? = some (.int .i64 x.kind) ∧ (acc l)[j * 3 + 1]? = some (.int .i64 x.n) ∧ (acc l)[j * 3 + 2]? = some (.slice x.A x.m x.c)
  | [], j, x, h => by cases h
  | a :: l, 0, x, h => by
    simp at h
    subst h
    exact ⟨rfl, rfl, rfl⟩
  | a :: l, j + 1, x, h => by
    have h1 := acc_get l j x (by simpa using h)
    have e : acc (a :: l) = [.int .i64 a.kind, .int .i64 a.n, .slice a.A a.m a.c] ++ acc l := rfl
    have s : ∀ i, (acc (a :: l))[(j + 1) * 3 + i]? = (acc l)[j * 3 + i]? := fun i => by
      rw [e, List.getElem?_append_right (by simp; omega)]
      congr 1
      simp
      omega
    exact ⟨(s 0).trans h1.1, (s 1).trans h1.2.1, (s 2).trans h1.2.2⟩
theorem acc_inv : ∀ (l : List Am) (k : Nat) (u : Value), (acc l)[k]? = some u → ∃ j o, l[j]? = some o ∧ ((k = j * 3 ∧ u = .int .i64 o.kind) ∨ (k = j * 3 + 1 ∧ u = .int .i64 o.n) ∨ (k = j * 3 + 2 ∧ u = .slice o.A o.m o.c))
  | [], k, u, h => by simp [acc] at h
  | a :: l, 0, u, h => ⟨0, a, rfl, .inl ⟨rfl, by simpa [acc, Am.cs] using h.symm⟩⟩
  | a :: l, 1, u, h => ⟨0, a, rfl, .inr (.inl ⟨rfl, by simpa [acc, Am.cs] using h.symm⟩)⟩
  | a :: l, 2, u, h => ⟨0, a, rfl, .inr (.inr ⟨rfl, by simpa [acc, Am.cs] using h.symm⟩)⟩
  | a :: l, k + 3, u, h => by
    have e1 : acc (a :: l) = .int .i64 a.kind :: .int .i64 a.n :: .slice a.A a.m a.c :: acc l := rfl
    rw [e1] at h
    obtain ⟨j, o, h1, h2⟩ := acc_inv l k u (by simpa using h)
    refine ⟨j + 1, o, by simpa using h1, ?_⟩
    rcases h2 with ⟨rfl, rfl⟩ | ⟨rfl, rfl⟩ | ⟨rfl, rfl⟩
    · exact .inl ⟨by omega, rfl⟩
    · exact .inr (.inl ⟨by omega, rfl⟩)
    · exact .inr (.inr ⟨by omega, rfl⟩)
theorem AS.at_ {w : World} {B n : Nat} {A : Option Addr} {l : List Am} (h : AS w B A n l) {j : Nat} (hj : j < n) :
    ∃ b off x, A = some ⟨b, off, none⟩ ∧ b < B ∧ l[j]? = some x ∧ x.ok w B ∧ w.cell? ⟨b, off + j * 3, none⟩ = some (.int .i64 x.kind) ∧ w.cell? ⟨b, off + j * 3 + 1, none⟩ = some (.int .i64 x.n) ∧ w.cell? ⟨b, off + j * 3 + 2, none⟩ = some (.slice x.A x.m x.c) := by
  obtain ⟨b, off, e, hb, hc⟩ := h.1.2 (by omega)
  have hl := h.2.1
  obtain ⟨x, hx⟩ : ∃ x, l[j]? = some x := ⟨l[j]'(by omega), List.getElem?_eq_getElem _⟩
  obtain ⟨g1, g2, g3⟩ := acc_get l j x hx
  exact ⟨b, off, x, e, hb, hx, h.2.2 x (List.mem_of_getElem? hx), hc _ _ g1, by rw [Nat.add_assoc]; exact hc _ _ g2, by rw [Nat.add_assoc]; exact hc _ _ g3⟩
/-- Few and short. -/
def Small (l : List Am) : Prop := (∀ x ∈ l, x.m ≤ 40) ∧ l.length ≤ 1200
instance (l : List Am) : Decidable (Small l) := inferInstanceAs (Decidable (_ ∧ _))
set_option maxHeartbeats 2000000 in
set_option maxRecDepth 100000 in
theorem small14 (A : Option Addr) (n c : Nat) (l : List Am) (w : World) (h : AS w w.heap.size A n l) (hn : n ≤ 9223372036854775807) :
    Calls Try.prog 14 #[.slice A n c] w fun e w' => e = .returned (.bool (decide (Small l))) ∧ w' = w := by
  have HL := hid h.2.1
  have HR := hid h
  clear h
  go_enter Try.func14, Try.ntmps14
  go_wp2_with fail
  go_loopg [3] n (fun g i wr => ∃ k : Nat, k ≤ n ∧ g = n - k ∧ i = .int .i64 k ∧ wr = w ∧ Hid (∀ (j : Nat) (x : Am), j < k → l[j]? = some x → x.m ≤ 40))
  case atStart => exact ⟨0, by omega, rfl, rfl, rfl, hid fun j x hj => absurd hj (by omega)⟩
  case round =>
    obtain ⟨k, hk, rfl, rfl, rfl, A0⟩ := hrel
    by_cases hlt : k < n
    · obtain ⟨b, off, x, rfl, hb, hx, hok, c0, c1, c2⟩ := HR.out.at_ hlt
      have hki : (k : Int) < (n : Int) := by omega
      have HX := hid hx
      clear hx hok c0 c1
      by_cases h40 : 40 < x.m
      · have h4i : (40 : Int) < (x.m : Int) := by omega
        have HH := hid h40
        clear h40
        go_wp2_with fail
        go_ret
        refine ⟨?_, rfl⟩
        rw [decide_eq_false (fun hs => by have h1 := hs.1 x (List.mem_of_getElem? HX.out); have h2 := HH.out; omega)]
        rfl
      · have h4i : ¬ (40 : Int) < (x.m : Int) := by omega
        have HH := hid h40
        clear h40
        go_wp2_with fail
        go_roundg (n - (k + 1))
        case measure => omega
        case rel =>
          refine ⟨k + 1, by omega, rfl, by go_num, rfl, hid fun j y hj hy => ?_⟩
          rcases Nat.lt_or_ge j k with h1 | h1
          · exact A0.out j y h1 hy
          · obtain rfl : j = k := by omega
            rw [HX.out] at hy
            have := HH.out
            obtain rfl := Option.some.inj hy
            omega
    · obtain rfl : k = n := by omega
      have hki : ¬ (k : Int) < (k : Int) := by omega
      have HA : Hid (∀ x ∈ l, x.m ≤ 40) := hid fun x hx => by
        obtain ⟨j, hj⟩ := List.mem_iff_getElem?.1 hx
        exact A0.out j x (by have := (List.getElem?_eq_some_iff.1 hj).1; have := HL.out; omega) hj
      by_cases h12 : k ≤ 1200
      · have h12i : (k : Int) ≤ 1200 := by omega
        have HS := hid (show Small l from ⟨HA.out, by have := HL.out; omega⟩)
        go_wp2_with fail
        go_ret
        refine ⟨?_, rfl⟩
        rw [decide_eq_true HS.out]
        rfl
      · have h12i : ¬ (k : Int) ≤ 1200 := by omega
        have HS := hid (show ¬ Small l from fun hs => by have := hs.2; have := HL.out; omega)
        go_wp2_with fail
        go_ret
        refine ⟨?_, rfl⟩
        rw [decide_eq_false HS.out]
        rfl
set_option maxHeartbeats 800000 in
set_option maxRecDepth 100000 in
theorem pick15 (x : Int) (n : Nat) (h1 : 0 < n) (h2 : n ≤ 100000) (hx : -9223372036854775808 ≤ x ∧ x ≤ 9223372036854775807) (w : World) : Calls Try.prog 15 #[.int .i64 x, .int .i64 n] w fun e w' => ∃ r : Nat, e = .returned (.int .i64 r) ∧ r < n ∧ w' = w := by
  have hlt : x.tmod n < n := Int.tmod_lt_of_pos x (by omega)
  have hgt : -(n : Int) < x.tmod n := by
    have h := Int.tmod_lt_of_pos (-x) (show (0 : Int) < n by omega)
    rw [Int.neg_tmod] at h
    omega
  obtain ⟨m, hm⟩ : ∃ m, x.tmod n = m := ⟨_, rfl⟩
  rw [hm] at hlt hgt
  have hn : ¬(n : Int) = 0 := by omega
  have hw : wrap64 (m + n) = m + n := by simp only [wrap64]; omega
  have hw2 : wrap64 m = m := by simp only [wrap64]; omega
  go_enter Try.func15, Try.ntmps15
  go_wp2_with fail
  all_goals
    go_ret
    first
    | exact ⟨m.toNat, rd_int (by omega), by omega, rfl⟩
    | exact ⟨(m + n).toNat, rd_int (by omega), by omega, rfl⟩
end Go.Proofs.Ytigedoonhmaghaa
