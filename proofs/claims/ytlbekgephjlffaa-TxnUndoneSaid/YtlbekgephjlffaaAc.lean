/- Acts: as cells; a number that any number says. -/
import Derived.Test.YtlbekgephjlffaaKa
namespace Go.Proofs.Ytlbekgephjlffaa
open Go.RowKit Go.Lg
set_option linter.unusedVariables false
set_option linter.unusedSimpArgs false

/-- An act. -/
structure Ac where
  kind : Int
  key : ByteArray
  val : ByteArray
  n : Int
abbrev Ac.v (a : Ac) : Value := .agg #[.int .i64 a.kind, .string a.key, .string a.val, .int .i64 a.n]
def Ac.wf (a : Ac) : Prop := -9223372036854775808 ≤ a.kind ∧ a.kind ≤ 9223372036854775807
def acc (ls : List Ac) : List Value := ls.flatMap fun a => [.int .i64 a.kind, .string a.key, .string a.val, .int .i64 a.n]
theorem acc_get : ∀ (ls : List Ac) (j : Nat) (a : Ac), ls[j]? = some a → (acc ls)[j * 4]? = some (.int .i64 a.kind) ∧ (acc ls)[j * 4 + 1]? = some (.string a.key) ∧ (acc ls)[j * 4 + 2]? = some (.string a.val) ∧ (acc ls)[j * 4 + 3]? = some (.int .i64 a.n)
  | [], j, a, h => by simp at h
  | b :: ls, 0, a, h => by
    simp at h
    subst h
    exact ⟨rfl, rfl, rfl, rfl⟩
  | b :: ls, j + 1, a, h => by
    have e1 : acc (b :: ls) = [.int .i64 b.kind, .string b.key, .string b.val, .int .i64 b.n] ++ acc ls := rfl
    have e2 : (j + 1) * 4 = j * 4 + 1 + 1 + 1 + 1 := by omega
    have h1 := acc_get ls j a (by simpa using h)
    rw [e1, e2]
    exact h1
theorem acc_len (l : List Ac) : (acc l).length = l.length * 4 := by
  induction l with
  | nil => rfl
  | cons a l ih => simp only [acc, List.flatMap_cons, List.length_append, List.length_cons, List.length_nil] at ih ⊢; omega
theorem acc_inv : ∀ (l : List Ac) (k : Nat) (u : Value), (acc l)[k]? = some u → ∃ j o, l[j]? = some o ∧ ((k = j * 4 ∧ u = .int .i64 o.kind) ∨ (k = j * 4 + 1 ∧ u = .string o.key) ∨ (k = j * 4 + 2 ∧ u = .string o.val) ∨ (k = j * 4 + 3 ∧ u = .int .i64 o.n))
  | [], k, u, h => by simp [acc] at h
  | a :: l, 0, u, h => ⟨0, a, rfl, .inl ⟨rfl, by simpa [acc] using h.symm⟩⟩
  | a :: l, 1, u, h => ⟨0, a, rfl, .inr (.inl ⟨rfl, by simpa [acc] using h.symm⟩)⟩
  | a :: l, 2, u, h => ⟨0, a, rfl, .inr (.inr (.inl ⟨rfl, by simpa [acc] using h.symm⟩))⟩
  | a :: l, 3, u, h => ⟨0, a, rfl, .inr (.inr (.inr ⟨rfl, by simpa [acc] using h.symm⟩))⟩
  | a :: l, k + 4, u, h => by
    have e1 : acc (a :: l) = .int .i64 a.kind :: .string a.key :: .string a.val :: .int .i64 a.n :: acc l := rfl
    rw [e1] at h
    obtain ⟨j, o, h1, h2⟩ := acc_inv l k u (by simpa using h)
    refine ⟨j + 1, o, by simpa using h1, ?_⟩
    rcases h2 with ⟨rfl, rfl⟩ | ⟨rfl, rfl⟩ | ⟨rfl, rfl⟩ | ⟨rfl, rfl⟩
    · exact .inl ⟨by omega, rfl⟩
    · exact .inr (.inl ⟨by omega, rfl⟩)
    · exact .inr (.inr (.inl ⟨by omega, rfl⟩))
    · exact .inr (.inr (.inr ⟨by omega, rfl⟩))
/-- Acts that are there. -/
def AS (w : World) (B : Nat) (A : Option Addr) (n : Nat) (ls : List Ac) : Prop := Rd w B 4 A n (acc ls) ∧ ls.length = n ∧ ∀ a ∈ ls, a.wf
theorem AS.keep {w w' : World} {B n : Nat} {A : Option Addr} {ls : List Ac} (h : AS w B A n ls) (hb : Below B w w') : AS w' B A n ls := ⟨h.1.below hb, h.2⟩
theorem AS.at_ {w : World} {B n : Nat} {A : Option Addr} {ls : List Ac} {j : Nat} (h : AS w B A n ls) (hj : j < n) :
    ∃ b off k key v m, A = some ⟨b, off, none⟩ ∧ b < B ∧ ls[j]? = some ⟨k, key, v, m⟩ ∧ (-9223372036854775808 ≤ k ∧ k ≤ 9223372036854775807) ∧ w.cell? ⟨b, off + j * 4, none⟩ = some (.int .i64 k) ∧ w.cell? ⟨b, off + j * 4 + 1, none⟩ = some (.string key) ∧ w.cell? ⟨b, off + j * 4 + 2, none⟩ = some (.string v) ∧ w.cell? ⟨b, off + j * 4 + 3, none⟩ = some (.int .i64 m) := by
  obtain ⟨h1, h2, h3⟩ := h
  have ho : ls[j]? = some (ls[j]'(by omega)) := List.getElem?_eq_getElem _
  obtain ⟨⟨k, key, v, m⟩, hq⟩ : ∃ o, ls[j]'(by omega) = o := ⟨_, rfl⟩
  rw [hq] at ho
  obtain ⟨b, off, rfl, hb, hc⟩ := h1.2 (by omega)
  obtain ⟨g1, g2, g3, g4⟩ := acc_get ls j _ ho
  exact ⟨b, off, k, key, v, m, rfl, hb, ho, h3 _ (List.mem_of_getElem? ho), hc _ _ g1, by have := hc _ _ g2; rwa [← Nat.add_assoc] at this, by have := hc _ _ g3; rwa [← Nat.add_assoc] at this, by have := hc _ _ g4; rwa [← Nat.add_assoc] at this⟩
set_option maxHeartbeats 800000 in
set_option maxRecDepth 100000 in
theorem pick23 (x : Int) (n : Nat) (h1 : 0 < n) (h2 : n ≤ 100000) (hx : -9223372036854775808 ≤ x ∧ x ≤ 9223372036854775807) (w : World) : Calls Try.prog 23 #[.int .i64 x, .int .i64 n] w fun e w' => ∃ r : Nat, e = .returned (.int .i64 r) ∧ r < n ∧ w' = w := by
  have hlt : x.tmod n < n := Int.tmod_lt_of_pos x (by omega)
  have hgt : -(n : Int) < x.tmod n := by
    have h := Int.tmod_lt_of_pos (-x) (show (0 : Int) < n by omega)
    rw [Int.neg_tmod] at h
    omega
  obtain ⟨m, hm⟩ : ∃ m, x.tmod n = m := ⟨_, rfl⟩
  rw [hm] at hlt hgt
  have hn : ¬(n : Int) = 0 := by omega
  have hw : wrap64 (m + n) = m + n := by simp only [wrap64]; omega
  have hw2 : wrap64 m = m := by simp only [wrap64]; omega
  go_enter Try.func23, Try.ntmps23
  go_wp2_with fail
  all_goals
    go_ret
    first
    | exact ⟨m.toNat, rd_int (by omega), by omega, rfl⟩
    | exact ⟨(m + n).toNat, rd_int (by omega), by omega, rfl⟩
end Go.Proofs.Ytlbekgephjlffaa
