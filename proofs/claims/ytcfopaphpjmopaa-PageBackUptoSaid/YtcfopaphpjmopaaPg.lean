/- Pages: comparing and checking them. -/
import Derived.Test.YtcfopaphpjmopaaProg
import Derived.Test.YtcfopaphpjmopaaBase
namespace Go.Proofs.Ytcfopaphpjmopaa
open Go.RowKit Go.Lg
set_option linter.unusedVariables false
set_option linter.unusedSimpArgs false

structure Pg where
  (ep ro ac ph fo ba : Int)
deriving DecidableEq

abbrev Pg.v (p : Pg) : Value := .agg #[.int .i64 p.ep, .int .u8 p.ro, .int .i64 p.ac, .int .u8 p.ph, .int .i64 p.fo, .int .i64 p.ba]
abbrev Pg.cs (p : Pg) : Array Value := #[.int .i64 p.ep, .int .u8 p.ro, .int .i64 p.ac, .int .u8 p.ph, .int .i64 p.fo, .int .i64 p.ba]

/-- It tells whether, and makes new memory alone. -/
def Tells (p : Prop) (w : World) (e : Ending) (w' : World) : Prop := (∃ b, e = .returned (.bool b) ∧ (b = true ↔ p)) ∧ Below w.heap.size w w'
/-- It tells a number, and makes new memory alone. -/
def Num (n : Int) (w : World) (e : Ending) (w' : World) : Prop := e = .returned (.int .i64 n) ∧ Below w.heap.size w w'
theorem Tells.get {p : Prop} [Decidable p] {w w' : World} {e : Ending} (h : Tells p w e w') : e = .returned (.bool (decide p)) ∧ Below w.heap.size w w' := by
  obtain ⟨⟨b, rfl, hb⟩, h⟩ := h
  refine ⟨?_, h⟩
  by_cases hp : p
  · rw [hb.2 hp]; simp [hp]
  · cases b
    · simp [hp]
    · exact absurd (hb.1 rfl) hp
theorem bl_trans {B : Nat} {a b c : World} (h : Below B a b) (k : Below b.heap.size b c) (hB : B ≤ b.heap.size) : Below B a c :=
  h.trans (k.mono hB)

/-- It tells whether, and does nothing else. -/
def Asks (p : Prop) (w : World) (e : Ending) (w' : World) : Prop := (∃ b, e = .returned (.bool b) ∧ (b = true ↔ p)) ∧ w' = w
theorem Asks.get {p : Prop} [Decidable p] {w w' : World} {e : Ending} (h : Asks p w e w') : e = .returned (.bool (decide p)) ∧ w' = w := by
  obtain ⟨⟨b, rfl, hb⟩, h⟩ := h
  refine ⟨?_, h⟩
  by_cases hp : p
  · rw [hb.2 hp]; simp [hp]
  · cases b
    · simp [hp]
    · exact absurd (hb.1 rfl) hp

set_option maxHeartbeats 800000 in
set_option maxRecDepth 100000 in
theorem within35 (n lo hi : Int) (w : World) : Calls Try.prog 31 #[.int .i64 n, .int .i64 lo, .int .i64 hi] w fun e w' => Asks (lo ≤ n ∧ n ≤ hi) w e w' := by
  go_enter Try.func31, Try.ntmps31
  go_wp2_with fail
  all_goals
    go_ret
    refine ⟨⟨_, rfl, ?_⟩, rfl⟩
    simp
    omega
set_option maxHeartbeats 800000 in
set_option maxRecDepth 100000 in
theorem same12 (p q : Pg) (w : World) : Calls Try.prog 9 #[p.v, q.v] w fun e w' => Tells (p = q) w e w' := by
  obtain ⟨a1, a2, a3, a4, a5, a6⟩ := p
  obtain ⟨b1, b2, b3, b4, b5, b6⟩ := q
  go_enter Try.func9, Try.ntmps9
  go_wp2_with fail
  all_goals
    go_ret
    refine ⟨⟨_, rfl, ?_⟩, ((Below.refl _ _).alloc (Nat.le_refl _) _).alloc (by simp) _⟩
    simp [*]

def Dep (p : Pg) : Prop := (p.ph = 1 ∧ p.fo = 0 ∧ p.ba = 0) ∨ (2 ≤ p.ph ∧ p.ph ≤ 4 ∧ 0 ≤ p.fo ∧ p.fo ≤ 1048576 ∧ 0 ≤ p.ba ∧ p.ba ≤ 1073741824)
instance (p : Pg) : Decidable (Dep p) := by unfold Dep; infer_instance
set_option maxHeartbeats 800000 in
set_option maxRecDepth 100000 in
theorem deposed36 (p : Pg) (w : World) : Calls Try.prog 32 #[p.v] w fun e w' => Tells (Dep p) w e w' := by
  obtain ⟨a1, a2, a3, a4, a5, a6⟩ := p
  go_enter Try.func32, Try.ntmps32
  go_wp2_with (go_at_call 31; refine (within35 _ _ _ _).mono ?_; rintro e w1 h; obtain ⟨rfl, rfl⟩ := h.get; clear h)
  all_goals
    go_ret
    refine ⟨⟨_, rfl, ?_⟩, (Below.refl _ _).alloc (Nat.le_refl _) _⟩
    try simp only [beq_iff_eq, bne_iff_ne, beq_eq_false_iff_ne, decide_eq_true_eq] at *
    simp only [Dep]
    try simp
    try omega

/-- May a page be? -/
def Ok (p : Pg) : Prop := 1 ≤ p.ep ∧ p.ep ≤ 1048576 ∧
  ((p.ro = 1 ∧ 0 ≤ p.ac ∧ p.ac ≤ 1048576 ∧ p.ph = 0 ∧ p.fo = 0 ∧ p.ba = 0) ∨ (p.ro = 2 ∧ p.ac = 0 ∧ p.ph = 0 ∧ p.fo = 0 ∧ p.ba = 0) ∨ (p.ro = 3 ∧ p.ac = 0 ∧ Dep p))
instance (p : Pg) : Decidable (Ok p) := by unfold Ok; infer_instance
def err (p : Pg) : Int := if Ok p then 0 else 2
theorem num_of {p : Prop} [Decidable p] {n : Int} (h : (p ∧ n = 0) ∨ (¬p ∧ n = 2)) : Ending.returned (.int .i64 n) = .returned (.int .i64 (if p then 0 else 2)) := by
  rcases h with ⟨h, rfl⟩ | ⟨h, rfl⟩ <;> simp [h]
set_option maxHeartbeats 800000 in
set_option maxRecDepth 100000 in
theorem check18 (p : Pg) (w : World) : Calls Try.prog 16 #[p.v] w (Num (err p) w) := by
  obtain ⟨a1, a2, a3, a4, a5, a6⟩ := p
  go_enter Try.func16, Try.ntmps16
  go_wp2_with (first | (go_at_call 31; refine (within35 _ _ _ _).mono ?_; rintro e w1 h; obtain ⟨rfl, rfl⟩ := h.get; clear h) | (go_at_call 32; refine (deposed36 ⟨_, _, _, _, _, _⟩ _).mono ?_; rintro e w1 h; obtain ⟨rfl, hb⟩ := h.get; clear h))
  all_goals
    go_ret
    refine ⟨num_of ?_, ?_⟩
    · try simp only [beq_iff_eq, bne_iff_ne, beq_eq_false_iff_ne, decide_eq_true_eq, Bool.not_eq_true', Bool.not_eq_false', decide_eq_false_iff_not, bne_eq_false_iff_eq] at *
      try simp only [Dep] at *
      first | (refine .inl ⟨?_, by simp⟩; simp only [Ok, Dep]; omega) | (refine .inr ⟨fun hA => ?_, by simp⟩; simp only [Ok, Dep] at hA; omega)
    · first | exact (Below.refl _ _).alloc (Nat.le_refl _) _ | exact bl_trans ((Below.refl _ _).alloc (Nat.le_refl _) _) hb (by simp)

end Go.Proofs.Ytcfopaphpjmopaa
