/- Links: made or not; copies; a letter's place. -/
import Derived.Test.YtigedoonhmaghaaLaF
import Derived.Laws.Pointers
import Derived.Shelf.RegionOpenPlain
namespace Go.Proofs.Ytigedoonhmaghaa
open Go.RowKit Go.Lg
variable {F : Nat}
set_option linter.unusedVariables false
set_option linter.unusedSimpArgs false

def Says (b : Bool) (w : World) (e : Ending) (w' : World) : Prop := e = .returned (.bool b) ∧ w' = w
set_option maxHeartbeats 1000000 in
set_option maxRecDepth 100000 in
theorem none27 {B z : Nat} {last : Int} {sv : Value} {ls : List Lt} {w : World} (h : LX F false w B z last sv ls) : Calls Try.prog 27 #[P z] w (Says false w) := by
  have hb : Blk w z 55 #[.bool true, .int .i64 last, sv] := h.blk
  have c0 : w.cell? ⟨z, 0, none⟩ = some (.bool true) := hb.cell 0
  clear h hb
  go_enter Try.func27, Try.ntmps27
  go_wp2_with fail
  go_ret
  exact ⟨rfl, rfl⟩
set_option maxHeartbeats 1000000 in
set_option maxRecDepth 100000 in
theorem none39 {B z : Nat} {last : Int} {sv : Value} {ls : List Lt} {w : World} (h : LX F true w B z last sv ls) : Calls Try.prog 39 #[P z] w (Says false w) := by
  have hb : Blk w z 63 #[.bool true, sv, .int .i64 last] := h.blk
  have c0 : w.cell? ⟨z, 0, none⟩ = some (.bool true) := hb.cell 0
  clear h hb
  go_enter Try.func39, Try.ntmps39
  go_wp2_with fail
  go_ret
  exact ⟨rfl, rfl⟩
/-- A link that is not there. -/
theorem none27_nil (w : World) : Calls Try.prog 27 #[.pointer none] w (Says true w) := by
  go_enter Try.func27, Try.ntmps27
  go_wp2_with fail
  go_ret
  exact ⟨rfl, rfl⟩
/-- A link that nobody made. -/
theorem none27_un (w : World) (z : Nat) (c0 : w.cell? ⟨z, 0, none⟩ = some (.bool false)) : Calls Try.prog 27 #[P z] w (Says true w) := by
  go_enter Try.func27, Try.ntmps27
  go_wp2_with fail
  go_ret
  exact ⟨rfl, rfl⟩

/-- A new link. -/
def New (F : Nat) (rf : Bool) (w : World) (e : Ending) (w' : World) : Prop := ∃ z, e = .returned (P z) ∧ LX F rf w' w.heap.size z 0 (.slice none 0 0) [] ∧ Below w.heap.size w w' ∧ z < w'.heap.size
set_option maxHeartbeats 1000000 in
set_option maxRecDepth 100000 in
theorem new9 (w : World) (hF : F ≤ w.heap.size) : Calls Try.prog 9 #[] w (New F false w) := by
  go_enter Try.func9, Try.ntmps9
  go_wp2_with fail
  go_ret
  exact ⟨_, rfl, ⟨Nat.le_refl _, Blk.new w 55 #[.bool true, .int .i64 0, .slice none 0 0], World.ownsRow_nil _ _ _ _, by simp, fun x hx => absurd hx List.not_mem_nil, by simp; omega, fun x hx => absurd hx List.not_mem_nil⟩, (Below.refl _ _).alloc (Nat.le_refl _) _, by simp⟩
set_option maxHeartbeats 1000000 in
set_option maxRecDepth 100000 in
theorem new17 (w : World) (hF : F ≤ w.heap.size) : Calls Try.prog 17 #[] w (New F true w) := by
  go_enter Try.func17, Try.ntmps17
  go_wp2_with fail
  go_ret
  exact ⟨_, rfl, ⟨Nat.le_refl _, Blk.new w 63 #[.bool true, .slice none 0 0, .int .i64 0], World.ownsRow_nil _ _ _ _, by simp, fun x hx => absurd hx List.not_mem_nil, by simp; omega, fun x hx => absurd hx List.not_mem_nil⟩, (Below.refl _ _).alloc (Nat.le_refl _) _, by simp⟩

/-! ### Copies -/
set_option maxHeartbeats 1000000 in
set_option maxRecDepth 100000 in
theorem clone38 (A : Option Addr) (n c : Nat) (l : List UInt8) (w : World) (h : Rd w w.heap.size 1 A n (bts l)) (hn : n ≤ 140737488355000) : Calls Try.prog 38 #[.slice A n c] w (Fresh w l) := by
  have hl := h.1
  rw [bts_length, Nat.mul_one] at hl
  cases A with
  | none =>
    have hn0 : n = 0 := by
      rcases Nat.eq_zero_or_pos n with h0 | h0
      · exact h0
      · obtain ⟨b, off, h1, _⟩ := h.2 h0
        cases h1
    subst hn0
    have ho : l = [] := List.length_eq_zero_iff.1 hl
    subst ho
    clear h hl
    have q := fun w => Lib.run_eql_slice_nil (P := Try.prog) w 29 5 none 0 c 0 0 Try.underlying29
    go_enter Try.func38, Try.ntmps38
    go_wp2_with fail
    go_ret
    exact ⟨_, rfl, World.ownsRow_nil _ _ _ _, Below.refl _ _⟩
  | some a =>
    have q := fun w => Lib.run_eql_slice_nil (P := Try.prog) w 29 5 (some a) n c 0 0 Try.underlying29
    have HL := hid hl
    clear hl
    go_enter Try.func38, Try.ntmps38
    go_wp2_with (at_builtin; refine stop_ (fun Ps hPs => ?_))
    refine hPs ?_
    clear hPs Ps
    refine wpList_app T29 (.tmp 5) (.tmp 6) rfl rfl (World.ownsRow_lit w #[] 0 (Nat.le_refl _) (Nat.zero_le _) rfl) rfl (h.alloc (Nat.le_refl _) _) rfl (bts_one l) (by omega) (by simp) fun v1 w1 hown hg hat => ?_
    have hb : Below w.heap.size w w1 := ((Below.refl _ _).alloc (Nat.le_refl _) _).grown hg (by simp) (by intro k hk; simp [Value.ownBlock] at hk; omega)
    have HO := hid hown
    clear hown hg hat
    go_wp2_with fail
    go_ret
    exact ⟨v1, rfl, by rw [HL.out]; simpa using HO.out, hb⟩
set_option maxHeartbeats 1000000 in
set_option maxRecDepth 100000 in
theorem own40 (A : Option Addr) (n c : Nat) (l : List UInt8) (w : World) (h : Rd w w.heap.size 1 A n (bts l)) (hn : n ≤ 140737488355000) : Calls Try.prog 40 #[.slice A n c] w (Fresh w l) := by
  have hl := h.1
  rw [bts_length, Nat.mul_one] at hl
  have HL := hid hl
  clear hl
  go_enter Try.func40, Try.ntmps40
  go_wp2_with (at_builtin; refine stop_ (fun Ps hPs => ?_))
  refine hPs ?_
  clear hPs Ps
  refine wpList_app T29 (.tmp 4) (.tmp 5) rfl rfl (World.ownsRow_nil w w.heap.size 5 1) rfl h rfl (bts_one l) (by omega) (Nat.le_refl _) fun v1 w1 hown hg hat => ?_
  have hb : Below w.heap.size w w1 := (Below.refl _ _).grown hg (Nat.le_refl _) (by intro k hk; simp [Value.ownBlock] at hk)
  have HO := hid hown
  clear hown hg hat
  go_wp2_with fail
  go_ret
  exact ⟨v1, rfl, by rw [HL.out]; simpa using HO.out, hb⟩
/-- A new row of letters, the same cells. -/
def NewL (ls : List Lt) (w : World) (e : Ending) (w' : World) : Prop := ∃ v, e = .returned v ∧ w'.ownsRow w.heap.size 31 3 v ls.length (ltc ls) ∧ Below w.heap.size w w'
set_option maxHeartbeats 1000000 in
set_option maxRecDepth 100000 in
theorem clone37 (A : Option Addr) (c : Nat) (ls : List Lt) (w : World) (h : Rd w w.heap.size 3 A ls.length (ltc ls)) (h1 : ∀ u ∈ ltc ls, u.oneCell' = true) (hn : ls.length ≤ 512) : Calls Try.prog 37 #[.slice A ls.length c] w (NewL ls w) := by
  obtain ⟨n, hN⟩ : ∃ n, n = ls.length := ⟨_, rfl⟩
  rw [← hN] at h hn ⊢
  cases A with
  | none =>
    have hn0 : n = 0 := by
      rcases Nat.eq_zero_or_pos n with h0 | h0
      · exact h0
      · obtain ⟨b, off, h1, _⟩ := h.2 h0
        cases h1
    subst hn0
    have ho : ls = [] := List.length_eq_zero_iff.1 hN.symm
    subst ho
    clear h hN
    have q := fun w => Lib.run_eql_slice_nil (P := Try.prog) w 37 31 none 0 c 0 0 Try.underlying37
    go_enter Try.func37, Try.ntmps37
    go_wp2_with fail
    go_ret
    exact ⟨_, rfl, World.ownsRow_nil _ _ _ _, Below.refl _ _⟩
  | some a =>
    have q := fun w => Lib.run_eql_slice_nil (P := Try.prog) w 37 31 (some a) n c 0 0 Try.underlying37
    have HN := hid hN
    clear hN
    go_enter Try.func37, Try.ntmps37
    go_wp2_with (at_builtin; refine stop_ (fun Ps hPs => ?_))
    refine hPs ?_
    clear hPs Ps
    refine wpList_app T37 (.tmp 5) (.tmp 6) rfl rfl (World.ownsRow_lit w #[] 0 (Nat.le_refl _) (Nat.zero_le _) rfl) rfl (h.alloc (Nat.le_refl _) _) rfl h1 (by omega) (by simp) fun v1 w1 hown hg hat => ?_
    have hb : Below w.heap.size w w1 := ((Below.refl _ _).alloc (Nat.le_refl _) _).grown hg (by simp) (by intro k hk; simp [Value.ownBlock] at hk; omega)
    have HO := hid hown
    clear hown hg hat
    go_wp2_with fail
    go_ret
    exact ⟨v1, rfl, by rw [← HN.out]; simpa using HO.out, hb⟩
end Go.Proofs.Ytigedoonhmaghaa
