/- Starts out of numbers. -/
import Derived.Test.YtmlfbjcgmbdafaaSg
namespace Go.Proofs.Ytmlfbjcgmbdafaa
open Go.RowKit Go.Lg
set_option linter.unusedVariables false
set_option linter.unusedSimpArgs false

def ints (xs : List Int) : List Value := xs.map (Value.int .i64)
def prs : List Int → List (Int × Int)
  | a :: b :: r => (a, b) :: prs r
  | _ => []
theorem prs_length : ∀ (xs : List Int), (prs xs).length = xs.length / 2
  | [] => rfl
  | [_] => by simp [prs]
  | a :: b :: r => by
    simp only [prs, List.length_cons, prs_length r]
    omega
theorem prs_get : ∀ (xs : List Int) (j : Nat) (x y : Int), xs[2 * j]? = some x → xs[2 * j + 1]? = some y → j < (prs xs).length ∧ Sl.E (prs xs) j = x ∧ Sl.F (prs xs) j = y
  | [], j, x, y, h, _ => by simp at h
  | [a], j, x, y, _, h => by simp at h
  | a :: b :: r, 0, x, y, h1, h2 => by
    simp at h1 h2
    subst h1 h2
    exact ⟨by simp [prs], rfl, rfl⟩
  | a :: b :: r, j + 1, x, y, h1, h2 => by
    have e1 : 2 * (j + 1) = 2 * j + 1 + 1 := by omega
    rw [e1] at h1 h2
    obtain ⟨g1, g2, g3⟩ := prs_get r j x y (by simpa using h1) (by simpa using h2)
    exact ⟨by simpa [prs] using g1, g2, g3⟩
theorem own_drew {w : World} {B : Nat} {e : TypeId} {sz n : Nat} {v : Value} {xs : List Value} (h : w.ownsRow B e sz v n xs) : w.drew.ownsRow B e sz v n xs := h
theorem drew_cell (v : World) (p : Addr) : v.drew.cell? p = v.cell? p := rfl
theorem own_drewN {w : World} {B : Nat} {e : TypeId} {sz n : Nat} {v : Value} {xs : List Value} (h : w.ownsRow B e sz v n xs) (d : Nat) : (w.drewN d).ownsRow B e sz v n xs := h
theorem own_ne_block {w : World} {B b : Nat} {e : TypeId} {sz n : Nat} {v : Value} {xs : List Value} (h : w.ownsRow B e sz v n xs) (hb : b < B) : some b ≠ v.ownBlock := fun he => by
  have := (h.lt b he.symm).1
  omega
theorem news_eq {l l2 : List (Int × Int)} {v : Value} {n : Nat} {w w' : World} (h : l2 = l) (hn : n = l.length) (ho : w'.ownsRow w.heap.size 58 2 v n (sts l2)) (hb : Below w.heap.size w w') : NewS l w (.returned v) w' := by
  subst h hn
  exact ⟨_, rfl, ho, hb⟩

set_option maxHeartbeats 4000000 in
set_option maxRecDepth 100000 in
theorem of8 (A : Option Addr) (n c : Nat) (xs : List Int) (w : World) (h : Rd w w.heap.size 1 A n (ints xs)) (hn : n ≤ 1000) :
    Calls Try.prog 8 #[.slice A n c] w (NewS (prs xs) w) := by
  have hl : xs.length = n := by have := h.1; simpa [ints] using this
  have hpl := prs_length xs
  rw [hl] at hpl
  have HL := hid hl
  have HPL := hid hpl
  clear hl hpl
  go_enter Try.func8, Try.ntmps8
  go_wp2_with fail
  go_loopg [3, 4] n (fun k v i wr => ∃ (j p : Nat), i = .int .i64 p ∧ Hid (p = 2 * j) ∧ p ≤ n ∧ k = n - p ∧ wr.ownsRow w.heap.size 58 2 v j (sts ((prs xs).take j)) ∧ Below w.heap.size w wr)
  case atStart => exact ⟨0, 0, rfl, hid rfl, by omega, rfl, World.ownsRow_nil _ _ _ _, Below.refl _ _⟩
  case round =>
    obtain ⟨j, p, rfl, hp, hpn, rfl, ho, hb⟩ := hrel
    have hsz := hb.size
    have hw1 : wrap64 ((p : Int) + 1) = (p : Int) + 1 := by simp only [wrap64]; omega
    by_cases hlt : p + 1 < n
    · have hr := h.below hb
      obtain ⟨b, off, u, rfl, hbB, hu, c0⟩ := hr.at_ (k := p) (by omega)
      obtain ⟨b', off', u', hA, _, hu', c1⟩ := hr.at_ (k := p + 1) hlt
      simp only [Option.some.injEq, Addr.mk.injEq, and_true] at hA
      obtain ⟨rfl, rfl⟩ := hA
      simp only [ints, List.getElem?_map, Option.map_eq_some_iff] at hu hu'
      obtain ⟨x, hx, rfl⟩ := hu
      obtain ⟨y, hy, rfl⟩ := hu'
      obtain ⟨g1, g2, g3⟩ := prs_get xs j x y (by rw [← hp.out]; exact hx) (by rw [← hp.out]; exact hy)
      have HST : Hid (sts ((prs xs).take (j + 1)) = sts ((prs xs).take j) ++ (#[.int .i64 x, .int .i64 y] : Array Value).toList) := by
        rw [take_snoc g1, g2, g3, sts_snoc]
        exact hid rfl
      have hji : (p : Int) < (n : Int) := by omega
      have hji2 : (p : Int) + 1 < (n : Int) := by omega
      have hjn : j ≤ 1000 := by have := hp.out; omega
      have hoD := own_drew ho
      have HO := hid hoD
      have HB := hid hb
      have hbw : b < wr.heap.size := by omega
      clear hx hy g1 g2 g3 ho hr hoD hb
      have hw2 : IntKind.i64.wrap ((p : Int) + 1) = (p : Int) + 1 := IntWalk.i64_in _ (by omega)
      have hp1 : (0 : Int) ≤ (p : Int) + 1 := by omega
      have K1 : Hid (wr.drew.cell? ⟨b, off + p, none⟩ = some (.int .i64 x) ∧ wr.drew.cell? ⟨b, off + (p + 1), none⟩ = some (.int .i64 y)) := hid ⟨(drew_cell wr _).trans c0, (drew_cell wr _).trans c1⟩
      have K2 : Hid ((wr.drew.alloc (.cells #[.int .i64 x, .int .i64 y] 58)).cell? ⟨b, off + p, none⟩ = some (.int .i64 x) ∧ (wr.drew.alloc (.cells #[.int .i64 x, .int .i64 y] 58)).cell? ⟨b, off + (p + 1), none⟩ = some (.int .i64 y)) :=
        hid ⟨(World.cell?_alloc_lt wr.drew _ _ hbw).trans K1.out.1, (World.cell?_alloc_lt wr.drew _ _ hbw).trans K1.out.2⟩
      have K3 : Hid ((wr.alloc (.cells #[.int .i64 x, .int .i64 y] 58)).drew.cell? ⟨b, off + p, none⟩ = some (.int .i64 x) ∧ (wr.alloc (.cells #[.int .i64 x, .int .i64 y] 58)).drew.cell? ⟨b, off + (p + 1), none⟩ = some (.int .i64 y)) :=
        hid ⟨(drew_cell _ _).trans ((World.cell?_alloc_lt wr _ _ hbw).trans c0), (drew_cell _ _).trans ((World.cell?_alloc_lt wr _ _ hbw).trans c1)⟩
      have HN := hid (own_ne_block HO.out hbB)
      go_wp2_with fail
      go_region_held3 (fun w' => w'.cell? ⟨b, off + p, none⟩ = some (.int .i64 x) ∧ w'.cell? ⟨b, off + (p + 1), none⟩ = some (.int .i64 y)) (first | (with_reducible exact K1.out) | (with_reducible exact K2.out) | (with_reducible exact K3.out) | exact ⟨q0, q1⟩)
        (first
          | (refine step_app T22 (.tmp 12) (.tmp 23) rfl rfl (HO.out.alloc _) rfl (Rd.lit wr.drew #[.int .i64 x, .int .i64 y] 58 (0, 0) 1 rfl) rfl (by simp [Value.oneCell']) (by omega) (by simp; omega) ?_; intro v2 w2 hv2 hg hat2; have q0 : w2.cell? ⟨b, off + p, none⟩ = some (.int .i64 x) := World.grownBy.cell hg K2.out.1 HN.out; have q1 : w2.cell? ⟨b, off + (p + 1), none⟩ = some (.int .i64 y) := World.grownBy.cell hg K2.out.2 HN.out))
      have hb2 : Below w.heap.size w w2 := below_append ((Below.drew HB.out).alloc hsz _) (HO.out.alloc _) hg (by simp; omega)
      have HV := hid hv2
      clear hg hat2 hv2 q0 q1 c0 c1
      go_wp2_with fail
      go_roundg (n - (p + 2))
      case measure => omega
      case rel =>
        refine ⟨j + 1, p + 2, by go_num, hid (by rw [hp.out]; omega), by omega, rfl, ?_, hb2⟩
        rw [HST.out]
        exact HV.out
    · have hpj : (prs xs).take j = prs xs := List.take_of_length_le (by rw [HPL.out]; have := hp.out; omega)
      have hjl : j = (prs xs).length := by rw [HPL.out]; have := hp.out; omega
      have HPJ := hid hpj
      have HJL := hid hjl
      have HO := hid ho
      have hnl : ¬(p : Int) + 1 < (n : Int) := by omega
      clear hpj hjl ho
      go_wp2_with fail
      go_ret
      exact news_eq HPJ.out HJL.out HO.out hb
end Go.Proofs.Ytmlfbjcgmbdafaa
