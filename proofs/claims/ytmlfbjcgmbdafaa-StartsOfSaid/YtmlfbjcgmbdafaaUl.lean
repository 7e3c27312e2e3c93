/- Any commits, any starts: what both sides tell; the three that are lent at once. -/
import Derived.Test.YtmlfbjcgmbdafaaUk
import Derived.Test.YtmlfbjcgmbdafaaSy
namespace Go.Proofs.Ytmlfbjcgmbdafaa
open Go.RowKit Go.Lg
set_option linter.unusedVariables false
set_option linter.unusedSimpArgs false

theorem grown_ky {l : List (Int × Int)} {e : Int} {m m' : Cm} (h : ky m = ky m') : grown l e m = grown l e m' := by
  have hk := k_ky h
  simp only [ky, Prod.mk.injEq] at h
  obtain ⟨h1, h2, h3⟩ := h
  unfold grown
  rw [hk, h1, h2]
theorem grown_le (l : List (Int × Int)) (e : Int) (m : Cm) : (grown l e m).1.length ≤ l.length + 1 := by
  unfold grown
  split
  · simp
  · split
    · simp
    · split
      · simp
      · exact gr_le _ _ _
/-- What Of tells, its length by name. -/
def OfAs (L : List (Int × Int)) (n : Nat) (k : Int) (j : Nat) (w : World) (e : Ending) (w' : World) : Prop := ∃ v, e = .returned (.tuple #[v, .agg #[.int .i64 k, .int .i64 j]]) ∧ w'.ownsRow w.heap.size 58 2 v n (sts L) ∧ Below w.heap.size w w'
theorem of_as {L : List (Int × Int)} {n : Nat} {k : Int} {j : Nat} {w w' : World} {e : Ending} (hn : n = L.length) (h : OfR L k j w e w') : OfAs L n k j w e w' := by
  subst hn
  exact h
theorem of_any (cs : List Cm) (n : Nat) (hl : cs.length = n) (hn : n ≤ 1000) : ∃ (L : List (Int × Int)) (nL : Nat) (k : Int) (j : Nat), nL = L.length ∧ nL ≤ n ∧
    (∀ (A : Option Addr) (c : Nat) (cs' : List Cm) (w : World), cs'.map ky = cs.map ky → CS w w.heap.size A n cs' → Calls Try.prog 24 #[.slice A n c] w (OfAs L nL k j w)) ∧
    (∀ (A : Option Addr) (c : Nat) (w : World), CS w w.heap.size A n cs → Calls Try.prog 25 #[.slice A n c] w (OfAs L nL k j w)) := by
  by_cases hf : (fol 0 0 0 cs).1 = 0
  · have h0 := fol_zero_all cs 0 0 0 hf
    refine ⟨tl cs, _, 0, 0, rfl, by have := tl_le cs; omega, ?_, ?_⟩
    · intro A c cs' w hk h
      rw [← tl_ky hk]
      exact (of24_ok A n c cs' w h (by omega) ((fol_ky cs' cs 0 0 0 hk).trans h0)).mono fun e w' ⟨v, h1, h2, h3⟩ => ⟨v, h1, h2, h3⟩
    · intro A c w h
      exact (refof25_ok A n c cs w h (by omega) h0).mono fun e w' h => of_as rfl h
  · obtain ⟨⟨k, j⟩, hq⟩ : ∃ q, fol 0 0 0 cs = q := ⟨_, rfl⟩
    rw [hq] at hf
    refine ⟨[], _, k, j, rfl, Nat.zero_le _, ?_, ?_⟩
    · intro A c cs' w hk h
      exact (of24_bad A n c cs' k j w h (by omega) ((fol_ky cs' cs 0 0 0 hk).trans hq) hf).mono fun e w' h => of_as rfl h
    · intro A c w h
      exact (refof25_bad A n c cs k j w h (by omega) hq hf).mono fun e w' h => of_as rfl h

/-! ### three that are lent at once -/
abbrev Z40 : Array Value := #[.int .i64 0, .int .i64 0, .slice none 0 0]
def Lent3 (n na : Nat) (cs : List Cm) (a : List (Int × Int)) (m : Cm) (w : World) (s9 s10 s11 : Value) (wx : World) : Prop :=
  ∃ cs' Aw cw g, s11 = .pointer (some ⟨g, 0, none⟩) ∧ cs'.length = n ∧ wx.ownsRow w.heap.size 40 3 s9 (n + 3) (cmc (cs' ++ spareC)) ∧ LCs w.heap.size wx cs cs' ∧ wx.ownsRow w.heap.size 58 2 s10 (na + 3) (sts (lentS a)) ∧
    wx.ownsRow w.heap.size 68 3 (.slice Aw (m.n + 3) cw) (m.n + 3) (opc (lentO m.os)) ∧ Blk wx g 40 #[.int .i64 m.ep, .int .i64 m.num, .slice Aw m.n cw] ∧ Below w.heap.size w wx
theorem held_alloc {V : World} {g : Nat} {x0 x1 x2 : Value} (h : V.cell? ⟨g, 0, none⟩ = some x0 ∧ V.cell? ⟨g, 1, none⟩ = some x1 ∧ V.cell? ⟨g, 2, none⟩ = some x2) (o : Obj) :
    (V.alloc o).cell? ⟨g, 0, none⟩ = some x0 ∧ (V.alloc o).cell? ⟨g, 1, none⟩ = some x1 ∧ (V.alloc o).cell? ⟨g, 2, none⟩ = some x2 := by
  have key : ∀ i u, V.cell? ⟨g, i, none⟩ = some u → (V.alloc o).cell? ⟨g, i, none⟩ = some u := fun i u hu => (World.cell?_alloc_lt V o _ (World.block_lt_of_cell? _ _ hu)).trans hu
  exact ⟨key _ _ h.1, key _ _ h.2.1, key _ _ h.2.2⟩
theorem held_below {V w1 : World} {g : Nat} {x0 x1 x2 : Value} (hq : Below V.heap.size V w1) (h : V.cell? ⟨g, 0, none⟩ = some x0 ∧ V.cell? ⟨g, 1, none⟩ = some x1 ∧ V.cell? ⟨g, 2, none⟩ = some x2) :
    w1.cell? ⟨g, 0, none⟩ = some x0 ∧ w1.cell? ⟨g, 1, none⟩ = some x1 ∧ w1.cell? ⟨g, 2, none⟩ = some x2 := by
  have key : ∀ i u, V.cell? ⟨g, i, none⟩ = some u → w1.cell? ⟨g, i, none⟩ = some u := fun i u hu => (hq.cell (World.block_lt_of_cell? _ _ hu)).trans hu
  exact ⟨key _ _ h.1, key _ _ h.2.1, key _ _ h.2.2⟩
theorem lent3_mk {n na : Nat} {cs cs' : List Cm} {a : List (Int × Int)} {m : Cm} {w V1 w1 V2 w2 V3 w3 F : World} {v1 v2 : Value} {Aw : Option Addr} {cw z : Nat}
    (hA : Below w.heap.size w V1) (hq1 : Below V1.heap.size V1 w1) (hB : Below w1.heap.size w1 V2) (hq2 : Below V2.heap.size V2 w2) (hC : Below w2.heap.size w2 V3) (hq3 : Below V3.heap.size V3 w3)
    (hl : cs'.length = n) (ho1 : w1.ownsRow V1.heap.size 40 3 v1 (n + 3) (cmc (cs' ++ spareC))) (hk1 : LCs V1.heap.size w1 cs cs') (ho2 : w2.ownsRow V2.heap.size 58 2 v2 (na + 3) (sts (lentS a)))
    (ho3 : w3.ownsRow V3.heap.size 68 3 (.slice Aw (m.n + 3) cw) (m.n + 3) (opc (lentO m.os))) (hF : w3.grownBy F (some z)) (hz : w.heap.size ≤ z)
    (hz1 : z < V1.heap.size ∨ w1.heap.size ≤ z) (hz2 : z < V2.heap.size ∨ w2.heap.size ≤ z) (hz3 : z < V3.heap.size ∨ w3.heap.size ≤ z)
    (kF : Blk F z 40 #[.int .i64 m.ep, .int .i64 m.num, .slice Aw m.n cw]) : Lent3 n na cs a m w v1 v2 (.pointer (some ⟨z, 0, none⟩)) F := by
  have s1 := hA.size
  have s2 := hq1.size
  have s3 := hB.size
  have s4 := hq2.size
  have s5 := hC.size
  have s6 := hq3.size
  have h1 : Below w1.heap.size w1 w3 := ((hB.trans (hq2.mono s3)).trans (hC.mono (Nat.le_trans s3 s4))).trans (hq3.mono (by omega))
  have h2 : Below w2.heap.size w2 w3 := hC.trans (hq3.mono s5)
  have hw : Below w.heap.size w w3 := (hA.trans (hq1.mono s1)).trans (h1.mono (by omega))
  have o1 := owned_later ho1 h1
  have o2 := owned_later ho2 h2
  have k1 := lcs_later hk1 h1
  refine ⟨cs', Aw, cw, z, rfl, hl, owned_less (owned_gb o1 hF ?_) s1, ?_, owned_less (owned_gb o2 hF ?_) (by omega), owned_less (owned_gb ho3 hF ?_) (by omega), kF, hw.grown hF (by omega) (fun k hk => by simp at hk; omega)⟩
  · intro g hg he
    have := ho1.lt g hg
    injection he with he
    omega
  · intro i x x' hx hx'
    obtain ⟨q1, q2, q3, q4, q5⟩ := k1 i x x' hx hx'
    refine ⟨q1, q2, q3, q4, owned_less (owned_gb q5 hF ?_) s1⟩
    intro g hg he
    have h9 := (hk1 i x x' hx hx').2.2.2.2.lt g hg
    injection he with he
    omega
  · intro g hg he
    have := ho2.lt g hg
    injection he with he
    omega
  · intro g hg he
    have := ho3.lt g hg
    injection he with he
    omega
end Go.Proofs.Ytmlfbjcgmbdafaa
