/- What is in flight rises by number: the plain law. -/
import Derived.Test.YtigedoonhmaghaaRcF
namespace Go.Proofs.Ytigedoonhmaghaa
open Go.RowKit Go.Lg
set_option linter.unusedVariables false
set_option linter.unusedSimpArgs false

def Asc (q : Int) (ks : List Key) : Prop := ks.Pairwise (fun a b => a.1 < b.1) ∧ ∀ k ∈ ks, k.1 ≤ q
theorem asc_nil (q : Int) : Asc q [] := ⟨List.Pairwise.nil, fun k hk => absurd hk List.not_mem_nil⟩
theorem asc_snoc {q : Int} {ks : List Key} (h : Asc q ks) (x : Int × List UInt8) : Asc (q + 1) (ks ++ [(q + 1, x)]) := by
  refine ⟨List.pairwise_append.2 ⟨h.1, List.pairwise_singleton _ _, fun a ha b hb => ?_⟩, fun k hk => ?_⟩
  · rw [List.mem_singleton] at hb
    subst hb
    have := h.2 a ha
    show a.1 < q + 1
    omega
  · rw [List.mem_append, List.mem_singleton] at hk
    rcases hk with hk | rfl
    · have := h.2 k hk; omega
    · exact Int.le_refl _
theorem asc_sK {q : Int} {ks : List Key} (h : Asc q ks) (to : Int) (b : List UInt8) : Asc (sL q to ks) (sK q to b ks) := by
  unfold sL sK
  split
  · exact asc_snoc h _
  · exact h
theorem asc_tK {q : Int} {ks : List Key} (h : Asc q ks) (n : Int) : Asc (tL q n ks) (tK q n ks) := by
  unfold tL tK
  split
  · exact asc_snoc h _
  · exact h
theorem asc_erase {q : Int} {ks : List Key} (h : Asc q ks) (i : Nat) : Asc q (ks.eraseIdx i) :=
  ⟨h.1.sublist (List.eraseIdx_sublist ks i), fun k hk => h.2 k ((List.eraseIdx_sublist ks i).subset hk)⟩
theorem asc_dK {q : Int} {ks : List Key} (h : Asc q ks) (n : Int) : Asc q (dK n ks) := by
  unfold dK
  split
  · exact h
  · exact asc_erase h _
theorem asc_lt {q : Int} {ks : List Key} (h : Asc q ks) {i j : Nat} {x y : Key} (hij : i < j) (hx : ks[i]? = some x) (hy : ks[j]? = some y) : x.1 < y.1 := by
  obtain ⟨h1, rfl⟩ := List.getElem?_eq_some_iff.1 hx
  obtain ⟨h2, rfl⟩ := List.getElem?_eq_some_iff.1 hy
  exact List.pairwise_iff_getElem.1 h.1 i j h1 h2 hij
theorem fx_asc {q : Int} {ks : List Key} (h : Asc q ks) {i : Nat} {x : Key} (hx : ks[i]? = some x) : fx x.1 ks = some i := by
  unfold fx
  rw [List.findIdx?_eq_some_iff_getElem]
  obtain ⟨h1, h2⟩ := List.getElem?_eq_some_iff.1 hx
  refine ⟨h1, by rw [h2]; simp, fun j hj => ?_⟩
  have hjl : j < ks.length := by omega
  have := asc_lt h hj (List.getElem?_eq_getElem hjl) hx
  simp
  omega
theorem drop_asc {q : Int} {ks : List Key} (h : Asc q ks) {i : Nat} {x : Key} (hx : ks[i]? = some x) : dE x.1 ks = 0 ∧ dK x.1 ks = ks.eraseIdx i := by
  simp only [dE, dK, fx_asc h hx]
  exact ⟨trivial, trivial⟩
/-- A link whose letters rise by number. -/
def Lnk (F B z : Nat) (q : Int) (wr : World) : Prop := ∃ sv ls, LX F false wr B z q sv ls ∧ Asc q (ls.map Lt.k)
theorem Lnk.later {F B z : Nat} {q : Int} {wr w' : World} (h : Lnk F B z q wr) (hb : Below wr.heap.size wr w') : Lnk F B z q w' := by
  obtain ⟨sv, ls, h1, h2⟩ := h
  exact ⟨sv, ls, h1.later hb, h2⟩
theorem Lnk.leB {F B z : Nat} {q : Int} {wr : World} (h : Lnk F B z q wr) : B ≤ wr.heap.size := by
  obtain ⟨sv, ls, h1, h2⟩ := h
  exact h1.leB
theorem lnk_left {F B z : Nat} {q q' : Int} {sv : Value} {ls : List Lt} {ks' : List Key} {w w' : World} (h : LX F false w B z q sv ls) (hl : Left F false B z sv q' ks' w w') (ha : Asc q' ks') : Lnk F B z q' w' ∧ Below B w w' := by
  obtain ⟨sv', ls', h0, h1, h2, _⟩ := hl
  exact ⟨⟨sv', ls', h1, by rw [h0]; exact ha⟩, h.low h2⟩
/-- What a call leaves. -/
def Goes (F B z : Nat) (q : Int) (w : World) (e : Ending) (w' : World) : Prop := (∃ q', Lnk F B z q' w' ∧ q ≤ q' ∧ q' ≤ q + 1) ∧ Below B w w'
theorem sl_le (last to : Int) (ks : List Key) : last ≤ sL last to ks ∧ sL last to ks ≤ last + 1 := by unfold sL; split <;> omega
theorem tl_le (last n : Int) (ks : List Key) : last ≤ tL last n ks ∧ tL last n ks ≤ last + 1 := by unfold tL; split <;> omega
theorem Lnk.send {F B z : Nat} {q : Int} {w : World} (h : Lnk F B z q w) (h0 : 0 ≤ q) (h1 : q ≤ 4611686018427387904) (to : Int) (A : Option Addr) (n c : Nat) (b : List UInt8) (hr : Rd w w.heap.size 1 A n (bts b)) (h40 : b.length ≤ 40) :
    Calls Try.prog 10 #[P z, .int .i64 to, .slice A n c] w fun e w' => (∃ r s, e = .returned (two r s)) ∧ Goes F B z q w e w' := by
  obtain ⟨sv, ls, hx, ha⟩ := h
  refine (send10 hx h0 h1 to A n c b hr h40).mono fun e w' hs => ?_
  obtain ⟨he, hl⟩ := hs
  obtain ⟨k1, k2⟩ := lnk_left hx hl (asc_sK ha to b)
  exact ⟨⟨_, _, he⟩, ⟨_, k1, sl_le _ _ _⟩, k2⟩
theorem Lnk.twice {F B z : Nat} {q : Int} {w : World} (h : Lnk F B z q w) (h0 : 0 ≤ q) (h1 : q ≤ 4611686018427387904) (n : Int) :
    Calls Try.prog 11 #[P z, .int .i64 n] w fun e w' => (∃ r s, e = .returned (two r s)) ∧ Goes F B z q w e w' := by
  obtain ⟨sv, ls, hx, ha⟩ := h
  refine (twice11 hx h0 h1 n).mono fun e w' hs => ?_
  obtain ⟨he, hl⟩ := hs
  obtain ⟨k1, k2⟩ := lnk_left hx hl (asc_tK ha n)
  exact ⟨⟨_, _, he⟩, ⟨_, k1, tl_le _ _ _⟩, k2⟩
theorem Lnk.deliver {F B z : Nat} {q : Int} {w : World} (h : Lnk F B z q w) (n : Int) :
    Calls Try.prog 12 #[P z, .int .i64 n] w fun e w' => (∃ (x : Lt) (s : Int), e = .returned (lv x s)) ∧ Goes F B z q w e w' := by
  obtain ⟨sv, ls, hx, ha⟩ := h
  refine (deliver12 hx n).mono fun e w' hs => ?_
  obtain ⟨x, _, he, hl, _, _⟩ := hs
  obtain ⟨k1, k2⟩ := lnk_left hx hl (asc_dK ha n)
  exact ⟨⟨x, _, he⟩, ⟨_, k1, by omega, by omega⟩, k2⟩
theorem Lnk.drop {F B z : Nat} {q : Int} {w : World} (h : Lnk F B z q w) (n : Int) :
    Calls Try.prog 13 #[P z, .int .i64 n] w fun e w' => (∃ s : Int, e = .returned (.int .i64 s)) ∧ Goes F B z q w e w' := by
  obtain ⟨sv, ls, hx, ha⟩ := h
  refine (drop13 hx n).mono fun e w' hs => ?_
  obtain ⟨he, hl⟩ := hs
  obtain ⟨k1, k2⟩ := lnk_left hx hl (asc_dK ha n)
  exact ⟨⟨_, he⟩, ⟨_, k1, by omega, by omega⟩, k2⟩
end Go.Proofs.Ytigedoonhmaghaa
