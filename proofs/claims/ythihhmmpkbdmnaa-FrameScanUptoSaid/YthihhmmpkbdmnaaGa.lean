/- A range over a function whose rounds are handed memory: what an element is like in the world of its call. -/
import Derived.Test.YthihhmmpkbdmnaaRScan
import Derived.Test.YthihhmmpkbdmnaaScan
import Derived.RangeFuncNested
import Derived.RangeFuncBound
import Derived.RangeFuncCalls
import Derived.RangeFuncLeaves
import Derived.Shelf.Abstract
import Derived.Shelf.RegionOpen
import Derived.OwnWalkIn
import Derived.TacticsInMore
import Derived.LoopNIn
import Derived.LoopIn
namespace Go.Proofs.Ythihhmmpkbdmnaa
open Go.RowKit Go.Lg Go.Shelf
set_option linter.unusedVariables false
set_option linter.unusedSimpArgs false

/-- An iterator that hands memory: each call of yield at x finds Rx x. -/
def Hands {α : Type} (F : Fence) (n : Nat) (P : Program) (g : Nat) (lb : Array Value) (encs : α → Array Value) (Rx : α → World → Prop) (Kp : World → World → Prop) (S Sp : List α → Prop) (N : Nat) (w : World) : Prop :=
  ∀ (l : Nat) (J Jx : List α → World → Prop) (W : World), Below w.heap.size w W → AbidesFrom W.heap.size J → AbidesFrom W.heap.size Jx →
    (∀ pre x W1, J pre W1 → Rx x W1 → pre.length < N → YieldAt F (n - 1) P l (encs x) W1 fun e W' =>
      (e = .returned (.bool true) ∧ J (pre ++ [x]) W' ∧ Kp W1 W') ∨ (e = .returned (.bool false) ∧ Jx (pre ++ [x]) W')) →
    J [] W →
    CallsIn F n P g (#[.func (.yield l) #[] #[]] ++ lb) W fun e W' => (∃ v, e = .returned v) ∧ ((∃ xs, S xs ∧ J xs W') ∨ (∃ pre, Sp pre ∧ Jx pre W'))

/-- The books of a loop: its record at l, the block for its rounds' deferred calls ahead of it. -/
structure Bk (l : Nat) (r : Loop) (W : World) : Prop where
  rec_ : W.heap[l + 1]? = some (.loop r)
  def_ : W.heap[l]? = some (.deferred (some []))
theorem Bk.grown {l : Nat} {r : Loop} {W W' : World} {row : Option Nat} (h : Bk l r W) (hg : W.grownBy W' row) (hr : ∀ k, row = some k → ∃ o : Obj, W.heap[k]? = some o ∧ o.isWalk = true) : Bk l r W' := by
  have key : ∀ {k : Nat} {o : Obj}, W.heap[k]? = some o → o.isWalk = false → W'.heap[k]? = some o := fun {k o} hk ho =>
    (hg.block k (Array.getElem?_eq_some_iff.1 hk).1 (fun e => by
      obtain ⟨o', h1, h2⟩ := hr k e.symm
      rw [hk] at h1
      cases h1
      rw [ho] at h2
      cases h2)).trans hk
  exact ⟨key h.rec_ rfl, key h.def_ rfl⟩
theorem Bk.put {l : Nat} {r : Loop} {W : World} (h : Bk l r W) (r' : Loop) : Bk l r' (W.putObj (l + 1) (.loop r')) :=
  ⟨World.putObj_heap_same (Array.getElem?_eq_some_iff.1 h.rec_).1, (World.putObj_heap_other (by omega)).trans h.def_⟩
theorem Bk.kept {l : Nat} {r : Loop} {W W' : World} (h : Bk l r W) (hk : KeepsFrom l W W') : Bk l r W' := ⟨hk.same _ _ (by omega) h.rec_ rfl, hk.same _ _ (Nat.le_refl _) h.def_ rfl⟩

theorem range_hands {α : Type} {F : Fence} {n : Nat} {P : Program} {g : Operand} {ps : Array Tmp} {assign body : Code} {Q : Exit → Act → World → Prop} {a : Act} {w : World}
    (hro : F.round = none) (h1 : 1 ≤ n) {gf : Nat} {lb : Array Value} (hg : a.eval g = .func (.func gf) #[] lb) (hFg : F.fn gf) (eg : ∀ args w, (callFunc gf args).run P w = .ok (.enter gf args) w)
    {encs : α → Array Value} {Rx : α → World → Prop} {Kp : World → World → Prop} {S Sp : List α → Prop} {N : Nat} (hseq : Hands F (n - 1) P gf lb encs Rx Kp S Sp N w)
    (hKt : ∀ {A B C : World}, Kp A B → Kp B C → Kp A C) (hKb : ∀ (W : World) (k : Nat) (o o' : Obj), w.heap.size ≤ k → W.heap[k]? = some o → o.isCells = false → o.isWalk = false → Kp W (W.putObj k o')) (hps : ∀ x, (encs x).size = ps.size)
    (I : List α → World → Prop) (Ix : Code → List α → World → Prop) (hI : OwnFrom w.heap.size I) (hIx : ∀ c, OwnFrom w.heap.size (Ix c)) (hRx : ∀ x, OwnFrom w.heap.size (fun (_ : Unit) W => Rx x W)) (h0 : I [] w) (a₁ : α → Act)
    (hassign : ∀ (l : Nat) (x : α) (W : World) (K : Act → World → Prop), K (a₁ x) W → assign.wpIn (F.inRound l) (n - 1 - 1) P (Exit.then K (fun _ _ _ => False)) { tmps := (ps.zip (encs x)).foldl (fun t (p, v) => t.setIfInBounds p v) a.tmps, defers := [] } W)
    (hbody : ∀ (l : Nat) (pre : List α) (x : α) (W : World), I pre W → Rx x W → pre.length < N → body.wpIn (F.inRound l) (n - 1 - 1) P (ownPostG w.heap.size Kp I Ix (pre ++ [x]) W) (a₁ x) W)
    (hdone : ∀ (D : Nat) (xs : List α) (W : World), w.heap.size ≤ D → S xs → I xs W → W.heap[D]? = some (.deferred (some [])) → Q .normal { a with defers := { target := .collected D, args := #[] } :: a.defers } W)
    (hstop : ∀ (D : Nat) (c : Code) (pre : List α) (W : World), w.heap.size ≤ D → Sp pre → Ix c pre W → W.heap[D]? = some (.deferred (some [])) → c.wpIn F n P Q { a with defers := { target := .collected D, args := #[] } :: a.defers } W) :
    (Code.rangeFunc g ps assign body).wpIn F n P Q a w := by
  refine wpIn_rangeFunc fun fn hfn => ?_
  rw [hro]
  obtain ⟨L, hL⟩ : ∃ L, L = w.heap.size := ⟨_, rfl⟩
  obtain ⟨R, hR⟩ : ∃ R : LoopState → Option Code → Loop, R = fun st pe => { state := st, pending := pe, fn, tmps := a.tmps, params := ps, assign, body, defers := L } := ⟨_, rfl⟩
  obtain ⟨V, hV⟩ : ∃ V, (w.alloc (.deferred (some []))).alloc (.loop (R .ready none)) = V := ⟨_, rfl⟩
  have bV : Below L w V := by rw [← hV, hL]; exact ((Below.refl _ w).alloc (Nat.le_refl _) _).alloc (by simp) _
  have iV : I [] V := by rw [← hV]; exact hI.alloc _ (hI.alloc _ h0)
  have kV : Bk L (R .ready none) V := by
    rw [← hV, hL]
    refine ⟨?_, (Below.heap_alloc _ _ _ (by simp)).trans (World.alloc_heap_new w _)⟩
    have := World.alloc_heap_new (w.alloc (.deferred (some []))) (.loop (R .ready none))
    rwa [World.size_alloc] at this
  have sV : L + 2 ≤ V.heap.size := by have := (Array.getElem?_eq_some_iff.1 kV.rec_).1; omega
  rw [← hL] at hI hIx hRx hbody hKb hdone hstop
  refine ⟨L + 1, [{ target := .collected L, args := #[] }], V, { target := .fn (.func gf) lb, args := #[.func (.yield (L + 1)) #[] #[]] }, V, gf, #[.func (.yield (L + 1)) #[] #[]] ++ lb, V, ?_, ?_, ?_, ?_, fun _ => h1, ?_⟩
  · rw [← hV, hR, hL]
    exact run_enterLoop_outer _ _ _ _ _
  · simp only [resolve, hg]
    simp [go_sem]
  · intro f' hf'
    simp [Target.leads] at hf'
    subst hf'
    exact hFg
  · simp [invoke, go_sem, eg]
  -- the iterator, at the caller's invariant and the books
  have wk : ∀ {A : World} {row : Option Nat}, (∀ r, row = some r → V.heap.size ≤ r ∧ ∃ o : Obj, A.heap[r]? = some o ∧ o.isWalk = true) → ∀ r, row = some r → L ≤ r ∧ ∃ o : Obj, A.heap[r]? = some o ∧ o.isCells = false := fun hr r e => by
    obtain ⟨q1, o, q2, q3⟩ := hr r e
    exact ⟨by omega, o, q2, Obj.not_cells_of_walk q3⟩
  refine (hseq (L + 1) (fun pre W => I pre W ∧ Bk L (R .ready none) W) (fun pre W => ∃ c, Ix c pre W ∧ Bk L (R .done (some c)) W) V (by rw [← hL]; exact bV)
    (fun s A B row hs hg' hr => ⟨hI s A B row hs.1 hg' (wk hr), hs.2.grown hg' (fun r e => (hr r e).2)⟩)
    (fun s A B row hs hg' hr => by
      obtain ⟨c, q1, q2⟩ := hs
      exact ⟨c, hIx c s A B row q1 hg' (wk hr), q2.grown hg' (fun r e => (hr r e).2)⟩) ?_ ⟨iV, kV⟩).mono ?_
  · -- a round
    rintro pre x W ⟨hi, hk⟩ hx hlen
    have hy := run_yield (P := P) (args := encs x) hk.rec_ (by rw [hR]; exact hps x)
    rw [hR] at hy
    refine ⟨fn, _, assign, body, hy, roundIn_of_wpIn hfn (hassign _ x W _ ?_)⟩
    clear hy
    refine ⟨_, run_beginRound hk.rec_ (by rw [hR]), ?_⟩
    have hbz : ({ R .ready none with state := .busy } : Loop) = R .busy none := by rw [hR]
    rw [hbz]
    have hk2 := hk.put (R .busy none)
    have hw2 : Kp W (W.putObj (L + 1) (.loop (R .busy none))) := hKb _ _ _ _ (by omega) hk.rec_ rfl rfl
    refine wpIn_mono (hbody _ pre x _ (hI.putObj _ hi (by omega) hk.rec_ rfl) ((hRx x).putObj (s := ()) _ hx (by omega) hk.rec_ rfl) hlen) ?_
    have fin : ∀ (jump : Option Code) (W3 : World), KeepsFrom L (W.putObj (L + 1) (.loop (R .busy none))) W3 →
        (Instr.endRound (L + 1) jump).run P W3 = .ok (.bool jump.isNone) (W3.putObj (L + 1) (.loop (R (if jump.isNone then .ready else .done) jump))) ∧ Bk L (R .busy none) W3 := fun jump W3 hk3 => by
      have q := hk2.kept hk3
      have e := run_endRound (P := P) jump q.rec_
      refine ⟨?_, q⟩
      rw [e, hR]
    intro e a3 W3 hp
    cases e with
    | normal =>
      obtain ⟨q1, q2, q3⟩ := hp
      obtain ⟨r1, r2⟩ := fin none W3 q1
      exact ⟨_, _, r1, .inl ⟨rfl, ⟨hI.putObj _ q3 (by omega) r2.rec_ rfl, r2.put _⟩, hKt hw2 (hKt q2 (hKb _ _ _ _ (by omega) r2.rec_ rfl rfl))⟩⟩
    | ret =>
      obtain ⟨q1, q3⟩ := hp
      obtain ⟨r1, r2⟩ := fin (some .ret) W3 q1
      exact ⟨_, _, r1, .inr ⟨rfl, .ret, (hIx _).putObj _ q3 (by omega) r2.rec_ rfl, r2.put _⟩⟩
    | exit id =>
      obtain ⟨q1, q3⟩ := hp
      obtain ⟨r1, r2⟩ := fin (some (.exit id)) W3 q1
      exact ⟨_, _, r1, .inr ⟨rfl, .exit id, (hIx _).putObj _ q3 (by omega) r2.rec_ rfl, r2.put _⟩⟩
    | goto t =>
      obtain ⟨q1, q3⟩ := hp
      obtain ⟨r1, r2⟩ := fin (some (.goto t)) W3 q1
      exact ⟨_, _, r1, .inr ⟨rfl, .goto t, (hIx _).putObj _ q3 (by omega) r2.rec_ rfl, r2.put _⟩⟩
    | panic ch => exact hp.elim
    | outgrown => exact hp.elim
  · -- behind the iterator
    rintro e W2 ⟨⟨v, rfl⟩, (⟨xs, hS, hi, hk⟩ | ⟨pre, hSp, c, hi, hk⟩)⟩
    · have e := run_endLoop (P := P) hk.rec_ (by rw [hR]; simp)
      have hk2 := hk.put { R .ready none with state := .exhausted }
      rw [hR] at e hk2
      exact ⟨none, _, e, hdone L xs _ (Nat.le_refl _) hS (hI.putObj _ hi (by omega) hk.rec_ rfl) hk2.def_⟩
    · have e := run_endLoop (P := P) hk.rec_ (by rw [hR]; simp)
      have hk2 := hk.put { R .done (some c) with state := .exhausted }
      rw [hR] at e hk2
      exact ⟨some c, _, e, hstop L c pre _ (Nat.le_refl _) hSp ((hIx c).putObj _ hi (by omega) hk.rec_ rfl) hk2.def_⟩
end Go.Proofs.Ythihhmmpkbdmnaa
