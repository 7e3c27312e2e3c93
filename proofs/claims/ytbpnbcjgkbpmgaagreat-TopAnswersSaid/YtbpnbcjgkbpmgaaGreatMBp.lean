/- A primary answers without waiting for the other site, as many times as its leash allows: of any acts. No condition. (part 42) -/
import Derived.Test.YtbpnbcjgkbpmgaaGreatMBo
namespace Go.Proofs.YtbpnbcjgkbpmgaaGreat.Ea
open Go.RowKit Go.Lg Go.Shelf
set_option linter.unusedVariables false
set_option linter.unusedSimpArgs false
def Seqs {α : Type} (F : Fence) (n : Nat) (P : Program) (g : Nat) (lb : Array Value) (encs : α → Array Value) (Kp : World → World → Prop) (S Sp : List α → Prop) (N : Nat) (M : List α → α → Prop) (w : World) : Prop :=
  ∀ (l : Nat) (J Jx : List α → World → Prop) (W : World), Below w.heap.size w W →
    (∀ pre x W1, J pre W1 → pre.length < N → M pre x → YieldAt F (n - 1) P l (encs x) W1 fun e W' =>
      (e = .returned (.bool true) ∧ J (pre ++ [x]) W' ∧ Kp W1 W') ∨ (e = .returned (.bool false) ∧ Jx (pre ++ [x]) W')) →
    J [] W →
    CallsIn F n P g (#[.func (.yield l) #[] #[]] ++ lb) W fun e W' => (∃ v, e = .returned v) ∧ ((∃ xs, S xs ∧ J xs W') ∨ (∃ pre, Sp pre ∧ Jx pre W'))
def rpost {α : Type} (L : Nat) (Kp : World → World → Prop) (I : List α → World → Prop) (pre : List α) (W : World) : Exit → Act → World → Prop
  | .normal, _, W3 => W3.heap[L]? = W.heap[L]? ∧ W3.heap[L + 1]? = W.heap[L + 1]? ∧ Kp W W3 ∧ I pre W3
  | _, _, _ => False
theorem range_own {α : Type} {F : Fence} {n : Nat} {P : Program} {g : Operand} {ps : Array Tmp} {assign body : Code} {Q : Exit → Act → World → Prop} {a : Act} {w : World}
    (hro : F.round = none) (h1 : 1 ≤ n) {gf : Nat} {lb : Array Value} (hg : a.eval g = .func (.func gf) #[] lb) (hFg : F.fn gf) (eg : ∀ args w, (callFunc gf args).run P w = .ok (.enter gf args) w)
    {encs : α → Array Value} {Kp : World → World → Prop} {S : List α → Prop} {Sp : List α → Prop} {N : Nat} {M : List α → α → Prop} (hseq : Seqs F (n - 1) P gf lb encs Kp S Sp N M w)
    (hKt : ∀ {A B C : World}, Kp A B → Kp B C → Kp A C) (hKb : ∀ (W : World) (k : Nat) (o o' : Obj), w.heap.size ≤ k → W.heap[k]? = some o → o.isCells = false → o.isWalk = false → Kp W (W.putObj k o')) (hps : ∀ x, (encs x).size = ps.size)
    (I : List α → World → Prop) (hIa : ∀ pre W o, I pre W → I pre (W.alloc o)) (hIp : ∀ pre W r r', I pre W → W.heap[w.heap.size + 1]? = some (.loop r) → I pre (W.putObj (w.heap.size + 1) (.loop r'))) (h0 : I [] w) (a₁ : α → Act)
    (hassign : ∀ (l : Nat) (x : α) (W : World) (K : Act → World → Prop), K (a₁ x) W → assign.wpIn (F.inRound l) (n - 1 - 1) P (Exit.then K (fun _ _ _ => False)) { tmps := (ps.zip (encs x)).foldl (fun t (p, v) => t.setIfInBounds p v) a.tmps, defers := [] } W)
    (hbody : ∀ (l : Nat) (pre : List α) (x : α) (W : World), I pre W → w.heap.size + 2 ≤ W.heap.size → pre.length < N → M pre x → body.wpIn (F.inRound l) (n - 1 - 1) P (rpost w.heap.size Kp I (pre ++ [x]) W) (a₁ x) W)
    (hdone : ∀ (xs : List α) (W : World), S xs → I xs W → W.heap[w.heap.size]? = some (.deferred (some [])) → Q .normal { a with defers := { target := .collected w.heap.size, args := #[] } :: a.defers } W) :
    (Code.rangeFunc g ps assign body).wpIn F n P Q a w := by
  refine wpIn_rangeFunc fun fn hfn => ?_
  rw [hro]
  obtain ⟨L, hL⟩ : ∃ L, L = w.heap.size := ⟨_, rfl⟩
  obtain ⟨R, hR⟩ : ∃ R : LoopState → Option Code → Loop, R = fun st pe => { state := st, pending := pe, fn, tmps := a.tmps, params := ps, assign, body, defers := L } := ⟨_, rfl⟩
  obtain ⟨V, hV⟩ : ∃ V, (w.alloc (.deferred (some []))).alloc (.loop (R .ready none)) = V := ⟨_, rfl⟩
  have bV : Below L w V := by rw [← hV, hL]; exact ((Below.refl _ w).alloc (Nat.le_refl _) _).alloc (by simp) _
  have iV : I [] V := by rw [← hV]; exact hIa _ _ _ (hIa _ _ _ h0)
  have kV : Bk L (R .ready none) V := by
    rw [← hV, hL]
    refine ⟨?_, (Below.heap_alloc _ _ _ (by simp)).trans (World.alloc_heap_new w _)⟩
    have := World.alloc_heap_new (w.alloc (.deferred (some []))) (.loop (R .ready none))
    rwa [World.size_alloc] at this
  have sV : L + 2 ≤ V.heap.size := by have := (Array.getElem?_eq_some_iff.1 kV.rec_).1; omega
  rw [← hL] at hIp hbody hKb hdone
  refine ⟨L + 1, [{ target := .collected L, args := #[] }], V, { target := .fn (.func gf) lb, args := #[.func (.yield (L + 1)) #[] #[]] }, V, gf, #[.func (.yield (L + 1)) #[] #[]] ++ lb, V, ?_, ?_, ?_, ?_, fun _ => h1, ?_⟩
  · rw [← hV, hR, hL]
    exact run_enterLoop_outer _ _ _ _ _
  · simp only [resolve, hg]
    simp [go_sem]
  · intro f' hf'
    simp [Target.leads] at hf'
    subst hf'
    exact hFg
  · simp [invoke, go_sem, eg]
  -- the iterator, at the caller's invariant and the books
  refine (hseq (L + 1) (fun pre W => I pre W ∧ Bk L (R .ready none) W) (fun pre W => False) V (by rw [← hL]; exact bV) ?_ ⟨iV, kV⟩).mono ?_
  · -- a round
    rintro pre x W ⟨hi, hk⟩ hlen hmm
    have hy := run_yield (P := P) (args := encs x) hk.rec_ (by rw [hR]; exact hps x)
    rw [hR] at hy
    refine ⟨fn, _, assign, body, hy, roundIn_of_wpIn hfn (hassign _ x W _ ?_)⟩
    clear hy
    refine ⟨_, run_beginRound hk.rec_ (by rw [hR]), ?_⟩
    have hbz : ({ R .ready none with state := .busy } : Loop) = R .busy none := by rw [hR]
    rw [hbz]
    have hk2 := hk.put (R .busy none)
    have hw2 : Kp W (W.putObj (L + 1) (.loop (R .busy none))) := hKb _ _ _ _ (by omega) hk.rec_ rfl rfl
    have hsz : L + 2 ≤ (W.putObj (L + 1) (.loop (R .busy none))).heap.size := (Array.getElem?_eq_some_iff.1 hk2.rec_).1
    refine wpIn_mono (hbody _ pre x _ (hIp _ _ _ _ hi hk.rec_) hsz hlen hmm) ?_
    have fin : ∀ (jump : Option Code) (W3 : World), (W3.heap[L]? = (W.putObj (L + 1) (.loop (R .busy none))).heap[L]? ∧ W3.heap[L + 1]? = (W.putObj (L + 1) (.loop (R .busy none))).heap[L + 1]?) →
        (Instr.endRound (L + 1) jump).run P W3 = .ok (.bool jump.isNone) (W3.putObj (L + 1) (.loop (R (if jump.isNone then .ready else .done) jump))) ∧ Bk L (R .busy none) W3 := fun jump W3 hk3 => by
      have q : Bk L (R .busy none) W3 := ⟨hk3.2.trans hk2.rec_, hk3.1.trans hk2.def_⟩
      have e := run_endRound (P := P) jump q.rec_
      refine ⟨?_, q⟩
      rw [e, hR]
    intro e a3 W3 hp
    cases e with
    | normal =>
      obtain ⟨q0, q1, q2, q3⟩ := hp
      obtain ⟨r1, r2⟩ := fin none W3 ⟨q0, q1⟩
      exact ⟨_, _, r1, .inl ⟨rfl, ⟨hIp _ _ _ _ q3 r2.rec_, r2.put _⟩, hKt hw2 (hKt q2 (hKb _ _ _ _ (by omega) r2.rec_ rfl rfl))⟩⟩
    | ret => exact hp.elim
    | exit id => exact hp.elim
    | goto t => exact hp.elim
    | panic ch => exact hp.elim
    | outgrown => exact hp.elim
  · -- behind the iterator
    rintro e W2 ⟨⟨v, rfl⟩, (⟨xs, hS, hi, hk⟩ | ⟨pre, hSp, hf⟩)⟩
    · have e := run_endLoop (P := P) hk.rec_ (by rw [hR]; simp)
      have hk2 := hk.put { R .ready none with state := .exhausted }
      rw [hR] at e hk2
      exact ⟨none, _, e, hdone xs _ hS (hIp _ _ _ _ hi hk.rec_) hk2.def_⟩
    · exact hf.elim
theorem values_seqs (F : Fence) (n : Nat) (hf : F.fn 145) (hro : F.round = none) (hn : 1 ≤ n) (Bs b off cap : Nat) (ns : List Int) (A : Option Addr) (hl : ns.length ≤ 512) (w : World) (hBs : w.cell? ⟨Bs, 0, none⟩ = some (.slice A ns.length cap)) (hBl : Bs < w.heap.size)
    (hA : 0 < ns.length → A = some ⟨b, off, none⟩) (hbl : 0 < ns.length → b < w.heap.size) (hos : ∀ j u, (Lk.nums ns)[j]? = some u → w.cell? ⟨b, off + j, none⟩ = some u) (hlc : ns.length ≤ cap) :
    Seqs F n Tryz.prog 145 #[.pointer (some ⟨Bs, 0, none⟩)] Lk.enc1 (Lk.Kp2 Bs b) (fun ys => ys = ns) (fun pre => ∃ k, k ≤ ns.length ∧ pre = ns.take k) ns.length (fun pre x => ns[pre.length]? = some x) w := fun l J Jx W hW hY h0 =>
  Lk.values145_in F n hf hro hn l Bs b off cap ns A hl J Jx hY W ((World.cell?_of_block (a := ⟨Bs, 0, none⟩) (hW.block Bs hBl)).trans hBs) hA (fun j u hu => by
    have hp : 0 < ns.length := by
      have := (List.getElem?_eq_some_iff.1 hu).1
      rw [Lk.nums_length] at this
      omega
    exact (World.cell?_of_block (a := ⟨b, off + j, none⟩) (hW.block b (hbl hp))).trans (hos j u hu)) hlc h0
end Go.Proofs.YtbpnbcjgkbpmgaaGreat.Ea
