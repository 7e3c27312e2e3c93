/- A primary answers without waiting for the other site, as many times as its leash allows: of any acts. No condition. (part 12) -/
import Derived.RangeFuncNested
import Derived.RangeFuncBound
import Derived.RangeFuncCalls
import Derived.RangeFuncLeaves
import Derived.Shelf.Abstract
import Derived.Shelf.RegionOpen
import Derived.OwnWalkIn
import Derived.TacticsInMore
import Derived.LoopNIn
import Derived.LoopIn
import Derived.Test.YtbpnbcjgkbpmgaaGreatMAb
import Derived.Test.YtbpnbcjgkbpmgaaGreatMAg
import Derived.Test.YtbpnbcjgkbpmgaaGreatMAk
namespace Go.Proofs.YtbpnbcjgkbpmgaaGreat
open Go.RowKit Go.Lg St
set_option linter.unusedVariables false
set_option linter.unusedSimpArgs false
theorem ofar {w : World} {base : Nat} {e : TypeId} {size : Nat} {v : Value} {n : Nat} {xs : List Value} (h : w.ownsRow base e size v n xs) {a : Addr} (ha : a.block < base) (u : Value) : (w.setCell a u).ownsRow base e size v n xs := ownsRow_setCell_below h ha u
set_option maxHeartbeats 2000000 in
set_option maxRecDepth 100000 in
theorem clone150 {w : World} {A : Option Addr} {k c : Nat} {os : List Op3} (h : OS w w.heap.size A k os) (hk : k ≤ 1000000) : Calls Tryz.prog 150 #[.slice A k c] w fun e w' => ∃ v, e = .returned v ∧ w'.ownsRow w.heap.size 77 3 v k (opc os) ∧ Below w.heap.size w w' := by
  have HL := hid h.2
  cases A with
  | none =>
    have h0 : k = 0 := by
      rcases Nat.eq_zero_or_pos k with q | q
      · exact q
      · obtain ⟨b, off, q2, _⟩ := h.1.2 q; cases q2
    subst h0
    have hnil : os = [] := List.eq_nil_of_length_eq_zero HL.out
    subst hnil
    have q := fun w => Lib.run_eql_slice_nil (P := Tryz.prog) w 28 77 none 0 c 0 0 Tryz.underlying28
    go_enter Tryz.func150, Tryz.ntmps150
    go_wp2_with fail
    go_ret
    exact ⟨_, rfl, World.ownsRow_nil _ _ _ _, Below.refl _ _⟩
  | some a =>
    have q := fun w => Lib.run_eql_slice_nil (P := Tryz.prog) w 28 77 (some a) k c 0 0 Tryz.underlying28
    have H := hid h
    clear h
    go_enter Tryz.func150, Tryz.ntmps150
    go_wp2_with (at_builtin; refine stop_ (fun Ps hPs => ?_))
    refine hPs ?_
    clear hPs Ps
    refine wpList_app T28 (.tmp 5) (.tmp 6) rfl rfl (World.ownsRow_lit w #[] 0 (Nat.le_refl _) (Nat.zero_le _) rfl) rfl (H.out.1.alloc (Nat.le_refl _) _) rfl (opc_one os) (by omega) (by simp) fun v1 w1 hown hg hat => ?_
    have hb : Below w.heap.size w w1 := ((Below.refl _ _).alloc (Nat.le_refl _) _).grown hg (by simp) (by intro k hk; simp [Value.ownBlock] at hk; omega)
    go_wp2_with fail
    go_ret
    exact ⟨v1, rfl, by simpa using hown, hb⟩
set_option maxHeartbeats 2000000 in
set_option maxRecDepth 100000 in
theorem copy91 {w : World} {ep num : Int} {A : Option Addr} {k c : Nat} {os : List Op3} (h : OS w w.heap.size A k os) (hk : k ≤ 1000000) (hkc : k ≤ c) : Calls Tryz.prog 91 #[.agg #[.int .i64 ep, .int .i64 num, .slice A k c]] w fun e w' => ∃ A' c', e = .returned (.agg #[.int .i64 ep, .int .i64 num, .slice A' k c']) ∧ w'.ownsRow w.heap.size 77 3 (.slice A' k c') k (opc os) ∧ Below w.heap.size w w' := by
  obtain ⟨W, hW⟩ : ∃ W, W = (w.alloc (.cells #[.int .i64 ep, .int .i64 num, .slice A k c] 88)).alloc (.cells #[.int .i64 0, .int .i64 0, .slice none 0 0] 88) := ⟨_, rfl⟩
  have hbW : Below w.heap.size w W := by rw [hW]; exact ((Below.refl _ _).alloc (Nat.le_refl _) _).alloc (by simp) _
  have hszW : W.heap.size = w.heap.size + 2 := by rw [hW]; simp
  have k0 : Blk W w.heap.size 88 #[.int .i64 ep, .int .i64 num, .slice A k c] := by rw [hW]; exact (Blk.new _ _ _).alloc _
  have k1 : Blk W (w.heap.size + 1) 88 #[.int .i64 0, .int .i64 0, .slice none 0 0] := by
    have := Blk.new (w.alloc (.cells #[.int .i64 ep, .int .i64 num, .slice A k c] 88)) 88 #[.int .i64 0, .int .i64 0, .slice none 0 0]
    rw [World.size_alloc] at this
    rw [hW]; exact this
  have hcl := clone150 (w := W) (c := c) ((h.keep hbW).more (by omega)) hk
  have HCL := hid hcl
  have K0 := hid k0
  have K1 := hid k1
  have HBW := hid hbW
  obtain ⟨z0, z1, z2, e0, e1, e2⟩ := ccells k0
  clear hcl k0 k1 hbW
  go_enter Tryz.func91, Tryz.ntmps91
  go_upto_region 1 with fail
  rw [← hW]
  clear hW
  go_wp2_with (go_at_call 150; refine stop_ (fun Ps hPs => ?_))
  refine hPs ?_
  clear hPs Ps
  refine HCL.out.mono ?_
  rintro e' w1 ⟨v1, rfl, ho1, hw1⟩
  obtain ⟨A', c', rfl, _⟩ := owned_slice ho1
  have hk0 := K0.out.later hw1
  have hk1 := K1.out.later hw1
  clear z0 z1 z2 e0 e1 e2
  obtain ⟨z0, z1, z2, e0, e1, e2⟩ := ccells hk0
  have hs := hk0.set_ 2 (.slice A' k c')
  have hs1 : Blk (w1.setCell ⟨w.heap.size, 2, none⟩ (.slice A' k c')) (w.heap.size + 1) 88 #[.int .i64 0, .int .i64 0, .slice none 0 0] := hk1.far (p := ⟨w.heap.size, 2, none⟩) (by show w.heap.size + 1 ≠ w.heap.size; omega) _
  obtain ⟨W2, hW2⟩ : ∃ W2, W2 = w1.setCell ⟨w.heap.size, 2, none⟩ (.slice A' k c') := ⟨_, rfl⟩
  have hb2 : Below w.heap.size w W2 := by rw [hW2]; exact (bl_trans HBW.out hw1 (by omega)).setCell (p := ⟨w.heap.size, 2, none⟩) (Nat.le_refl _) _
  have ho2 : W2.ownsRow (w.heap.size + 2) 77 3 (.slice A' k c') k (opc os) := by
    rw [hW2]
    have : w1.ownsRow (w.heap.size + 2) 77 3 (.slice A' k c') k (opc os) := by rw [← hszW]; exact ho1
    exact ofar this (a := ⟨w.heap.size, 2, none⟩) (by show w.heap.size < w.heap.size + 2; omega) _
  have HB2 := hid hb2
  have HO2 := hid ho2
  go_upto_region 2 with fail
  rw [← hW2] at hs hs1 ⊢
  clear hW2 hk0 hk1 hw1 ho1 z0 z1 z2 e0 e1 e2 hb2 ho2
  obtain ⟨z0, z1, z2, e0, e1, e2⟩ := ccells hs
  obtain ⟨y0, y1, y2, x0, x1, x2⟩ := ccells hs1
  have hst := cstored (x' := .int .i64 ep) (y' := .int .i64 num) (u' := .slice A' k c') hs1
  obtain ⟨s0, s1, s2, _⟩ := ccells hst
  go_wp2_with fail
  refine bodyPost_ret (by simp [results, Tryz.results91, go_sem, s0, s1, s2]; try rfl) rfl ?_
  refine ⟨A', c', rfl, ?_, ?_⟩
  · exact owned_less (ofar (ofar (ofar HO2.out (a := ⟨w.heap.size + 1, 0, none⟩) (by show w.heap.size + 1 < w.heap.size + 2; omega) (.int .i64 ep)) (a := ⟨w.heap.size + 1, 1, none⟩) (by show w.heap.size + 1 < w.heap.size + 2; omega) (.int .i64 num)) (a := ⟨w.heap.size + 1, 2, none⟩) (by show w.heap.size + 1 < w.heap.size + 2; omega) (.slice A' k c')) (by omega)
  · exact ((HB2.out.setCell (p := ⟨w.heap.size + 1, 0, none⟩) (by simp) _).setCell (p := ⟨w.heap.size + 1, 1, none⟩) (by simp) _).setCell (p := ⟨w.heap.size + 1, 2, none⟩) (by simp) _
end Go.Proofs.YtbpnbcjgkbpmgaaGreat
namespace Go.Proofs.YtbpnbcjgkbpmgaaGreat.Ea
open Go.RowKit Go.Lg Go.Shelf
set_option linter.unusedVariables false
set_option linter.unusedSimpArgs false
def Hands {α : Type} (F : Fence) (n : Nat) (P : Program) (g : Nat) (lb : Array Value) (encs : α → Array Value) (Rx : α → World → Prop) (Kp : World → World → Prop) (S Sp : List α → Prop) (N : Nat) (w : World) : Prop :=
  ∀ (l : Nat) (J Jx : List α → World → Prop) (W : World), Below w.heap.size w W → AbidesFrom W.heap.size J → AbidesFrom W.heap.size Jx →
    (∀ pre x W1, J pre W1 → Rx x W1 → pre.length < N → YieldAt F (n - 1) P l (encs x) W1 fun e W' =>
      (e = .returned (.bool true) ∧ J (pre ++ [x]) W' ∧ Kp W1 W') ∨ (e = .returned (.bool false) ∧ Jx (pre ++ [x]) W')) →
    J [] W →
    CallsIn F n P g (#[.func (.yield l) #[] #[]] ++ lb) W fun e W' => (∃ v, e = .returned v) ∧ ((∃ xs, S xs ∧ J xs W') ∨ (∃ pre, Sp pre ∧ Jx pre W'))
structure Bk (l : Nat) (r : Loop) (W : World) : Prop where
  rec_ : W.heap[l + 1]? = some (.loop r)
  def_ : W.heap[l]? = some (.deferred (some []))
theorem Bk.grown {l : Nat} {r : Loop} {W W' : World} {row : Option Nat} (h : Bk l r W) (hg : W.grownBy W' row) (hr : ∀ k, row = some k → ∃ o : Obj, W.heap[k]? = some o ∧ o.isWalk = true) : Bk l r W' := by
  have key : ∀ {k : Nat} {o : Obj}, W.heap[k]? = some o → o.isWalk = false → W'.heap[k]? = some o := fun {k o} hk ho =>
    (hg.block k (Array.getElem?_eq_some_iff.1 hk).1 (fun e => by
      obtain ⟨o', h1, h2⟩ := hr k e.symm
      rw [hk] at h1
      cases h1
      rw [ho] at h2
      cases h2)).trans hk
  exact ⟨key h.rec_ rfl, key h.def_ rfl⟩
theorem Bk.put {l : Nat} {r : Loop} {W : World} (h : Bk l r W) (r' : Loop) : Bk l r' (W.putObj (l + 1) (.loop r')) :=
  ⟨World.putObj_heap_same (Array.getElem?_eq_some_iff.1 h.rec_).1, (World.putObj_heap_other (by omega)).trans h.def_⟩
theorem Bk.kept {l : Nat} {r : Loop} {W W' : World} (h : Bk l r W) (hk : KeepsFrom l W W') : Bk l r W' := ⟨hk.same _ _ (by omega) h.rec_ rfl, hk.same _ _ (Nat.le_refl _) h.def_ rfl⟩
theorem range_hands {α : Type} {F : Fence} {n : Nat} {P : Program} {g : Operand} {ps : Array Tmp} {assign body : Code} {Q : Exit → Act → World → Prop} {a : Act} {w : World}
    (hro : F.round = none) (h1 : 1 ≤ n) {gf : Nat} {lb : Array Value} (hg : a.eval g = .func (.func gf) #[] lb) (hFg : F.fn gf) (eg : ∀ args w, (callFunc gf args).run P w = .ok (.enter gf args) w)
    {encs : α → Array Value} {Rx : α → World → Prop} {Kp : World → World → Prop} {S Sp : List α → Prop} {N : Nat} (hseq : Hands F (n - 1) P gf lb encs Rx Kp S Sp N w)
    (hKt : ∀ {A B C : World}, Kp A B → Kp B C → Kp A C) (hKb : ∀ (W : World) (k : Nat) (o o' : Obj), w.heap.size ≤ k → W.heap[k]? = some o → o.isCells = false → o.isWalk = false → Kp W (W.putObj k o')) (hps : ∀ x, (encs x).size = ps.size)
    (I : List α → World → Prop) (Ix : Code → List α → World → Prop) (hI : OwnFrom w.heap.size I) (hIx : ∀ c, OwnFrom w.heap.size (Ix c)) (hRx : ∀ x, OwnFrom w.heap.size (fun (_ : Unit) W => Rx x W)) (h0 : I [] w) (a₁ : α → Act)
    (hassign : ∀ (l : Nat) (x : α) (W : World) (K : Act → World → Prop), K (a₁ x) W → assign.wpIn (F.inRound l) (n - 1 - 1) P (Exit.then K (fun _ _ _ => False)) { tmps := (ps.zip (encs x)).foldl (fun t (p, v) => t.setIfInBounds p v) a.tmps, defers := [] } W)
    (hbody : ∀ (l : Nat) (pre : List α) (x : α) (W : World), I pre W → Rx x W → pre.length < N → body.wpIn (F.inRound l) (n - 1 - 1) P (ownPostG w.heap.size Kp I Ix (pre ++ [x]) W) (a₁ x) W)
    (hdone : ∀ (D : Nat) (xs : List α) (W : World), w.heap.size ≤ D → S xs → I xs W → W.heap[D]? = some (.deferred (some [])) → Q .normal { a with defers := { target := .collected D, args := #[] } :: a.defers } W)
    (hstop : ∀ (D : Nat) (c : Code) (pre : List α) (W : World), w.heap.size ≤ D → Sp pre → Ix c pre W → W.heap[D]? = some (.deferred (some [])) → c.wpIn F n P Q { a with defers := { target := .collected D, args := #[] } :: a.defers } W) :
    (Code.rangeFunc g ps assign body).wpIn F n P Q a w := by
  refine wpIn_rangeFunc fun fn hfn => ?_
  rw [hro]
  obtain ⟨L, hL⟩ : ∃ L, L = w.heap.size := ⟨_, rfl⟩
  obtain ⟨R, hR⟩ : ∃ R : LoopState → Option Code → Loop, R = fun st pe => { state := st, pending := pe, fn, tmps := a.tmps, params := ps, assign, body, defers := L } := ⟨_, rfl⟩
  obtain ⟨V, hV⟩ : ∃ V, (w.alloc (.deferred (some []))).alloc (.loop (R .ready none)) = V := ⟨_, rfl⟩
  have bV : Below L w V := by rw [← hV, hL]; exact ((Below.refl _ w).alloc (Nat.le_refl _) _).alloc (by simp) _
  have iV : I [] V := by rw [← hV]; exact hI.alloc _ (hI.alloc _ h0)
  have kV : Bk L (R .ready none) V := by
    rw [← hV, hL]
    refine ⟨?_, (Below.heap_alloc _ _ _ (by simp)).trans (World.alloc_heap_new w _)⟩
    have := World.alloc_heap_new (w.alloc (.deferred (some []))) (.loop (R .ready none))
    rwa [World.size_alloc] at this
  have sV : L + 2 ≤ V.heap.size := by have := (Array.getElem?_eq_some_iff.1 kV.rec_).1; omega
  rw [← hL] at hI hIx hRx hbody hKb hdone hstop
  refine ⟨L + 1, [{ target := .collected L, args := #[] }], V, { target := .fn (.func gf) lb, args := #[.func (.yield (L + 1)) #[] #[]] }, V, gf, #[.func (.yield (L + 1)) #[] #[]] ++ lb, V, ?_, ?_, ?_, ?_, fun _ => h1, ?_⟩
  · rw [← hV, hR, hL]
    exact run_enterLoop_outer _ _ _ _ _
  · simp only [resolve, hg]
    simp [go_sem]
  · intro f' hf'
    simp [Target.leads] at hf'
    subst hf'
    exact hFg
  · simp [invoke, go_sem, eg]
  -- the iterator, at the caller's invariant and the books
  have wk : ∀ {A : World} {row : Option Nat}, (∀ r, row = some r → V.heap.size ≤ r ∧ ∃ o : Obj, A.heap[r]? = some o ∧ o.isWalk = true) → ∀ r, row = some r → L ≤ r ∧ ∃ o : Obj, A.heap[r]? = some o ∧ o.isCells = false := fun hr r e => by
    obtain ⟨q1, o, q2, q3⟩ := hr r e
    exact ⟨by omega, o, q2, Obj.not_cells_of_walk q3⟩
  refine (hseq (L + 1) (fun pre W => I pre W ∧ Bk L (R .ready none) W) (fun pre W => ∃ c, Ix c pre W ∧ Bk L (R .done (some c)) W) V (by rw [← hL]; exact bV)
    (fun s A B row hs hg' hr => ⟨hI s A B row hs.1 hg' (wk hr), hs.2.grown hg' (fun r e => (hr r e).2)⟩)
    (fun s A B row hs hg' hr => by
      obtain ⟨c, q1, q2⟩ := hs
      exact ⟨c, hIx c s A B row q1 hg' (wk hr), q2.grown hg' (fun r e => (hr r e).2)⟩) ?_ ⟨iV, kV⟩).mono ?_
  · -- a round
    rintro pre x W ⟨hi, hk⟩ hx hlen
    have hy := run_yield (P := P) (args := encs x) hk.rec_ (by rw [hR]; exact hps x)
    rw [hR] at hy
    refine ⟨fn, _, assign, body, hy, roundIn_of_wpIn hfn (hassign _ x W _ ?_)⟩
    clear hy
    refine ⟨_, run_beginRound hk.rec_ (by rw [hR]), ?_⟩
    have hbz : ({ R .ready none with state := .busy } : Loop) = R .busy none := by rw [hR]
    rw [hbz]
    have hk2 := hk.put (R .busy none)
    have hw2 : Kp W (W.putObj (L + 1) (.loop (R .busy none))) := hKb _ _ _ _ (by omega) hk.rec_ rfl rfl
    refine wpIn_mono (hbody _ pre x _ (hI.putObj _ hi (by omega) hk.rec_ rfl) ((hRx x).putObj (s := ()) _ hx (by omega) hk.rec_ rfl) hlen) ?_
    have fin : ∀ (jump : Option Code) (W3 : World), KeepsFrom L (W.putObj (L + 1) (.loop (R .busy none))) W3 →
        (Instr.endRound (L + 1) jump).run P W3 = .ok (.bool jump.isNone) (W3.putObj (L + 1) (.loop (R (if jump.isNone then .ready else .done) jump))) ∧ Bk L (R .busy none) W3 := fun jump W3 hk3 => by
      have q := hk2.kept hk3
      have e := run_endRound (P := P) jump q.rec_
      refine ⟨?_, q⟩
      rw [e, hR]
    intro e a3 W3 hp
    cases e with
    | normal =>
      obtain ⟨q1, q2, q3⟩ := hp
      obtain ⟨r1, r2⟩ := fin none W3 q1
      exact ⟨_, _, r1, .inl ⟨rfl, ⟨hI.putObj _ q3 (by omega) r2.rec_ rfl, r2.put _⟩, hKt hw2 (hKt q2 (hKb _ _ _ _ (by omega) r2.rec_ rfl rfl))⟩⟩
    | ret =>
      obtain ⟨q1, q3⟩ := hp
      obtain ⟨r1, r2⟩ := fin (some .ret) W3 q1
      exact ⟨_, _, r1, .inr ⟨rfl, .ret, (hIx _).putObj _ q3 (by omega) r2.rec_ rfl, r2.put _⟩⟩
    | exit id =>
      obtain ⟨q1, q3⟩ := hp
      obtain ⟨r1, r2⟩ := fin (some (.exit id)) W3 q1
      exact ⟨_, _, r1, .inr ⟨rfl, .exit id, (hIx _).putObj _ q3 (by omega) r2.rec_ rfl, r2.put _⟩⟩
    | goto t =>
      obtain ⟨q1, q3⟩ := hp
      obtain ⟨r1, r2⟩ := fin (some (.goto t)) W3 q1
      exact ⟨_, _, r1, .inr ⟨rfl, .goto t, (hIx _).putObj _ q3 (by omega) r2.rec_ rfl, r2.put _⟩⟩
    | panic ch => exact hp.elim
    | outgrown => exact hp.elim
  · -- behind the iterator
    rintro e W2 ⟨⟨v, rfl⟩, (⟨xs, hS, hi, hk⟩ | ⟨pre, hSp, c, hi, hk⟩)⟩
    · have e := run_endLoop (P := P) hk.rec_ (by rw [hR]; simp)
      have hk2 := hk.put { R .ready none with state := .exhausted }
      rw [hR] at e hk2
      exact ⟨none, _, e, hdone L xs _ (Nat.le_refl _) hS (hI.putObj _ hi (by omega) hk.rec_ rfl) hk2.def_⟩
    · have e := run_endLoop (P := P) hk.rec_ (by rw [hR]; simp)
      have hk2 := hk.put { R .done (some c) with state := .exhausted }
      rw [hR] at e hk2
      exact ⟨some c, _, e, hstop L c pre _ (Nat.le_refl _) hSp ((hIx c).putObj _ hi (by omega) hk.rec_ rfl) hk2.def_⟩
end Go.Proofs.YtbpnbcjgkbpmgaaGreat.Ea
namespace Vi
def sqF : Nat → Nat → List UInt8 → List (Nat × List UInt8)
  | 0, _, _ => []
  | f + 1, a, b => match fread b with
    | none => []
    | some (r, m) => (a, r) :: sqF f (a + m) (b.drop m)
def sq (a : Nat) (b : List UInt8) : List (Nat × List UInt8) := sqF (b.length + 1) a b
theorem sqF_fuel (f : Nat) : ∀ g a b, b.length < f → b.length < g → sqF f a b = sqF g a b := by
  induction f with
  | zero => intro g a b h _; omega
  | succ f ih =>
    intro g a b h1 h2
    obtain ⟨g, rfl⟩ : ∃ g', g = g' + 1 := ⟨g - 1, by omega⟩
    simp only [sqF]
    cases hb : fread b with
    | none => rfl
    | some x =>
      obtain ⟨r, m⟩ := x
      have := fread_fits hb
      have e := ih g (a + m) (b.drop m) (by simp; omega) (by simp; omega)
      show (a, r) :: sqF f (a + m) (b.drop m) = (a, r) :: sqF g (a + m) (b.drop m)
      rw [e]
theorem sq_none {a : Nat} {b : List UInt8} (h : fread b = none) : sq a b = [] := by simp [sq, sqF, h]
theorem sq_some {a : Nat} {b r : List UInt8} {m : Nat} (h : fread b = some (r, m)) : sq a b = (a, r) :: sq (a + m) (b.drop m) := by
  have := fread_fits h
  have e : sqF b.length (a + m) (b.drop m) = sqF ((b.drop m).length + 1) (a + m) (b.drop m) := sqF_fuel _ _ _ _ (by simp; omega) (by omega)
  show (match fread b with | none => [] | some (r, m) => (a, r) :: sqF b.length (a + m) (b.drop m)) = _
  rw [h]
  show (a, r) :: sqF b.length (a + m) (b.drop m) = _
  rw [e]
  rfl
theorem sq_len (f : Nat) : ∀ a b, b.length < f → (sq a b).length ≤ b.length := by
  induction f with
  | zero => intro a b h; omega
  | succ f ih =>
    intro a b h
    cases hb : fread b with
    | none => rw [sq_none hb]; simp
    | some x =>
      obtain ⟨r, m⟩ := x
      have := fread_fits hb
      have h9 := ih (a + m) (b.drop m) (by simp; omega)
      rw [sq_some hb, List.length_cons]
      simp at h9
      omega
end Vi
namespace Go.Proofs.YtbpnbcjgkbpmgaaGreat.Ea
open Go.RowKit Go.Lg Go.Shelf
set_option linter.unusedVariables false
set_option linter.unusedSimpArgs false
def nums (l : List Nat) : List Value := l.map (fun a : Nat => Value.int .i64 (a : Int))
def Eached (l : List UInt8) (w : World) (e : Ending) (w' : World) : Prop :=
  ∃ Bo A c, e = .returned (.func (.func 159) #[] #[.pointer (some ⟨Bo, 0, none⟩)]) ∧ w.heap.size ≤ Bo ∧ Bo < w'.heap.size ∧ w'.cell? ⟨Bo, 0, none⟩ = some (.slice A l.length c) ∧ RdF w' (fun k => w.heap.size ≤ k ∧ k < w'.heap.size) 1 A l.length (bts l) ∧ l.length ≤ c ∧ c ≤ maxLen ∧ Below w.heap.size w w'
set_option maxHeartbeats 2000000 in
set_option maxRecDepth 100000 in
theorem each37 (A : Option Addr) (n c : Nat) (l : List UInt8) (w : World) (h : Rd w w.heap.size 1 A n (bts l)) (hn : n ≤ 140737488355000) :
    Calls Tryz.prog 110 #[.slice A n c] w (Eached l w) := by
  have HC := hid (clone_any A n c l w h hn)
  clear h
  go_enter Tryz.func110, Tryz.ntmps110
  go_wp2_with (go_at_call 85; refine stop_ (fun Ps hPs => ?_))
  refine hPs ?_
  clear hPs Ps
  refine HC.out.mono ?_
  rintro e w1 ⟨v, rfl, hv, hb⟩
  obtain ⟨A1, c1, rfl, h1, h2⟩ := owned_slice hv
  have HV := hid hv
  have HB := hid hb
  clear hv hb
  go_wp2_with fail
  go_ret
  exact ⟨w1.heap.size, A1, c1, rfl, HB.out.size, by simp, (Boxed.new w1 80 _).cell, ((Sl.of_own HV.out (F := fun k => w.heap.size ≤ k ∧ k < w1.heap.size) (fun g hg => HV.out.lt g hg)).rdf.mv (bmv ((Below.refl _ w1).alloc (Nat.le_refl _) _) _)).to (fun k hk => ⟨hk.1, by have := hk.2; simp; omega⟩), h1, h2, HB.out.alloc HB.out.size _⟩
end Go.Proofs.YtbpnbcjgkbpmgaaGreat.Ea
namespace Go.Proofs.YtbpnbcjgkbpmgaaGreat.Ea
open Go.RowKit Go.Lg Go.Shelf
set_option linter.unusedVariables false
set_option linter.unusedSimpArgs false
attribute [local go_sem] Oper.semAt_some
structure El where
  at_ : Nat
  r : List UInt8
  v : Value
def El.p (x : El) : Nat × List UInt8 := (x.at_, x.r)
abbrev encE (x : El) : Array Value := #[.int .i64 (x.at_ : Int), x.v]
def RxE (b0 : List UInt8) (x : El) (W : World) : Prop := x.p ∈ Vi.sq 0 b0 ∧ ∃ A c, x.v = .slice A x.r.length c ∧ Rd W W.heap.size 1 A x.r.length (bts x.r) ∧ x.r.length ≤ 131072 ∧ x.r.length ≤ c ∧ c ≤ maxLen
structure Kp (lo hi : Nat) (A B : World) : Prop where
  size : A.heap.size ≤ B.heap.size
  block : ∀ k, lo ≤ k → k < hi → B.heap[k]? = A.heap[k]?
theorem Kp.refl (lo hi : Nat) (A : World) : Kp lo hi A A := ⟨Nat.le_refl _, fun _ _ _ => rfl⟩
theorem Kp.trans {lo hi : Nat} {A B C : World} (h : Kp lo hi A B) (k : Kp lo hi B C) : Kp lo hi A C := ⟨Nat.le_trans h.size k.size, fun i h1 h2 => (k.block i h1 h2).trans (h.block i h1 h2)⟩
theorem Kp.of_below {lo hi B : Nat} {A C : World} (h : Below B A C) (hb : hi ≤ B) : Kp lo hi A C := ⟨h.size, fun i _ h2 => h.block i (Nat.lt_of_lt_of_le h2 hb)⟩
theorem Kp.mv {lo hi : Nat} {A B : World} (h : Kp lo hi A B) : Mv A B (fun k => lo ≤ k ∧ k < hi) (fun k => lo ≤ k ∧ k < hi) := fun k _ hk => ⟨hk, h.block k hk.1 hk.2⟩
theorem Kp.put {lo hi : Nat} {w : World} (hn : hi ≤ w.heap.size) (W : World) (l : Nat) (o o' : Obj) (hl : w.heap.size ≤ l) (h : W.heap[l]? = some o) (h1 : o.isCells = false) (h2 : o.isWalk = false) : Kp lo hi W (W.putObj l o') := .of_below (belowK_b hn W l o o' hl h h1 h2) (Nat.le_refl _)
theorem rx_own (b0 : List UInt8) (B : Nat) (x : El) : OwnFrom B (fun (_ : Unit) W => RxE b0 x W) := fun s X Y row hs hg hr => by
  obtain ⟨h0, A, c, h1, h2, h3⟩ := hs
  refine ⟨h0, A, c, h1, ⟨h2.1, fun hn => ?_⟩, h3⟩
  obtain ⟨b, off, e, hb, hc⟩ := h2.2 hn
  exact ⟨b, off, e, Nat.lt_of_lt_of_le hb hg.size, fun j u hu => cell_kept (hc j u hu) hg (fun r e => (hr r e).2)⟩
theorem abides_below {β : Type} {B : Nat} {J : β → World → Prop} (h : AbidesFrom B J) {s : β} {W W' : World} (hs : J s W) (hb : Below W.heap.size W W') : J s W' :=
  h s W W' none hs (gb_below hb none) (fun r e => by cases e)
set_option maxRecDepth 100000 in
set_option maxHeartbeats 4000000 in
theorem each44_in (n : Nat) (hn : 1 ≤ n) (l Bo lo n₀ n1 cap : Nat) (A : Option Addr) (b : List UInt8) (hlen : n1 = b.length) (hb2 : n1 ≤ 2000000) (hBo : lo ≤ Bo ∧ Bo < n₀) (J Jx : List El → World → Prop)
    (W : World) (hJ : AbidesFrom W.heap.size J)
    (hY : ∀ pre x W, J pre W → RxE b x W → pre.length < (Vi.sq 0 b).length → YieldAt Fence.wide (n - 1) Tryz.prog l (encE x) W fun e W' =>
      (e = .returned (.bool true) ∧ J (pre ++ [x]) W' ∧ Kp lo n₀ W W') ∨ (e = .returned (.bool false) ∧ Jx (pre ++ [x]) W'))
    (hn₀ : n₀ ≤ W.heap.size) (hBs : W.cell? ⟨Bo, 0, none⟩ = some (.slice A n1 cap)) (hos : RdF W (fun k => lo ≤ k ∧ k < n₀) 1 A n1 (bts b)) (hlc : n1 ≤ cap) (hcm : cap ≤ maxLen) (h0 : J [] W) :
    CallsIn Fence.wide n Tryz.prog 159 #[.func (.yield l) #[] #[], .pointer (some ⟨Bo, 0, none⟩)] W fun e W' => (∃ v, e = .returned v) ∧
      ((∃ ys : List El, ys.map El.p = Vi.sq 0 b ∧ J ys W') ∨ (∃ pre : List El, (∃ k, k ≤ (Vi.sq 0 b).length ∧ pre.map El.p = (Vi.sq 0 b).take k) ∧ Jx pre W')) := by
  refine callsIn_of_wp Tryz.func159 rfl trivial ?_ rfl
  have HL := hid hlen
  have hcm0 := hid hcm
  unfold maxLen at hcm
  clear hlen
  simp only [Tryz.ntmps159, List.size_toArray, List.length_cons, List.length_nil, Nat.reduceAdd, Nat.reduceSub, Array.replicate_succ, Array.replicate_zero, List.push_toArray, List.append_toArray, List.nil_append, List.cons_append]
  gi_wp2
  gi_loopw [3, 4, 5, 6] (fun at_ _ _ _ wr => ∃ (a : Nat) (pre : List El), at_ = .int .i64 a ∧ a ≤ n1 ∧ Vi.sq 0 b = pre.map El.p ++ Vi.sq a (b.drop a) ∧ J pre wr ∧ Kp lo n₀ W wr)
    (fun at_ _ _ _ _ => n1 - (intOf at_).toNat)
  case atStart => exact ⟨0, [], rfl, by omega, by simp, h0, Kp.refl _ _ _⟩
  case round =>
    obtain ⟨a, pre, rfl, ha, hsq, hJs, hnx⟩ := hrel
    have hs := Nat.le_trans hn₀ hnx.size
    have c0 : wr.cell? ⟨Bo, 0, none⟩ = some (.slice A n1 cap) := (World.cell?_of_block (a := ⟨Bo, 0, none⟩) (hnx.block Bo hBo.1 hBo.2)).trans hBs
    have hslice := ((hos.mv hnx.mv).rd (by decide)).drop (k := a) (cap := cap) ha hlc
    rw [Nat.mul_one, bts_drop] at hslice
    have hki : (a : Int) ≤ (n1 : Int) := by omega
    have hk0 : (0 : Int) ≤ (a : Int) := Int.natCast_nonneg _
    have hkc : (n1 : Int) ≤ (cap : Int) := by omega
    have HSQ := hid hsq
    clear hsq
    have t28 : Fence.wide.fn 63 := trivial
    have hl : b.length = n1 := HL.out.symm
    cases hf : Vi.fread (b.drop a) with
    | none =>
      have HF := hid hf
      have h5 : (((5 : Nat) : Int) != 0) = true := rfl
      clear hf
      by_cases hca : cap = a
      · rw [if_pos hca] at hslice
        obtain rfl : a = n1 := by omega
        subst hca
        rw [Nat.sub_self] at hslice
        have HC := hid (fRead_none _ _ 0 _ _ wr hslice (by omega) HF.out)
        clear hslice
        gi_wp2_with (gi_at_call 63; refine stop_ (fun Ps hPs => ?_))
        refine hPs ?_
        clear hPs Ps
        refine (callsIn_wide.2 HC.out).mono ?_
        rintro e w1 ⟨rfl, rfl⟩
        clear HC
        gi_wp2
        refine ⟨fun _ h => (by cases h), ?_⟩
        gi_wp2
        refine bodyPost_ret (results_none rfl _ _ _) rfl ?_
        have hs0 := HSQ.out
        rw [Vi.sq_none HF.out, List.append_nil] at hs0
        exact ⟨⟨_, rfl⟩, .inl ⟨pre, hs0.symm, hJs⟩⟩
      · rw [if_neg hca] at hslice
        have HC := hid (fRead_none _ _ (cap - a) _ _ wr hslice (by omega) HF.out)
        clear hslice
        gi_wp2_with (gi_at_call 63; refine stop_ (fun Ps hPs => ?_))
        refine hPs ?_
        clear hPs Ps
        refine (callsIn_wide.2 HC.out).mono ?_
        rintro e w1 ⟨rfl, rfl⟩
        clear HC
        gi_wp2
        refine ⟨fun _ h => (by cases h), ?_⟩
        gi_wp2
        refine bodyPost_ret (results_none rfl _ _ _) rfl ?_
        have hs0 := HSQ.out
        rw [Vi.sq_none HF.out, List.append_nil] at hs0
        exact ⟨⟨_, rfl⟩, .inl ⟨pre, hs0.symm, hJs⟩⟩
    | some x =>
      obtain ⟨r, m⟩ := x
      have hfit := Vi.fread_fits hf
      rw [List.length_drop, hl] at hfit
      have HF := hid hf
      clear hf
      by_cases hca : cap = a
      · exfalso; omega
      · rw [if_neg hca] at hslice
        have HC := hid (fRead_some _ _ (cap - a) _ r m wr hslice (by omega) (by omega) (by have := hcm0.out; omega) HF.out)
        have HJS := hid hJs
        have HNX := hid hnx
        have HFT := hid hfit
        clear hslice hfit hJs hnx hl
        gi_wp2_with (gi_at_call 63; refine stop_ (fun Ps hPs => ?_))
        refine hPs ?_
        clear hPs Ps c0
        refine (callsIn_wide.2 HC.out).mono ?_
        rintro e w1 ⟨u, rfl, hu, hbu⟩
        clear HC
        have hJ1 := abides_below hJ HJS.out hbu
        have hs2 := HSQ.out
        rw [Vi.sq_some HF.out, List.drop_drop] at hs2
        obtain ⟨Au, cu, rfl, hcu1, hcu2⟩ := owned_slice hu
        obtain ⟨fn, tmps, assign, body, hy, hR⟩ := hY pre ⟨a, r, .slice Au r.length cu⟩ w1 hJ1 ⟨by rw [hs2]; simp [El.p], Au, cu, rfl, Rd.of_own hu, HFT.out.2.2.1, hcu1, hcu2⟩ (by have := congrArg List.length hs2; simp at this; omega)
        dsimp only [encE] at hy
        have HS2 := hid hs2
        have HB1 := hid (HNX.out.trans (Kp.of_below hbu (Nat.le_trans hn₀ HNX.out.size)))
        have hm0 : (((0 : Nat) : Int) != 0) = false := rfl
        clear hs2 hu hbu hJ1
        gi_wp2
        refine hR.mono ?_
        rintro e W3 (⟨rfl, hJ3, hk3⟩ | ⟨rfl, hJx3⟩)
        · have HK3 := hid (HB1.out.trans hk3)
          have HJ3 := hid hJ3
          have hmi : (m : Int) ≤ 2000000 := by have := HFT.out; omega
          have hai : (a : Int) ≤ 2000000 := by omega
          clear hJ3 hk3
          gi_wp2
          go_roundw
          case rel =>
            refine ⟨a + m, pre ++ [⟨a, r, .slice Au r.length cu⟩], by go_num, by have := HFT.out; omega, ?_, HJ3.out, HK3.out⟩
            rw [HS2.out]
            simp [El.p]
          case measure => have := HFT.out; simp [intOf]; omega
        · gi_wp2
          refine bodyPost_ret (results_none rfl _ _ _) rfl ?_
          refine ⟨⟨_, rfl⟩, .inr ⟨_, ⟨pre.length + 1, ?_, ?_⟩, hJx3⟩⟩
          · have := congrArg List.length HS2.out
            simp at this
            omega
          · rw [HS2.out]
            simp [El.p, List.take_append]
            exact (List.take_of_length_le (by simp)).symm
theorem each_hands (n : Nat) (hn : 1 ≤ n) (Bo lo n₀ n1 cap : Nat) (A : Option Addr) (b : List UInt8) (hlen : n1 = b.length) (hb2 : n1 ≤ 2000000) (w : World) (hBo : lo ≤ Bo ∧ Bo < n₀) (hn₀ : n₀ ≤ w.heap.size)
    (hc : w.cell? ⟨Bo, 0, none⟩ = some (.slice A n1 cap)) (hos : RdF w (fun k => lo ≤ k ∧ k < n₀) 1 A n1 (bts b)) (hlc : n1 ≤ cap) (hcm : cap ≤ maxLen) :
    Hands Fence.wide n Tryz.prog 159 #[.pointer (some ⟨Bo, 0, none⟩)] encE (RxE b) (Kp lo n₀) (fun ys => ys.map El.p = Vi.sq 0 b) (fun pre => ∃ k, k ≤ (Vi.sq 0 b).length ∧ pre.map El.p = (Vi.sq 0 b).take k) (Vi.sq 0 b).length w := fun l J Jx W hW hJ _ hY h0 =>
  each44_in n hn l Bo lo n₀ n1 cap A b hlen hb2 hBo J Jx W hJ hY (Nat.le_trans hn₀ hW.size) ((hW.cell (p := ⟨Bo, 0, none⟩) (by show Bo < _; have := hBo.2; omega)).trans hc) (hos.mv (bmv hW _)) hlc hcm h0
end Go.Proofs.YtbpnbcjgkbpmgaaGreat.Ea
