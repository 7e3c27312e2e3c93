/- A link that is not there, or that nobody made, refuses every call: the walk. -/
import Derived.Test.YtigedoonhmaghaaNa
import Derived.Test.YtigedoonhmaghaaRcF
namespace Go.Proofs.Ytigedoonhmaghaa
open Go.RowKit Go.Lg Go.Shelf
set_option linter.unusedVariables false
set_option linter.unusedSimpArgs false

/-- What lies in the law's memory. -/
structure Nw (o : Option Nat) (b : Nat) (kd n : Int) (Ax : Option Addr) (m cx : Nat) (w W : World) : Prop where
  a : Blk W b 40 #[.int .i64 kd, .int .i64 n, .slice Ax m cx]
  r : Blk W (b + 1) 4 #[.bool false]
  z : Blk W (b + 1 + 1) 55 #[.bool false, .int .i64 0, .slice none 0 0]
  p : Blk W (b + 1 + 1 + 1) 23 #[.pointer none, P (b + 1 + 1)]
  low : Below b w W
  d : ∀ D, o = some D → W.heap[D]? = some (.deferred (some []))
theorem Nw.later {o : Option Nat} {b m cx : Nat} {kd n : Int} {Ax : Option Addr} {w W W' : World} (h : Nw o b kd n Ax m cx w W) (hb : Below W.heap.size W W') : Nw o b kd n Ax m cx w W' :=
  ⟨h.a.later hb, h.r.later hb, h.z.later hb, h.p.later hb, h.low.trans (hb.mono (by have := h.a.lt; omega)), fun D e => (hb.block D (Array.getElem?_eq_some_iff.1 (h.d D e)).1).trans (h.d D e)⟩
/-- One of the two. -/
def lp (b : Nat) : Nat → Value | 0 => .pointer none | _ => P (b + 1 + 1)
theorem Nw.nl {o : Option Nat} {b m cx : Nat} {kd n : Int} {Ax : Option Addr} {w W : World} (h : Nw o b kd n Ax m cx w W) (i : Nat) : Nl W (lp b i) := by
  cases i with
  | zero => exact .inl rfl
  | succ i => exact .inr ⟨_, rfl, h.z.lt, h.z.cell 0⟩
theorem Nw.at_ {o : Option Nat} {b m cx : Nat} {kd n : Int} {Ax : Option Addr} {w W : World} (h : Nw o b kd n Ax m cx w W) {i : Nat} (hi : i < 2) : W.cell? ⟨b + 1 + 1 + 1, i, none⟩ = some (lp b i) := by
  rw [h.p.cell i]
  match i, hi with
  | 0, _ => rfl
  | 1, _ => rfl
theorem below_draw_alloc {v v1 : World} {o : Obj} (hq : Below ((v.alloc o).drew).heap.size (v.alloc o).drew v1) : Below v.heap.size v v1 :=
  ((Below.refl v.heap.size v).alloc (Nat.le_refl _) o).trans ((below_src hq).mono (by simp))
theorem blk_draw_alloc {v v1 : World} {cs : Array Value} (hq : Below ((v.alloc (.cells cs 31)).drew).heap.size (v.alloc (.cells cs 31)).drew v1) : Blk v1 v.heap.size 31 cs :=
  (Blk.new v 31 cs).below (below_src hq) (by simp)
theorem three_set {v : World} {g : Nat} (h : Blk v g 31 zc) : Blk (((v.setCell ⟨g, 0, none⟩ (.int .i64 0)).setCell ⟨g, 1, none⟩ (.int .i64 0)).setCell ⟨g, 2, none⟩ (.slice none 0 0)) g 31 zc := by
  have := ((h.set_ 0 (.int .i64 0)).set_ 1 (.int .i64 0)).set_ 2 (.slice none 0 0)
  exact this
theorem below_three {v w : World} {g n : Nat} (h : Below n w v) (hg : n ≤ g) : Below n w (((v.setCell ⟨g, 0, none⟩ (.int .i64 0)).setCell ⟨g, 1, none⟩ (.int .i64 0)).setCell ⟨g, 2, none⟩ (.slice none 0 0)) :=
  ((h.setCell (p := ⟨g, 0, none⟩) hg _).setCell (p := ⟨g, 1, none⟩) hg _).setCell (p := ⟨g, 2, none⟩) hg _
theorem Nw.setx {o : Option Nat} {b m cx g : Nat} {kd n : Int} {Ax : Option Addr} {w W : World} (h : Nw o b kd n Ax m cx w W) (k : Blk W g 31 zc) (hg : b ≤ g) : Nw o b kd n Ax m cx w (((W.setCell ⟨g, 0, none⟩ (.int .i64 0)).setCell ⟨g, 1, none⟩ (.int .i64 0)).setCell ⟨g, 2, none⟩ (.slice none 0 0)) := by
  have ne : ∀ {g' : Nat} {t : TypeId} {cs : Array Value}, Blk W g' t cs → t ≠ 31 → g' ≠ g := fun h1 ht e => by
    subst e
    unfold Blk at h1 k
    rw [h1] at k
    injection k with k
    injection k with _ k
    exact ht k
  have far : ∀ {g' : Nat} {t : TypeId} {cs : Array Value}, Blk W g' t cs → t ≠ 31 → Blk (((W.setCell ⟨g, 0, none⟩ (.int .i64 0)).setCell ⟨g, 1, none⟩ (.int .i64 0)).setCell ⟨g, 2, none⟩ (.slice none 0 0)) g' t cs := fun h1 ht =>
    ((h1.far (p := ⟨g, 0, none⟩) (ne h1 ht) _).far (p := ⟨g, 1, none⟩) (ne h1 ht) _).far (p := ⟨g, 2, none⟩) (ne h1 ht) _
  exact ⟨far h.a (by decide), far h.r (by decide), far h.z (by decide), far h.p (by decide), below_three h.low hg, fun D e => (((KeepsOthers.setCell W ⟨g, 0, none⟩ (.int .i64 0)).trans (KeepsOthers.setCell _ ⟨g, 1, none⟩ (.int .i64 0))).trans (KeepsOthers.setCell _ ⟨g, 2, none⟩ (.slice none 0 0))).same D _ (h.d D e) rfl⟩

set_option maxRecDepth 100000 in
set_option maxHeartbeats 4000000 in
theorem nil6 (kd n : Int) (Ax : Option Addr) (m cx : Nat) (w : World) :
    Calls Try.prog 6 #[.agg #[.int .i64 kd, .int .i64 n, .slice Ax m cx]] w fun e w' => e = .returned (.bool true) ∧ Below w.heap.size w w' := by
  refine (callsIn_wide (n := 3)).1 ?_
  have hro : Fence.wide.round = none := rfl
  have h1 : 1 ≤ 3 := by omega
  refine callsIn_of_wp_marks Try.func6 rfl trivial ?_ hro
  simp only [Try.ntmps6, List.size_toArray, List.length_cons, List.length_nil, Nat.reduceAdd, Nat.reduceSub, Array.replicate_succ, Array.replicate_zero, List.push_toArray, List.append_toArray, List.nil_append, List.cons_append]
  refine wpIn_wide.2 ?_
  go_wp2_with fail
  refine (wpIn_wide (n := 3)).1 ?_
  refine wpIn_loop_rounds 3 ?_
  rw [roundsIn_succ]
  refine wpIn_wide.2 ?_
  go_wp2_with fail
  obtain ⟨b, hb⟩ : ∃ b, b = w.heap.size := ⟨_, rfl⟩
  have hA0 : Nw none b kd n Ax m cx w ((((w.alloc (.cells #[.int .i64 kd, .int .i64 n, .slice Ax m cx] 40)).alloc (.cells #[.bool false] 4)).alloc (.cells #[.bool false, .int .i64 0, .slice none 0 0] 55)).alloc (.cells #[.pointer none, .pointer (some ⟨b + 1 + 1, 0, none⟩)] 23)) := by
    subst hb
    refine ⟨(((Blk.new w 40 _).alloc _).alloc _).alloc _, ?_, ?_, ?_, (((Below.refl _ w).alloc (Nat.le_refl _) _).alloc (by simp) _).alloc (by simp; omega) _ |>.alloc (by simp; omega) _, fun D e => by cases e⟩
    · have := ((Blk.new (w.alloc (.cells #[.int .i64 kd, .int .i64 n, .slice Ax m cx] 40)) 4 #[.bool false]).alloc (.cells #[.bool false, .int .i64 0, .slice none 0 0] 55)).alloc (.cells #[.pointer none, .pointer (some ⟨w.heap.size + 1 + 1, 0, none⟩)] 23)
      rwa [World.size_alloc] at this
    · have := (Blk.new ((w.alloc (.cells #[.int .i64 kd, .int .i64 n, .slice Ax m cx] 40)).alloc (.cells #[.bool false] 4)) 55 #[.bool false, .int .i64 0, .slice none 0 0]).alloc (.cells #[.pointer none, .pointer (some ⟨w.heap.size + 1 + 1, 0, none⟩)] 23)
      rwa [World.size_alloc, World.size_alloc] at this
    · have := Blk.new (((w.alloc (.cells #[.int .i64 kd, .int .i64 n, .slice Ax m cx] 40)).alloc (.cells #[.bool false] 4)).alloc (.cells #[.bool false, .int .i64 0, .slice none 0 0] 55)) 23 #[.pointer none, .pointer (some ⟨w.heap.size + 1 + 1, 0, none⟩)]
      rwa [World.size_alloc, World.size_alloc, World.size_alloc] at this
  rw [← hb]
  have HBE := hid hb
  obtain ⟨W0, hW0⟩ : ∃ W, ((((w.alloc (.cells #[.int .i64 kd, .int .i64 n, .slice Ax m cx] 40)).alloc (.cells #[.bool false] 4)).alloc (.cells #[.bool false, .int .i64 0, .slice none 0 0] 55)).alloc (.cells #[.pointer none, .pointer (some ⟨b + 1 + 1, 0, none⟩)] 23)) = W := ⟨_, rfl⟩
  rw [hW0] at hA0 ⊢
  clear hW0 hb
  have HW0 := hid hA0
  clear hA0
  have s0 : ∀ q, Calls Try.prog 10 #[.pointer none, .int .i64 n, .slice Ax m cx] (W0.drewN q) (fun e w' => e = .returned (.tuple #[.int .i64 0, .int .i64 1]) ∧ w' = W0.drewN q) := fun q => send10_nil (p := (.pointer none)) ((HW0.out.later (below_drewN (Below.refl _ _) q)).nl 0) n Ax m cx
  have cp : W0.cell? ⟨b + 1 + 1 + 1, 0, none⟩ = some (.pointer none) := HW0.out.at_ (i := 0) (by omega)
  have ca : W0.cell? ⟨b, 1, none⟩ = some (.int .i64 n) := HW0.out.a.cell 1
  have cb : W0.cell? ⟨b, 2, none⟩ = some (.slice Ax m cx) := HW0.out.a.cell 2
  go_quiet ((go_at_call 10; with_reducible exact Calls.quiet_of_same (s0 _)))
  clear s0 cp ca cb
  go_wp2_with fail
  obtain ⟨V0, hV0⟩ : ∃ W, W0.drewN nq = W := ⟨_, rfl⟩
  have hA : Nw none b kd n Ax m cx w V0 := by rw [← hV0]; exact HW0.out.later (below_drewN (Below.refl _ _) _)
  rw [hV0]
  have HV0 := hid hA
  have da : Calls Try.prog 12 #[.pointer none, .int .i64 n] (V0.alloc (.cells #[.int .i64 0, .int .i64 0, .slice none 0 0] 31)).drew (fun e w' => e = .returned (.tuple #[.agg #[.int .i64 0, .int .i64 0, .slice none 0 0], .int .i64 1]) ∧ Below (V0.alloc (.cells #[.int .i64 0, .int .i64 0, .slice none 0 0] 31)).drew.heap.size (V0.alloc (.cells #[.int .i64 0, .int .i64 0, .slice none 0 0] 31)).drew w') := deliver12_nil ((hA.later (((Below.refl V0.heap.size V0).alloc (Nat.le_refl _) _).drew)).nl 0) n
  have db : Calls Try.prog 12 #[.pointer none, .int .i64 n] V0.drew (fun e w' => e = .returned (.tuple #[.agg #[.int .i64 0, .int .i64 0, .slice none 0 0], .int .i64 1]) ∧ Below V0.drew.heap.size V0.drew w') := deliver12_nil ((hA.later ((Below.refl V0.heap.size V0).drew)).nl 0) n
  have HDa := hid da
  have HDb := hid db
  have K1 := hid (show V0.cell? ⟨b + 1 + 1 + 1, 0, none⟩ = some (Value.pointer none) ∧ V0.cell? ⟨b, 1, none⟩ = some (Value.int .i64 n) from ⟨hA.at_ (i := 0) (by omega), hA.a.cell 1⟩)
  have K2 := hid (show V0.drew.cell? ⟨b + 1 + 1 + 1, 0, none⟩ = some (Value.pointer none) ∧ V0.drew.cell? ⟨b, 1, none⟩ = some (Value.int .i64 n) from ⟨hA.at_ (i := 0) (by omega), hA.a.cell 1⟩)
  have hAa := hA.later (((Below.refl V0.heap.size V0).alloc (Nat.le_refl _) (.cells #[.int .i64 0, .int .i64 0, .slice none 0 0] 31)))
  have K3 := hid (show (V0.alloc (.cells #[.int .i64 0, .int .i64 0, .slice none 0 0] 31)).cell? ⟨b + 1 + 1 + 1, 0, none⟩ = some (Value.pointer none) ∧ (V0.alloc (.cells #[.int .i64 0, .int .i64 0, .slice none 0 0] 31)).cell? ⟨b, 1, none⟩ = some (Value.int .i64 n) from ⟨hAa.at_ (i := 0) (by omega), hAa.a.cell 1⟩)
  have K4 := hid (show (V0.alloc (.cells #[.int .i64 0, .int .i64 0, .slice none 0 0] 31)).drew.cell? ⟨b + 1 + 1 + 1, 0, none⟩ = some (Value.pointer none) ∧ (V0.alloc (.cells #[.int .i64 0, .int .i64 0, .slice none 0 0] 31)).drew.cell? ⟨b, 1, none⟩ = some (Value.int .i64 n) from ⟨hAa.at_ (i := 0) (by omega), hAa.a.cell 1⟩)
  clear hV0 hA da db hAa
  go_region_held3 (fun w' => w'.cell? ⟨b + 1 + 1 + 1, 0, none⟩ = some (Value.pointer none) ∧ w'.cell? ⟨b, 1, none⟩ = some (Value.int .i64 n)) (first | (with_reducible exact K1.out) | (with_reducible exact K2.out) | (with_reducible exact K3.out) | (with_reducible exact K4.out) | (with_reducible exact q5.out) | (with_reducible exact q6.out) | (with_reducible exact q7.out))
    (first
      | (go_at_call 12; (with_reducible refine HDa.out.mono ?_); rintro e5 v5 ⟨rfl, hq0⟩; have hq1 := hid (below_draw_alloc hq0); have kx := hid (blk_draw_alloc hq0); have f0 := kx.out.frozen 0; have f1 := kx.out.frozen 1; have f2 := kx.out.frozen 2; have g0 : v5.cell? ⟨V0.heap.size, 0, none⟩ = some (.int .i64 0) := kx.out.cell 0; have g1 : v5.cell? ⟨V0.heap.size, 1, none⟩ = some (.int .i64 0) := kx.out.cell 1; have g2 : v5.cell? ⟨V0.heap.size, 2, none⟩ = some (.slice none 0 0) := kx.out.cell 2; have N5 := hid (HV0.out.later hq1.out); have q5 := hid (show v5.cell? ⟨b + 1 + 1 + 1, 0, none⟩ = some (Value.pointer none) ∧ v5.cell? ⟨b, 1, none⟩ = some (Value.int .i64 n) from ⟨N5.out.at_ (i := 0) (by omega), N5.out.a.cell 1⟩); have N7 := hid (N5.out.setx kx.out (by have := HV0.out.a.lt; omega)); have q7 := hid (show (((v5.setCell ⟨V0.heap.size, 0, none⟩ (.int .i64 0)).setCell ⟨V0.heap.size, 1, none⟩ (.int .i64 0)).setCell ⟨V0.heap.size, 2, none⟩ (.slice none 0 0)).cell? ⟨b + 1 + 1 + 1, 0, none⟩ = some (Value.pointer none) ∧ (((v5.setCell ⟨V0.heap.size, 0, none⟩ (.int .i64 0)).setCell ⟨V0.heap.size, 1, none⟩ (.int .i64 0)).setCell ⟨V0.heap.size, 2, none⟩ (.slice none 0 0)).cell? ⟨b, 1, none⟩ = some (Value.int .i64 n) from ⟨N7.out.at_ (i := 0) (by omega), N7.out.a.cell 1⟩); clear hq0)
      | (go_at_call 12; (with_reducible refine HDb.out.mono ?_); rintro e5 v5 ⟨rfl, hq0⟩; have hq1 := hid (below_src hq0); have N5 := hid (HV0.out.later hq1.out); have q5 := hid (show v5.cell? ⟨b + 1 + 1 + 1, 0, none⟩ = some (Value.pointer none) ∧ v5.cell? ⟨b, 1, none⟩ = some (Value.int .i64 n) from ⟨N5.out.at_ (i := 0) (by omega), N5.out.a.cell 1⟩); have N6 := hid (N5.out.later ((Below.refl v5.heap.size v5).alloc (Nat.le_refl _) (.cells #[.int .i64 0, .int .i64 0, .slice none 0 0] 31))); have q6 := hid (show (v5.alloc (.cells #[.int .i64 0, .int .i64 0, .slice none 0 0] 31)).cell? ⟨b + 1 + 1 + 1, 0, none⟩ = some (Value.pointer none) ∧ (v5.alloc (.cells #[.int .i64 0, .int .i64 0, .slice none 0 0] 31)).cell? ⟨b, 1, none⟩ = some (Value.int .i64 n) from ⟨N6.out.at_ (i := 0) (by omega), N6.out.a.cell 1⟩); clear hq0))
  all_goals
    first
    | (obtain ⟨Y, hY⟩ : ∃ Y, Y = (((v5.setCell ⟨V0.heap.size, 0, none⟩ (.int .i64 0)).setCell ⟨V0.heap.size, 1, none⟩ (.int .i64 0)).setCell ⟨V0.heap.size, 2, none⟩ (.slice none 0 0)) := ⟨_, rfl⟩; have HN := hid (show Nw none b kd n Ax m cx w Y by rw [hY]; exact N7.out); have hx : Blk Y V0.heap.size 31 zc := (by rw [hY]; exact three_set kx.out); rw [← hY]; obtain ⟨xb, hxb⟩ : ∃ xb, xb = V0.heap.size := ⟨_, rfl⟩; rw [← hxb] at hx ⊢; have HX := hid hx; clear hY hx hxb f0 f1 f2 g0 g1 g2 kx N7 q7)
    | (obtain ⟨Y, hY⟩ : ∃ Y, Y = v5.alloc (.cells #[.int .i64 0, .int .i64 0, .slice none 0 0] 31) := ⟨_, rfl⟩; have HN := hid (show Nw none b kd n Ax m cx w Y by rw [hY]; exact N6.out); have hx : Blk Y v5.heap.size 31 zc := (by rw [hY]; exact Blk.new v5 31 zc); rw [← hY]; obtain ⟨xb, hxb⟩ : ∃ xb, xb = v5.heap.size := ⟨_, rfl⟩; rw [← hxb] at hx ⊢; have HX := hid hx; clear hY hx hxb N6 q6)
    clear N5 q5 hq1 K1 K2 K3 K4 HDa HDb
    have tw : ∀ q, Calls Try.prog 11 #[.pointer none, .int .i64 n] (Y.drewN q) (fun e w' => e = .returned (.tuple #[.int .i64 0, .int .i64 1]) ∧ w' = Y.drewN q) := fun q => twice11_nil (p := (.pointer none)) ((HN.out.later (below_drewN (Below.refl _ _) q)).nl 0) n
    have cp : Y.cell? ⟨b + 1 + 1 + 1, 0, none⟩ = some (.pointer none) := HN.out.at_ (i := 0) (by omega)
    have ca : Y.cell? ⟨b, 1, none⟩ = some (.int .i64 n) := HN.out.a.cell 1
    go_wp2_with fail
    go_quiet ((go_at_call 11; with_reducible exact Calls.quiet_of_same (tw _)))
    clear tw cp ca
    obtain ⟨Z, hZ⟩ : ∃ Z, Y.drewN nq = Z := ⟨_, rfl⟩
    have HM := hid (show Nw none b kd n Ax m cx w Z by rw [← hZ]; exact HN.out.later (below_drewN (Below.refl _ _) _))
    have HXZ := hid (show Blk Z xb 31 zc by rw [← hZ]; exact HX.out.drewN _)
    rw [hZ]
    clear hZ HN HX
    go_wp2_with fail
    have K1 := hid (show Z.cell? ⟨b + 1 + 1 + 1, 0, none⟩ = some (Value.pointer none) ∧ Z.cell? ⟨b, 1, none⟩ = some (Value.int .i64 n) ∧ Z.cell? ⟨xb, 0, none⟩ = some (Value.int .i64 0) ∧ Z.cell? ⟨xb, 2, none⟩ = some (Value.slice none 0 0) from ⟨HM.out.at_ (i := 0) (by omega), HM.out.a.cell 1, HXZ.out.cell 0, HXZ.out.cell 2⟩)
    have K2 := hid (show Z.drew.cell? ⟨b + 1 + 1 + 1, 0, none⟩ = some (Value.pointer none) ∧ Z.drew.cell? ⟨b, 1, none⟩ = some (Value.int .i64 n) ∧ Z.drew.cell? ⟨xb, 0, none⟩ = some (Value.int .i64 0) ∧ Z.drew.cell? ⟨xb, 2, none⟩ = some (Value.slice none 0 0) from ⟨HM.out.at_ (i := 0) (by omega), HM.out.a.cell 1, HXZ.out.cell 0, HXZ.out.cell 2⟩)
    have dd : Calls Try.prog 13 #[.pointer none, .int .i64 n] Z.drew (fun e w' => e = .returned (.int .i64 1) ∧ Below Z.drew.heap.size Z.drew w') := drop13_nil ((HM.out.later ((Below.refl Z.heap.size Z).drew)).nl 0) n
    have HDD := hid dd
    clear dd
    go_region_held3 (fun w' => w'.cell? ⟨b + 1 + 1 + 1, 0, none⟩ = some (Value.pointer none) ∧ w'.cell? ⟨b, 1, none⟩ = some (Value.int .i64 n) ∧ w'.cell? ⟨xb, 0, none⟩ = some (Value.int .i64 0) ∧ w'.cell? ⟨xb, 2, none⟩ = some (Value.slice none 0 0)) (first | (with_reducible exact K1.out) | (with_reducible exact K2.out) | (with_reducible exact q5.out))
      (first
        | (go_at_call 13; (with_reducible refine HDD.out.mono ?_); rintro e5 v6 ⟨rfl, hq0⟩; have hq1 := hid (below_src hq0); have N5 := hid (HM.out.later hq1.out); have X5 := hid (HXZ.out.later hq1.out); have q5 := hid (show v6.cell? ⟨b + 1 + 1 + 1, 0, none⟩ = some (Value.pointer none) ∧ v6.cell? ⟨b, 1, none⟩ = some (Value.int .i64 n) ∧ v6.cell? ⟨xb, 0, none⟩ = some (Value.int .i64 0) ∧ v6.cell? ⟨xb, 2, none⟩ = some (Value.slice none 0 0) from ⟨N5.out.at_ (i := 0) (by omega), N5.out.a.cell 1, X5.out.cell 0, X5.out.cell 2⟩); have ff : Calls Try.prog 21 #[.pointer none] v6 (fun e w' => e = .returned (.slice none 0 0) ∧ w' = v6) := flight21_nil (N5.out.nl 0); have HFF := hid ff; clear hq0 ff)
        | (go_at_call 21; (with_reducible refine HFF.out.mono ?_); rintro e5 v7 ⟨rfl, h9⟩; subst h9))
    clear K1 K2 q5 HDD HFF hq1 HM HXZ X5
    have ha : Calls Try.prog 26 #[.pointer none] v7 (Gives [] v7) := all26_nil (N5.out.nl 0)
    have HAL := hid ha
    have cp : v7.cell? ⟨b + 1 + 1 + 1, 0, none⟩ = some (.pointer none) := N5.out.at_ (i := 0) (by omega)
    clear ha
    go_wp2_with (go_at_call 26; refine stop_ (fun Ps hPs => ?_))
    refine hPs ?_
    clear hPs Ps cp
    refine HAL.out.mono ?_
    clear HAL
    rintro e w1 ⟨Bs, A1, cap1, rfl, hBs1, hBs2, hBs3, hrn, hcn, hcm, hb1⟩
    have hrun := eql58 Bs
    have N1 := hid (N5.out.later hb1)
    have HQ := hid (And.intro hBs2 (And.intro hBs3 (And.intro hrn hcn)))
    clear hBs1 hBs2 hBs3 hrn hcn hcm hb1 N5
    go_wp2_with fail
    refine (wpIn_wide (n := 3)).1 ?_
    refine wpIn_rangeFunc_ownH hro h1 (gf := 47) (lb := #[.pointer (some ⟨Bs, 0, none⟩)]) rfl trivial (enters_of Try.func47 (by kernel_rfl) rfl)
      (values_stops Fence.wide _ trivial hro (by omega) Bs w1.heap.size cap1 A1 [] (by simp) w1 HQ.out.1 (Nat.le_refl _) HQ.out.2.1 HQ.out.2.2.1 HQ.out.2.2.2) belowK_t (belowK_b (Nat.le_refl _)) (Below.refl _ _) (fun _ => rfl)
      (fun _ W => Below w1.heap.size w1 W) (fun _ _ _ => False) (ownFrom_below (Nat.le_refl _) (Nat.le_refl _)) (fun _ _ _ _ _ hs _ _ => hs) (Below.refl _ _) (fun _ _ _ => True) (fun _ _ _ _ _ _ _ _ _ => trivial) ?assign ?body ?done ?stop
    case assign =>
      rintro l pre x W K hI hK
      gi_wp2
      exact hK _ _ (KeepsFrom.refl _ _) (Below.refl _ _) hI trivial
    case body =>
      rintro l pre x a' W _ _ hI _ hlt
      simp at hlt
    case stop =>
      rintro D c' pre W _ _ h _
      exact h.elim
    case done =>
      rintro D1 ys W2 hD hys hI hK
      have HW2 := hid (show Nw (some D1) b kd n Ax m cx w W2 from ⟨N1.out.a.later hI, N1.out.r.later hI, N1.out.z.later hI, N1.out.p.later hI, N1.out.low.trans (hI.mono (by have := N1.out.a.lt; omega)), fun D e => by obtain rfl := Option.some.inj e; exact hK⟩)
      have HD1 := hid (show b ≤ D1 by have := N1.out.a.lt; omega)
      clear hI hK hys hD N1 HQ hrun HW0 HV0
      go_wp2_with fail
      rw [roundsIn_succ]
      refine wpIn_wide.2 ?_
      go_wp2_with fail
      have s1 : ∀ q, Calls Try.prog 10 #[P (b + 1 + 1), .int .i64 n, .slice Ax m cx] (W2.drewN q) (fun e w' => e = .returned (.tuple #[.int .i64 0, .int .i64 1]) ∧ w' = W2.drewN q) := fun q => send10_nil (p := (P (b + 1 + 1))) ((HW2.out.later (below_drewN (Below.refl _ _) q)).nl 1) n Ax m cx
      have cp : W2.cell? ⟨b + 1 + 1 + 1, 1, none⟩ = some (P (b + 1 + 1)) := HW2.out.at_ (i := 1) (by omega)
      have ca : W2.cell? ⟨b, 1, none⟩ = some (.int .i64 n) := HW2.out.a.cell 1
      have cb : W2.cell? ⟨b, 2, none⟩ = some (.slice Ax m cx) := HW2.out.a.cell 2
      go_quiet ((go_at_call 10; with_reducible exact Calls.quiet_of_same (s1 _)))
      clear s1 cp ca cb
      go_wp2_with fail
      obtain ⟨V1, hV1⟩ : ∃ W, W2.drewN nq = W := ⟨_, rfl⟩
      have hA : Nw (some D1) b kd n Ax m cx w V1 := by rw [← hV1]; exact HW2.out.later (below_drewN (Below.refl _ _) _)
      rw [hV1]
      have HV1 := hid hA
      have da : Calls Try.prog 12 #[P (b + 1 + 1), .int .i64 n] (V1.alloc (.cells #[.int .i64 0, .int .i64 0, .slice none 0 0] 31)).drew (fun e w' => e = .returned (.tuple #[.agg #[.int .i64 0, .int .i64 0, .slice none 0 0], .int .i64 1]) ∧ Below (V1.alloc (.cells #[.int .i64 0, .int .i64 0, .slice none 0 0] 31)).drew.heap.size (V1.alloc (.cells #[.int .i64 0, .int .i64 0, .slice none 0 0] 31)).drew w') := deliver12_nil ((hA.later (((Below.refl V1.heap.size V1).alloc (Nat.le_refl _) _).drew)).nl 1) n
      have db : Calls Try.prog 12 #[P (b + 1 + 1), .int .i64 n] V1.drew (fun e w' => e = .returned (.tuple #[.agg #[.int .i64 0, .int .i64 0, .slice none 0 0], .int .i64 1]) ∧ Below V1.drew.heap.size V1.drew w') := deliver12_nil ((hA.later ((Below.refl V1.heap.size V1).drew)).nl 1) n
      have HDa := hid da
      have HDb := hid db
      have K1 := hid (show V1.cell? ⟨b + 1 + 1 + 1, 1, none⟩ = some (P (b + 1 + 1)) ∧ V1.cell? ⟨b, 1, none⟩ = some (Value.int .i64 n) from ⟨hA.at_ (i := 1) (by omega), hA.a.cell 1⟩)
      have K2 := hid (show V1.drew.cell? ⟨b + 1 + 1 + 1, 1, none⟩ = some (P (b + 1 + 1)) ∧ V1.drew.cell? ⟨b, 1, none⟩ = some (Value.int .i64 n) from ⟨hA.at_ (i := 1) (by omega), hA.a.cell 1⟩)
      have hAa := hA.later (((Below.refl V1.heap.size V1).alloc (Nat.le_refl _) (.cells #[.int .i64 0, .int .i64 0, .slice none 0 0] 31)))
      have K3 := hid (show (V1.alloc (.cells #[.int .i64 0, .int .i64 0, .slice none 0 0] 31)).cell? ⟨b + 1 + 1 + 1, 1, none⟩ = some (P (b + 1 + 1)) ∧ (V1.alloc (.cells #[.int .i64 0, .int .i64 0, .slice none 0 0] 31)).cell? ⟨b, 1, none⟩ = some (Value.int .i64 n) from ⟨hAa.at_ (i := 1) (by omega), hAa.a.cell 1⟩)
      have K4 := hid (show (V1.alloc (.cells #[.int .i64 0, .int .i64 0, .slice none 0 0] 31)).drew.cell? ⟨b + 1 + 1 + 1, 1, none⟩ = some (P (b + 1 + 1)) ∧ (V1.alloc (.cells #[.int .i64 0, .int .i64 0, .slice none 0 0] 31)).drew.cell? ⟨b, 1, none⟩ = some (Value.int .i64 n) from ⟨hAa.at_ (i := 1) (by omega), hAa.a.cell 1⟩)
      clear hV1 hA da db hAa
      go_region_held3 (fun w' => w'.cell? ⟨b + 1 + 1 + 1, 1, none⟩ = some (P (b + 1 + 1)) ∧ w'.cell? ⟨b, 1, none⟩ = some (Value.int .i64 n)) (first | (with_reducible exact K1.out) | (with_reducible exact K2.out) | (with_reducible exact K3.out) | (with_reducible exact K4.out) | (with_reducible exact q5.out) | (with_reducible exact q6.out) | (with_reducible exact q7.out))
        (first
          | (go_at_call 12; (with_reducible refine HDa.out.mono ?_); rintro e5 v5 ⟨rfl, hq0⟩; have hq1 := hid (below_draw_alloc hq0); have kx := hid (blk_draw_alloc hq0); have f0 := kx.out.frozen 0; have f1 := kx.out.frozen 1; have f2 := kx.out.frozen 2; have g0 : v5.cell? ⟨V1.heap.size, 0, none⟩ = some (.int .i64 0) := kx.out.cell 0; have g1 : v5.cell? ⟨V1.heap.size, 1, none⟩ = some (.int .i64 0) := kx.out.cell 1; have g2 : v5.cell? ⟨V1.heap.size, 2, none⟩ = some (.slice none 0 0) := kx.out.cell 2; have N5 := hid (HV1.out.later hq1.out); have q5 := hid (show v5.cell? ⟨b + 1 + 1 + 1, 1, none⟩ = some (P (b + 1 + 1)) ∧ v5.cell? ⟨b, 1, none⟩ = some (Value.int .i64 n) from ⟨N5.out.at_ (i := 1) (by omega), N5.out.a.cell 1⟩); have N7 := hid (N5.out.setx kx.out (by have := HV1.out.a.lt; omega)); have q7 := hid (show (((v5.setCell ⟨V1.heap.size, 0, none⟩ (.int .i64 0)).setCell ⟨V1.heap.size, 1, none⟩ (.int .i64 0)).setCell ⟨V1.heap.size, 2, none⟩ (.slice none 0 0)).cell? ⟨b + 1 + 1 + 1, 1, none⟩ = some (P (b + 1 + 1)) ∧ (((v5.setCell ⟨V1.heap.size, 0, none⟩ (.int .i64 0)).setCell ⟨V1.heap.size, 1, none⟩ (.int .i64 0)).setCell ⟨V1.heap.size, 2, none⟩ (.slice none 0 0)).cell? ⟨b, 1, none⟩ = some (Value.int .i64 n) from ⟨N7.out.at_ (i := 1) (by omega), N7.out.a.cell 1⟩); clear hq0)
          | (go_at_call 12; (with_reducible refine HDb.out.mono ?_); rintro e5 v5 ⟨rfl, hq0⟩; have hq1 := hid (below_src hq0); have N5 := hid (HV1.out.later hq1.out); have q5 := hid (show v5.cell? ⟨b + 1 + 1 + 1, 1, none⟩ = some (P (b + 1 + 1)) ∧ v5.cell? ⟨b, 1, none⟩ = some (Value.int .i64 n) from ⟨N5.out.at_ (i := 1) (by omega), N5.out.a.cell 1⟩); have N6 := hid (N5.out.later ((Below.refl v5.heap.size v5).alloc (Nat.le_refl _) (.cells #[.int .i64 0, .int .i64 0, .slice none 0 0] 31))); have q6 := hid (show (v5.alloc (.cells #[.int .i64 0, .int .i64 0, .slice none 0 0] 31)).cell? ⟨b + 1 + 1 + 1, 1, none⟩ = some (P (b + 1 + 1)) ∧ (v5.alloc (.cells #[.int .i64 0, .int .i64 0, .slice none 0 0] 31)).cell? ⟨b, 1, none⟩ = some (Value.int .i64 n) from ⟨N6.out.at_ (i := 1) (by omega), N6.out.a.cell 1⟩); clear hq0))
      all_goals
        first
        | (obtain ⟨Y, hY⟩ : ∃ Y, Y = (((v5.setCell ⟨V1.heap.size, 0, none⟩ (.int .i64 0)).setCell ⟨V1.heap.size, 1, none⟩ (.int .i64 0)).setCell ⟨V1.heap.size, 2, none⟩ (.slice none 0 0)) := ⟨_, rfl⟩; have HN := hid (show Nw (some D1) b kd n Ax m cx w Y by rw [hY]; exact N7.out); have hx : Blk Y V1.heap.size 31 zc := (by rw [hY]; exact three_set kx.out); rw [← hY]; obtain ⟨xb, hxb⟩ : ∃ xb, xb = V1.heap.size := ⟨_, rfl⟩; rw [← hxb] at hx ⊢; have HX := hid hx; clear hY hx hxb f0 f1 f2 g0 g1 g2 kx N7 q7)
        | (obtain ⟨Y, hY⟩ : ∃ Y, Y = v5.alloc (.cells #[.int .i64 0, .int .i64 0, .slice none 0 0] 31) := ⟨_, rfl⟩; have HN := hid (show Nw (some D1) b kd n Ax m cx w Y by rw [hY]; exact N6.out); have hx : Blk Y v5.heap.size 31 zc := (by rw [hY]; exact Blk.new v5 31 zc); rw [← hY]; obtain ⟨xb, hxb⟩ : ∃ xb, xb = v5.heap.size := ⟨_, rfl⟩; rw [← hxb] at hx ⊢; have HX := hid hx; clear hY hx hxb N6 q6)
        clear N5 q5 hq1 K1 K2 K3 K4 HDa HDb
        have tw : ∀ q, Calls Try.prog 11 #[P (b + 1 + 1), .int .i64 n] (Y.drewN q) (fun e w' => e = .returned (.tuple #[.int .i64 0, .int .i64 1]) ∧ w' = Y.drewN q) := fun q => twice11_nil (p := (P (b + 1 + 1))) ((HN.out.later (below_drewN (Below.refl _ _) q)).nl 1) n
        have cp : Y.cell? ⟨b + 1 + 1 + 1, 1, none⟩ = some (P (b + 1 + 1)) := HN.out.at_ (i := 1) (by omega)
        have ca : Y.cell? ⟨b, 1, none⟩ = some (.int .i64 n) := HN.out.a.cell 1
        go_wp2_with fail
        go_quiet ((go_at_call 11; with_reducible exact Calls.quiet_of_same (tw _)))
        clear tw cp ca
        obtain ⟨Z, hZ⟩ : ∃ Z, Y.drewN nq = Z := ⟨_, rfl⟩
        have HM := hid (show Nw (some D1) b kd n Ax m cx w Z by rw [← hZ]; exact HN.out.later (below_drewN (Below.refl _ _) _))
        have HXZ := hid (show Blk Z xb 31 zc by rw [← hZ]; exact HX.out.drewN _)
        rw [hZ]
        clear hZ HN HX
        go_wp2_with fail
        have K1 := hid (show Z.cell? ⟨b + 1 + 1 + 1, 1, none⟩ = some (P (b + 1 + 1)) ∧ Z.cell? ⟨b, 1, none⟩ = some (Value.int .i64 n) ∧ Z.cell? ⟨xb, 0, none⟩ = some (Value.int .i64 0) ∧ Z.cell? ⟨xb, 2, none⟩ = some (Value.slice none 0 0) from ⟨HM.out.at_ (i := 1) (by omega), HM.out.a.cell 1, HXZ.out.cell 0, HXZ.out.cell 2⟩)
        have K2 := hid (show Z.drew.cell? ⟨b + 1 + 1 + 1, 1, none⟩ = some (P (b + 1 + 1)) ∧ Z.drew.cell? ⟨b, 1, none⟩ = some (Value.int .i64 n) ∧ Z.drew.cell? ⟨xb, 0, none⟩ = some (Value.int .i64 0) ∧ Z.drew.cell? ⟨xb, 2, none⟩ = some (Value.slice none 0 0) from ⟨HM.out.at_ (i := 1) (by omega), HM.out.a.cell 1, HXZ.out.cell 0, HXZ.out.cell 2⟩)
        have dd : Calls Try.prog 13 #[P (b + 1 + 1), .int .i64 n] Z.drew (fun e w' => e = .returned (.int .i64 1) ∧ Below Z.drew.heap.size Z.drew w') := drop13_nil ((HM.out.later ((Below.refl Z.heap.size Z).drew)).nl 1) n
        have HDD := hid dd
        clear dd
        go_region_held3 (fun w' => w'.cell? ⟨b + 1 + 1 + 1, 1, none⟩ = some (P (b + 1 + 1)) ∧ w'.cell? ⟨b, 1, none⟩ = some (Value.int .i64 n) ∧ w'.cell? ⟨xb, 0, none⟩ = some (Value.int .i64 0) ∧ w'.cell? ⟨xb, 2, none⟩ = some (Value.slice none 0 0)) (first | (with_reducible exact K1.out) | (with_reducible exact K2.out) | (with_reducible exact q5.out))
          (first
            | (go_at_call 13; (with_reducible refine HDD.out.mono ?_); rintro e5 v6 ⟨rfl, hq0⟩; have hq1 := hid (below_src hq0); have N5 := hid (HM.out.later hq1.out); have X5 := hid (HXZ.out.later hq1.out); have q5 := hid (show v6.cell? ⟨b + 1 + 1 + 1, 1, none⟩ = some (P (b + 1 + 1)) ∧ v6.cell? ⟨b, 1, none⟩ = some (Value.int .i64 n) ∧ v6.cell? ⟨xb, 0, none⟩ = some (Value.int .i64 0) ∧ v6.cell? ⟨xb, 2, none⟩ = some (Value.slice none 0 0) from ⟨N5.out.at_ (i := 1) (by omega), N5.out.a.cell 1, X5.out.cell 0, X5.out.cell 2⟩); have ff : Calls Try.prog 21 #[P (b + 1 + 1)] v6 (fun e w' => e = .returned (.slice none 0 0) ∧ w' = v6) := flight21_nil (N5.out.nl 1); have HFF := hid ff; clear hq0 ff)
            | (go_at_call 21; (with_reducible refine HFF.out.mono ?_); rintro e5 v7 ⟨rfl, h9⟩; subst h9))
        clear K1 K2 q5 HDD HFF hq1 HM HXZ X5
        have ha : Calls Try.prog 26 #[P (b + 1 + 1)] v7 (Gives [] v7) := all26_nil (N5.out.nl 1)
        have HAL := hid ha
        have cp : v7.cell? ⟨b + 1 + 1 + 1, 1, none⟩ = some (P (b + 1 + 1)) := N5.out.at_ (i := 1) (by omega)
        clear ha
        go_wp2_with (go_at_call 26; refine stop_ (fun Ps hPs => ?_))
        refine hPs ?_
        clear hPs Ps cp
        refine HAL.out.mono ?_
        clear HAL
        rintro e w1 ⟨Bs, A1, cap1, rfl, hBs1, hBs2, hBs3, hrn, hcn, hcm, hb1⟩
        have hrun := eql58 Bs
        have N1 := hid (N5.out.later hb1)
        have HQ := hid (And.intro hBs2 (And.intro hBs3 (And.intro hrn hcn)))
        clear hBs1 hBs2 hBs3 hrn hcn hcm hb1 N5
        go_wp2_with fail
        refine (wpIn_wide (n := 3)).1 ?_
        refine wpIn_rangeFunc_ownH hro h1 (gf := 47) (lb := #[.pointer (some ⟨Bs, 0, none⟩)]) rfl trivial (enters_of Try.func47 (by kernel_rfl) rfl)
          (values_stops Fence.wide _ trivial hro (by omega) Bs w1.heap.size cap1 A1 [] (by simp) w1 HQ.out.1 (Nat.le_refl _) HQ.out.2.1 HQ.out.2.2.1 HQ.out.2.2.2) belowK_t (belowK_b (Nat.le_refl _)) (Below.refl _ _) (fun _ => rfl)
          (fun _ W => Below w1.heap.size w1 W) (fun _ _ _ => False) (ownFrom_below (Nat.le_refl _) (Nat.le_refl _)) (fun _ _ _ _ _ hs _ _ => hs) (Below.refl _ _) (fun _ _ _ => True) (fun _ _ _ _ _ _ _ _ _ => trivial) ?assign ?body ?done ?stop
        case assign =>
          rintro l pre x W K hI hK
          gi_wp2
          exact hK _ _ (KeepsFrom.refl _ _) (Below.refl _ _) hI trivial
        case body =>
          rintro l pre x a' W _ _ hI _ hlt
          simp at hlt
        case stop =>
          rintro D c' pre W _ _ h _
          exact h.elim
        case done =>
          rintro D2 ys W4 hD hys hI hK
          have N9 := N1.out.later hI
          have HN9 := hid N9
          have HK2 := hid hK
          have HD := hid hD
          have hne : D1 ≠ D2 := by have := (Array.getElem?_eq_some_iff.1 (N1.out.d D1 rfl)).1; omega
          have hb2 : b ≤ D2 := by have := N1.out.a.lt; omega
          have HNE := hid (And.intro hne hb2)
          clear hI hK hys hD N1 HQ hrun N9 hne hb2
          go_wp2_with fail
          rw [roundsIn_succ]
          refine wpIn_wide.2 ?_
          go_wp2_with (go_at_call 8; refine stop_ (fun Ps hPs => ?_))
          refine hPs ?_
          clear hPs Ps
          refine (lives8 W4).mono ?_
          rintro e W5 ⟨rfl, hb5⟩
          have N5 := HN9.out.later hb5
          have hK2 : W5.heap[D2]? = some (.deferred (some [])) := (hb5.block D2 (Array.getElem?_eq_some_iff.1 HK2.out).1).trans HK2.out
          have c5 := N5.r.cell 0
          have f5 := N5.r.frozen 0
          have HN5 := hid N5
          have HK5 := hid hK2
          clear N5 hK2 hb5
          go_wp2_with fail
          have hK2s := (KeepsOthers.setCell W5 ⟨b + 1, 0, none⟩ (.bool true)).same D2 _ HK5.out rfl
          have hK1s := (KeepsOthers.setCell W5 ⟨b + 1, 0, none⟩ (.bool true)).same D1 _ (HN5.out.d D1 rfl) rfl
          have hK1p : ((W5.setCell ⟨b + 1, 0, none⟩ (.bool true)).putObj D2 (.deferred none)).heap[D1]? = some (.deferred (some [])) := by rw [World.putObj_heap_other HNE.out.1]; exact hK1s
          refine ⟨by simp, .inl ⟨_, _, rfl, run_takeDeferred hK2s, ⟨by simp, .inl ⟨_, _, rfl, run_takeDeferred hK1p, ?_⟩⟩⟩⟩
          have hbx : Boxed (W5.setCell ⟨b + 1, 0, none⟩ (.bool true)) (b + 1) 4 (.bool true) := Boxed.set (W := W5) (v := .bool false) _ HN5.out.r
          have c1 := cell_kept hbx.cell (grownBy_putObj' _ D2 (.deferred none)) (fun r e => by cases e; exact ⟨_, hK2s, rfl⟩)
          have c2 := cell_kept c1 (grownBy_putObj' _ D1 (.deferred none)) (fun r e => by cases e; exact ⟨_, hK1p, rfl⟩)
          refine ⟨_, ?_, rfl, ?_⟩
          · simp [results, Try.results6, Try.f6, go_sem, c2]
          · rw [← HBE.out]
            exact below_putD (below_putD (HN5.out.low.setCell (p := ⟨b + 1, 0, none⟩) (by simp) _) HNE.out.2 hK2s) HD1.out hK1p
end Go.Proofs.Ytigedoonhmaghaa
