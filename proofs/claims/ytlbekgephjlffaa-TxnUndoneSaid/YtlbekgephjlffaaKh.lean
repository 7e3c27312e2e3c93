/- Txns: the program's Get. -/
import Derived.Test.YtlbekgephjlffaaKg
namespace Go.Proofs.Ytlbekgephjlffaa
open Go.RowKit Go.Lg Go.Shelf
set_option linter.unusedVariables false
set_option linter.unusedSimpArgs false
attribute [local go_sem] Oper.semAt_some

theorem back_miss {key : ByteArray} {os : List Op3} : ∀ k, k ≤ os.length → (∀ p ∈ upto (back os os.length) k, (p.2.key.toList == key.toList) = false) → last key os = last key (os.take (os.length - k))
  | 0, _, _ => by simp
  | k + 1, hk, h => by
    rw [upto_succ] at h
    have ih := back_miss k (by omega) (fun p hp => h p (List.mem_append_left _ hp))
    have hj : os.length - k = (os.length - 1 - k) + 1 := by omega
    have hlt : os.length - 1 - k < os.length := by omega
    have hb : back os os.length k = (os.length - 1 - k, os[os.length - 1 - k]) := by
      unfold back
      rw [List.getD_eq_getElem?_getD, List.getElem?_eq_getElem hlt]
      rfl
    have hm := h _ (List.mem_append_right _ (List.mem_singleton.2 rfl))
    rw [hb] at hm
    rw [ih, hj, take_succ_get? (List.getElem?_eq_getElem hlt), last_miss hm]
    have : os.length - (k + 1) = os.length - 1 - k := by omega
    rw [this]
theorem back_none {key : ByteArray} {os : List Op3} (h : ∀ p ∈ upto (back os os.length) os.length, (p.2.key.toList == key.toList) = false) : last key os = none := by
  rw [back_miss os.length (Nat.le_refl _) h, Nat.sub_self]
  rfl
theorem back_hit {key : ByteArray} {os : List Op3} {k : Nat} {ini : List (Nat × Op3)} {x : Nat × Op3} (hk : k ≤ os.length) (he : upto (back os os.length) k = ini ++ [x]) (h : ∀ p ∈ ini, (p.2.key.toList == key.toList) = false)
    (hx : (x.2.key.toList == key.toList) = true) : last key os = some x.2 := by
  obtain ⟨k, rfl⟩ : ∃ k', k = k' + 1 := by
    cases k with
    | zero => simp [upto] at he
    | succ k => exact ⟨k, rfl⟩
  rw [upto_succ] at he
  obtain ⟨rfl, e5⟩ := List.append_inj' he rfl
  obtain rfl : back os os.length k = x := by simpa using e5
  have hlt : os.length - 1 - k < os.length := by omega
  have hj : os.length - k = (os.length - 1 - k) + 1 := by omega
  have hb : back os os.length k = (os.length - 1 - k, os[os.length - 1 - k]) := by
    unfold back
    rw [List.getD_eq_getElem?_getD, List.getElem?_eq_getElem hlt]
    rfl
  rw [hb] at hx ⊢
  rw [back_miss k (by omega) h, hj, take_succ_get? (List.getElem?_eq_getElem hlt), last_hit hx]

theorem store3 (W : World) (x y u : Value) : KeepsOthers W (W.alloc (.cells #[x, y, u] 43)) ∧ Below W.heap.size W (W.alloc (.cells #[x, y, u] 43)) ∧ Blk (W.alloc (.cells #[x, y, u] 43)) W.heap.size 43 #[x, y, u] :=
  ⟨KeepsOthers.alloc _ _, (Below.refl _ W).alloc (Nat.le_refl _) _, Blk.new W 43 _⟩
theorem three {W : World} {b : Nat} {x0 y0 z0 : Value} (x y u : Value) (bV : Boxed W (b + 1) 9 x0) (bM : Boxed W (b + 1 + 1) 4 y0) (bT : Boxed W (b + 1 + 1 + 1) 4 z0) :
    KeepsOthers W (((W.setCell ⟨b + 1, 0, none⟩ x).setCell ⟨b + 1 + 1, 0, none⟩ y).setCell ⟨b + 1 + 1 + 1, 0, none⟩ u) ∧ Below b W (((W.setCell ⟨b + 1, 0, none⟩ x).setCell ⟨b + 1 + 1, 0, none⟩ y).setCell ⟨b + 1 + 1 + 1, 0, none⟩ u) ∧ Boxed (((W.setCell ⟨b + 1, 0, none⟩ x).setCell ⟨b + 1 + 1, 0, none⟩ y).setCell ⟨b + 1 + 1 + 1, 0, none⟩ u) (b + 1) 9 x ∧ Boxed (((W.setCell ⟨b + 1, 0, none⟩ x).setCell ⟨b + 1 + 1, 0, none⟩ y).setCell ⟨b + 1 + 1 + 1, 0, none⟩ u) (b + 1 + 1) 4 y ∧ Boxed (((W.setCell ⟨b + 1, 0, none⟩ x).setCell ⟨b + 1 + 1, 0, none⟩ y).setCell ⟨b + 1 + 1 + 1, 0, none⟩ u) (b + 1 + 1 + 1) 4 u :=
  ⟨((KeepsOthers.setCell _ _ _).trans (KeepsOthers.setCell _ _ _)).trans (KeepsOthers.setCell _ _ _),
    (((Below.refl b W).setCell (p := ⟨b + 1, 0, none⟩) (by simp) x).setCell (p := ⟨b + 1 + 1, 0, none⟩) (by simp; omega) y).setCell (p := ⟨b + 1 + 1 + 1, 0, none⟩) (by simp; omega) u,
    ((bV.set x).other (by omega) y).other (by omega) u, ((bM.other (by omega) x).set y).other (by omega) u, ((bT.other (by omega) x).other (by omega) y).set u⟩
set_option maxRecDepth 100000 in
set_option maxHeartbeats 4000000 in
theorem get17_open {B z : Nat} {sv : Value} {os : List Op3} {w : World} (h : TX false w B z false sv os) (key : ByteArray) : Calls Try.prog 17 #[P z, .string key] w (Gets (getR false key os) w) := by
  refine (callsIn_wide (n := 3)).1 ?_
  have hro : Fence.wide.round = none := rfl
  have h1 : 1 ≤ 3 := by omega
  have t26 : Fence.wide.fn 26 := trivial
  have t31 : Fence.wide.fn 31 := trivial
  have hl8 := h.le
  obtain ⟨A, c, rfl, hc1, hc2⟩ := owned_slice h.own
  obtain ⟨W, hW⟩ : ∃ W, (((w.alloc (.cells #[.string key] 9)).alloc (.cells #[.string ⟨#[]⟩] 9)).alloc (.cells #[.bool false] 4)).alloc (.cells #[.bool false] 4) = W := ⟨_, rfl⟩
  have bK := (((Boxed.new w 9 (.string key)).alloc (.cells #[.string ⟨#[]⟩] 9)).alloc (.cells #[.bool false] 4)).alloc (.cells #[.bool false] 4)
  have bV := ((Boxed.new (w.alloc (.cells #[.string key] 9)) 9 (.string ⟨#[]⟩)).alloc (.cells #[.bool false] 4)).alloc (.cells #[.bool false] 4)
  have bM := (Boxed.new ((w.alloc (.cells #[.string key] 9)).alloc (.cells #[.string ⟨#[]⟩] 9)) 4 (.bool false)).alloc (.cells #[.bool false] 4)
  have bT := Boxed.new (((w.alloc (.cells #[.string key] 9)).alloc (.cells #[.string ⟨#[]⟩] 9)).alloc (.cells #[.bool false] 4)) 4 (.bool false)
  simp only [World.size_alloc] at bV bM bT
  have hB : Below w.heap.size w ((((w.alloc (.cells #[.string key] 9)).alloc (.cells #[.string ⟨#[]⟩] 9)).alloc (.cells #[.bool false] 4)).alloc (.cells #[.bool false] 4)) :=
    ((((Below.refl _ w).alloc (Nat.le_refl _) _).alloc (by simp) _).alloc (by simp; omega) _).alloc (by simp; omega) _
  have hsz : ((((w.alloc (.cells #[.string key] 9)).alloc (.cells #[.string ⟨#[]⟩] 9)).alloc (.cells #[.bool false] 4)).alloc (.cells #[.bool false] 4)).heap.size = w.heap.size + 4 := by simp
  rw [hW] at bK bV bM bT hB hsz
  have hT := h.later hB
  have kz : Blk W z 50 #[.bool true, .bool false, .slice A os.length c] := hT.blk
  have z2 : W.cell? ⟨z, 2, none⟩ = some (.slice A os.length c) := kz.cell 2
  have hwr : Calls Try.prog 26 #[P z] W (fun e w' => e = .returned (.int .i64 0) ∧ w' = W) := wrong26 hT
  have hos := hT.os
  have HBW := hid hB
  clear h hT kz hB
  refine callsIn_of_wp_marks Try.func17 rfl trivial ?_ hro
  simp only [Try.ntmps17, List.size_toArray, List.length_cons, List.length_nil, Nat.reduceAdd, Nat.reduceSub, Array.replicate_succ, Array.replicate_zero, List.push_toArray, List.append_toArray, List.nil_append, List.cons_append]
  gi_wp2_with (first
    | (gi_at_call 26; refine (callsIn_wide.2 hwr).mono ?_; clear hwr; rintro e w1 ⟨rfl, h9⟩; subst h9)
    | (gi_at_call 31; refine (back31_in Fence.wide _ trivial hro _ _ _ _).mono ?_; rintro e w' ⟨rfl, rfl⟩))
  have bN := Boxed.new w1 33 (.slice A os.length c)
  rw [hsz] at bN
  have hos0 : OS (w1.alloc (.cells #[.slice A os.length c] 33)) (w1.alloc (.cells #[.slice A os.length c] 33)).heap.size A os.length os := (hos.keep ((Below.refl _ w1).alloc (Nat.le_refl _) _)).more (by simp)
  have bK0 := bK.alloc (.cells #[.slice A os.length c] 33)
  have bV0 := bV.alloc (.cells #[.slice A os.length c] 33)
  have bM0 := bM.alloc (.cells #[.slice A os.length c] 33)
  have bT0 := bT.alloc (.cells #[.slice A os.length c] 33)
  have hB0 : Below w.heap.size w (w1.alloc (.cells #[.slice A os.length c] 33)) := HBW.out.alloc HBW.out.size _
  have hs0 : (w1.alloc (.cells #[.slice A os.length c] 33)).heap.size = w.heap.size + 5 := by rw [World.size_alloc, hsz]
  obtain ⟨W0, hW0⟩ : ∃ W0, w1.alloc (.cells #[.slice A os.length c] 33) = W0 := ⟨_, rfl⟩
  rw [hW0] at bN hos0 bK0 bV0 bM0 bT0 hB0 hs0 ⊢
  clear hW0 hW HBW bK bV bM bT hos hsz z2
  refine wpIn_rangeFunc_ownH hro h1 (gf := 39) (lb := #[.pointer (some ⟨w.heap.size + 4, 0, none⟩)]) rfl trivial (enters_of Try.func39 (by kernel_rfl) rfl)
    (back_stops Fence.wide _ trivial hro (by omega) (w.heap.size + 4) W0.heap.size os.length c A os hl8 W0 (by omega) (Nat.le_refl _) bN.cell hos0 hc1) belowK_t (belowK_b (Nat.le_refl _)) (Below.refl _ _) (fun _ => rfl)
    (fun pre W => (((((Boxed W w.heap.size 9 (.string key) ∧ Boxed W (w.heap.size + 1) 9 (.string ⟨#[]⟩)) ∧ Boxed W (w.heap.size + 1 + 1) 4 (.bool false)) ∧ Boxed W (w.heap.size + 1 + 1 + 1) 4 (.bool false)) ∧ (∀ p ∈ pre, (p.2.key.toList == key.toList) = false)) ∧ Below w.heap.size w W) ∧ W0.heap.size ≤ W.heap.size)
    (fun c' pre W => (∃ ini x, c' = .ret ∧ pre = ini ++ [x] ∧ (∀ p ∈ ini, (p.2.key.toList == key.toList) = false) ∧ (x.2.key.toList == key.toList) = true ∧ Boxed W (w.heap.size + 1) 9 (.string x.2.val) ∧ Boxed W (w.heap.size + 1 + 1) 4 (.bool true) ∧ Boxed W (w.heap.size + 1 + 1 + 1) 4 (.bool x.2.put)) ∧ Below w.heap.size w W)
    (OwnFrom.and (OwnFrom.and (OwnFrom.and (OwnFrom.and (OwnFrom.and (OwnFrom.and (Own.from (boxed_own _ _ _) _) (Own.from (boxed_own _ _ _) _)) (Own.from (boxed_own _ _ _) _)) (Own.from (boxed_own _ _ _) _)) (ownFrom_pure _ _)) (ownFrom_below (Nat.le_refl _) (by omega))) (fun s X Y row hs hg hr => Nat.le_trans hs hg.size))
    (fun c' => OwnFrom.and (Own.from (fun s X Y row hs hg hr => by
      obtain ⟨ini, x, h1, h2, h3, h4, h5, h6, h7⟩ := hs
      exact ⟨ini, x, h1, h2, h3, h4, boxed_own _ 9 (fun (_ : Unit) => Value.string x.2.val) () X Y row h5 hg hr, boxed_own _ 4 (fun (_ : Unit) => Value.bool true) () X Y row h6 hg hr, boxed_own _ 4 (fun (_ : Unit) => Value.bool x.2.put) () X Y row h7 hg hr⟩) _) (ownFrom_below (Nat.le_refl _) (by omega)))
    ⟨⟨⟨⟨⟨⟨bK0, bV0⟩, bM0⟩, bT0⟩, fun p hp => by cases hp⟩, hB0⟩, Nat.le_refl _⟩
    (fun x a' W => ∃ Bx, w.heap.size + 5 ≤ Bx ∧ Blk W Bx 43 #[.bool x.2.put, .string x.2.key, .string x.2.val] ∧ a' = { tmps := #[P z, .string key, undef, .pointer (some ⟨w.heap.size, 0, none⟩), .pointer (some ⟨w.heap.size + 1, 0, none⟩), .pointer (some ⟨w.heap.size + 1 + 1, 0, none⟩), .pointer (some ⟨w.heap.size + 1 + 1 + 1, 0, none⟩), undef, .pointer (some ⟨Bx, 0, none⟩), P z, .int .i64 0, .bool false, P z, .pointer (some ⟨z, 0, none⟩), .pointer (some ⟨z, 2, none⟩), .slice A os.length c, .func (.func 39) #[] #[.pointer (some ⟨w.heap.size + 4, 0, none⟩)], .int .i64 (x.1 : Int), .agg #[.bool x.2.put, .string x.2.key, .string x.2.val], undef, undef, undef, undef, undef, undef, undef, undef], defers := [] })
    (fun x a' _ X Y row hs hg hr => by
      obtain ⟨Bx, h1, h2, h3⟩ := hs
      refine ⟨Bx, h1, h2.gb hg (fun e => ?_), h3⟩
      obtain ⟨o, ho, hc⟩ := (hr Bx e.symm).2
      rw [show X.heap[Bx]? = _ from h2] at ho
      cases ho
      cases hc)
    ?assign ?body ?done ?stop
  case assign =>
    rintro l pre x W K ⟨⟨⟨⟨⟨⟨bK1, bV1⟩, bM1⟩, bT1⟩, hm1⟩, hB1⟩, hs1⟩ hK
    obtain ⟨g1, g2, g3⟩ := store3 W (.bool x.2.put) (.string x.2.key) (.string x.2.val)
    gi_wp2
    exact hK _ _ (g1.from _) (g2.mono hs1) ⟨⟨⟨⟨⟨⟨(show Blk W _ 9 #[_] from bK1).later g2, (show Blk W _ 9 #[_] from bV1).later g2⟩, (show Blk W _ 4 #[_] from bM1).later g2⟩, (show Blk W _ 4 #[_] from bT1).later g2⟩, hm1⟩, hB1.trans (g2.mono hB1.size)⟩, Nat.le_trans hs1 g2.size⟩ ⟨W.heap.size, by omega, g3, rfl⟩
  case body =>
    rintro l pre x a' W hl ⟨r, hr⟩ ⟨⟨⟨⟨⟨⟨bK1, bV1⟩, bM1⟩, bT1⟩, hm1⟩, hB1⟩, hs1⟩ ⟨Bx, hBx, bX, rfl⟩ hlt
    have cK := bK1.cell
    have cX0 : W.cell? ⟨Bx, 0, none⟩ = some (.bool x.2.put) := bX.cell 0
    have cX1 : W.cell? ⟨Bx, 1, none⟩ = some (.string x.2.key) := bX.cell 1
    have cX2 : W.cell? ⟨Bx, 2, none⟩ = some (.string x.2.val) := bX.cell 2
    cases hk : (x.2.key.toList == key.toList)
    · gi_wp2
      refine ⟨KeepsFrom.refl _ _, Below.refl _ _, ⟨⟨⟨⟨⟨⟨bK1, bV1⟩, bM1⟩, bT1⟩, fun p hp => ?_⟩, hB1⟩, hs1⟩⟩
      rcases List.mem_append.1 hp with h | h
      · exact hm1 p h
      · rw [List.mem_singleton.1 h]
        exact hk
    · have cV := bV1.cell
      have cM := bM1.cell
      have cT := bT1.cell
      have fV := bV1.frozen
      have fM := bM1.frozen
      have fT := bT1.frozen
      obtain ⟨g1, g2, g3, g4, g5⟩ := three (b := w.heap.size) (.string x.2.val) (.bool true) (.bool x.2.put) bV1 bM1 bT1
      have G1 := hid g1
      have G2 := hid g2
      have G3 := hid g3
      have G4 := hid g4
      have G5 := hid g5
      clear g1 g2 g3 g4 g5
      gi_wp2
      gi_region
      all_goals
        gi_wp2
        exact ⟨(G1.out.trans (KeepsOthers.drew _)).from _, ⟨pre, x, rfl, rfl, hm1, hk, G3.out, G4.out, G5.out⟩, hB1.trans G2.out.drew⟩
  case done =>
    rintro D ys W hD rfl ⟨⟨⟨⟨⟨⟨bK1, bV1⟩, bM1⟩, bT1⟩, hm1⟩, hB1⟩, hs1⟩ hK
    have hla := back_none hm1
    have cV := bV1.cell
    have cM := bM1.cell
    have cT := bT1.cell
    have fV := bV1.frozen
    have fM := bM1.frozen
    have fT := bT1.frozen
    obtain ⟨g1, g2, g3, g4, g5⟩ := three (b := w.heap.size) (.string ⟨#[]⟩) (.bool false) (.bool false) bV1 bM1 bT1
    have G1 := hid g1
    have G2 := hid g2
    have G3 := hid g3
    have G4 := hid g4
    have G5 := hid g5
    clear g1 g2 g3 g4 g5
    gi_wp2
    have hK' := G1.out.same D _ hK rfl
    refine ⟨by simp, .inl ⟨_, _, rfl, run_takeDeferred hK', ?_⟩⟩
    have c1 := cell_kept G3.out.cell (grownBy_putObj' _ D (.deferred none)) (fun r e => by cases e; exact ⟨_, hK', rfl⟩)
    have c2 := cell_kept G4.out.cell (grownBy_putObj' _ D (.deferred none)) (fun r e => by cases e; exact ⟨_, hK', rfl⟩)
    have c3 := cell_kept G5.out.cell (grownBy_putObj' _ D (.deferred none)) (fun r e => by cases e; exact ⟨_, hK', rfl⟩)
    refine ⟨_, ?_, gets_eq (show getR false key os = (⟨#[]⟩, false, false) from ?_) ((hB1.trans G2.out).trans (belowK_b (w := w) (Nat.le_refl _) _ D _ _ (by omega) hK' rfl rfl))⟩
    · simp [results, Try.results17, Try.f17, go_sem, c1, c2, c3]
    · show told (last key os) = _
      rw [hla]
      rfl
  case stop =>
    rintro D c' pre W hD ⟨k, hk, rfl⟩ ⟨⟨ini, x, rfl, h2, h3, h4, bV1, bM1, bT1⟩, hB1⟩ hK
    have hla := back_hit hk h2 h3 h4
    gi_wp2
    refine ⟨by simp, .inl ⟨_, _, rfl, run_takeDeferred hK, ?_⟩⟩
    have c1 := cell_kept bV1.cell (grownBy_putObj' _ D (.deferred none)) (fun r e => by cases e; exact ⟨_, hK, rfl⟩)
    have c2 := cell_kept bM1.cell (grownBy_putObj' _ D (.deferred none)) (fun r e => by cases e; exact ⟨_, hK, rfl⟩)
    have c3 := cell_kept bT1.cell (grownBy_putObj' _ D (.deferred none)) (fun r e => by cases e; exact ⟨_, hK, rfl⟩)
    refine ⟨_, ?_, gets_eq (show getR false key os = (x.2.val, true, x.2.put) from ?_) (hB1.trans (belowK_b (w := w) (Nat.le_refl _) W D _ _ (by omega) hK rfl rfl))⟩
    · simp [results, Try.results17, Try.f17, go_sem, c1, c2, c3]
    · show told (last key os) = _
      rw [hla]
      rfl
end Go.Proofs.Ytlbekgephjlffaa
