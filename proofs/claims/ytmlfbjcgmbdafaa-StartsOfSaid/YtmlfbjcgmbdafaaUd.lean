/- The starts of commits that do not follow, and of any, the document's way. -/
import Derived.Test.YtmlfbjcgmbdafaaUc
namespace Go.Proofs.Ytmlfbjcgmbdafaa
open Go.RowKit Go.Lg
set_option linter.unusedVariables false
set_option linter.unusedSimpArgs false

/-- Starts and a fault. -/
def OfR (L : List (Int × Int)) (k : Int) (j : Nat) (w : World) (e : Ending) (w' : World) : Prop := ∃ v, e = .returned (.tuple #[v, .agg #[.int .i64 k, .int .i64 j]]) ∧ w'.ownsRow w.heap.size 58 2 v L.length (sts L) ∧ Below w.heap.size w w'
theorem ofr_nil {k : Int} {j : Nat} {w w' : World} (hb : Below w.heap.size w w') : OfR [] k j w (.returned (.tuple #[.slice none 0 0, .agg #[.int .i64 k, .int .i64 j]])) w' :=
  ⟨_, rfl, World.ownsRow_nil _ _ _ _, hb⟩

set_option maxHeartbeats 2000000 in
set_option maxRecDepth 100000 in
theorem of24_bad (A : Option Addr) (n c : Nat) (cs : List Cm) (k : Int) (j : Nat) (w : World) (h : CS w w.heap.size A n cs) (hn : n ≤ 10000) (hf : fol 0 0 0 cs = (k, j)) (hk : k ≠ 0) :
    Calls Try.prog 24 #[.slice A n c] w (OfR [] k j w) := by
  have kz := Blk.new w 44 #[.int .i64 0, .int .i64 0]
  have hb := (Below.refl w.heap.size w).alloc (Nat.le_refl _) (.cells #[.int .i64 0, .int .i64 0] 44)
  obtain ⟨W, hW⟩ : ∃ W, W = w.alloc (.cells #[.int .i64 0, .int .i64 0] 44) := ⟨_, rfl⟩
  have hWs : W.heap.size = w.heap.size + 1 := by rw [hW]; simp
  rw [← hW] at kz hb
  have hfo := follows37 A n c cs 0 0 W ((h.keep hb).more (by omega)) (by omega)
  rw [hf] at hfo
  have hfo : Calls Try.prog 37 #[.int .i64 0, .int .i64 0, .slice A n c] W fun e w' => e = .returned (.agg #[.int .i64 k, .int .i64 j]) ∧ Below W.heap.size W w' := hfo
  go_enter Try.func24, Try.ntmps24
  go_wp2_with (go_at_call 37; refine stop_ (fun Ps hPs => ?_))
  refine hPs ?_
  clear hPs Ps
  rw [← hW]
  clear hW
  refine hfo.mono ?_
  clear hfo
  rintro e w1 ⟨rfl, hb1⟩
  have kz := (kz.later hb1).alloc (.cells #[.int .i64 k, .int .i64 j] 44)
  have hs1 := hb1.size
  have hb := (bl_trans hb hb1 hb.size).alloc (by omega) (.cells #[.int .i64 k, .int .i64 j] 44)
  have kf := Blk.new w1 44 #[.int .i64 k, .int .i64 j]
  have d1 : (k != 0) = true := by simp [hk]
  go_wp2_with fail
  obtain ⟨V, hV⟩ : ∃ V, V = w1.alloc (.cells #[.int .i64 k, .int .i64 j] 44) := ⟨_, rfl⟩
  have ne : w.heap.size ≠ w1.heap.size := by omega
  rw [← hV] at kz hb kf
  rw [← hV]
  clear hV hk
  have f0 : V.cell? ⟨w1.heap.size, 0, none⟩ = some (.int .i64 k) := kf.cell 0
  have f1 : V.cell? ⟨w1.heap.size, 1, none⟩ = some (.int .i64 j) := kf.cell 1
  have e0 : V.cell? ⟨w.heap.size, 0, none⟩ = some (.int .i64 0) := kz.cell 0
  have e1 : V.cell? ⟨w.heap.size, 1, none⟩ = some (.int .i64 0) := kz.cell 1
  have y0 := kz.frozen 0
  have y1 := kz.frozen 1
  have y2 : (V.setCell ⟨w.heap.size, 0, none⟩ (.int .i64 k)).frozen? ⟨w.heap.size, 1, none⟩ = false := (kz.set_ 0 (.int .i64 k)).frozen 1
  have HB := hid hb
  clear kz kf hb hb1
  go_wp2_with fail
  go_region
  all_goals
    go_wp2_with fail
    refine bodyPost_ret (by simp [results, Try.results24, go_sem, e0, e1]; try rfl) rfl ?_
    exact ofr_nil (Below.drew (below_two HB.out (Nat.le_refl _) _ _))

theorem fol_zero_all : ∀ (cs : List Cm) (ep num : Int) (i : Nat), (fol ep num i cs).1 = 0 → fol ep num i cs = (0, 0) := by
  intro cs
  induction cs with
  | nil => intro ep num i _; rfl
  | cons m cs ih =>
    intro ep num i h
    unfold fol at h ⊢
    split at h
    · rename_i hk
      exact absurd h hk
    · rename_i hk
      rw [if_neg hk]
      split at h
      · exact absurd h (fun q => by simp at q)
      · rename_i ho
        rw [if_neg ho]
        exact ih _ _ _ h
set_option maxHeartbeats 2000000 in
set_option maxRecDepth 100000 in
theorem refof25_bad (A : Option Addr) (n c : Nat) (cs : List Cm) (k : Int) (j : Nat) (w : World) (h : CS w w.heap.size A n cs) (hn : n ≤ 10000) (hf : fol 0 0 0 cs = (k, j)) (hk : k ≠ 0) :
    Calls Try.prog 25 #[.slice A n c] w (OfR [] k j w) := by
  have kz := Blk.new w 44 #[.int .i64 0, .int .i64 0]
  have hb := (Below.refl w.heap.size w).alloc (Nat.le_refl _) (.cells #[.int .i64 0, .int .i64 0] 44)
  obtain ⟨W, hW⟩ : ∃ W, W = w.alloc (.cells #[.int .i64 0, .int .i64 0] 44) := ⟨_, rfl⟩
  have hWs : W.heap.size = w.heap.size + 1 := by rw [hW]; simp
  rw [← hW] at kz hb
  have hfo := follows39 A n c cs 0 0 W ((h.keep hb).more (by omega)) (by omega)
  rw [hf] at hfo
  have hfo : Calls Try.prog 39 #[.int .i64 0, .int .i64 0, .slice A n c] W fun e w' => e = .returned (.agg #[.int .i64 k, .int .i64 j]) ∧ Below W.heap.size W w' := hfo
  go_enter Try.func25, Try.ntmps25
  go_wp2_with (go_at_call 39; refine stop_ (fun Ps hPs => ?_))
  refine hPs ?_
  clear hPs Ps
  rw [← hW]
  clear hW
  refine hfo.mono ?_
  clear hfo
  rintro e w1 ⟨rfl, hb1⟩
  have kz := (kz.later hb1).alloc (.cells #[.int .i64 k, .int .i64 j] 44)
  have hs1 := hb1.size
  have hb := (bl_trans hb hb1 hb.size).alloc (by omega) (.cells #[.int .i64 k, .int .i64 j] 44)
  have kf := Blk.new w1 44 #[.int .i64 k, .int .i64 j]
  have d1 : (k == 0) = false := by simp [hk]
  go_wp2_with fail
  obtain ⟨V, hV⟩ : ∃ V, V = w1.alloc (.cells #[.int .i64 k, .int .i64 j] 44) := ⟨_, rfl⟩
  have ne : w.heap.size ≠ w1.heap.size := by omega
  rw [← hV] at kz hb kf
  rw [← hV]
  clear hV hk
  have f0 : V.cell? ⟨w1.heap.size, 0, none⟩ = some (.int .i64 k) := kf.cell 0
  have f1 : V.cell? ⟨w1.heap.size, 1, none⟩ = some (.int .i64 j) := kf.cell 1
  have e0 : V.cell? ⟨w.heap.size, 0, none⟩ = some (.int .i64 0) := kz.cell 0
  have e1 : V.cell? ⟨w.heap.size, 1, none⟩ = some (.int .i64 0) := kz.cell 1
  have y0 := kz.frozen 0
  have y1 := kz.frozen 1
  have y2 : (V.setCell ⟨w.heap.size, 0, none⟩ (.int .i64 k)).frozen? ⟨w.heap.size, 1, none⟩ = false := (kz.set_ 0 (.int .i64 k)).frozen 1
  have HB := hid hb
  clear kz kf hb hb1
  go_wp2_with fail
  go_region
  all_goals
    go_wp2_with fail
    refine bodyPost_ret (by simp [results, Try.results25, go_sem, e0, e1]; try rfl) rfl ?_
    exact ofr_nil (Below.drew (below_two HB.out (Nat.le_refl _) _ _))

theorem far_two {w : World} {a b : Nat} {x y k j : Value} (ne : a ≠ b) (q0 : w.cell? ⟨b, 0, none⟩ = some x) (q1 : w.cell? ⟨b, 1, none⟩ = some y) :
    Hid (((w.setCell ⟨a, 0, none⟩ k).setCell ⟨a, 1, none⟩ j).cell? ⟨b, 0, none⟩ = some x ∧ ((w.setCell ⟨a, 0, none⟩ k).setCell ⟨a, 1, none⟩ j).cell? ⟨b, 1, none⟩ = some y) := by
  refine hid ⟨?_, ?_⟩
  · rw [World.cell?_setCell_other _ _ _ _ (fun q => ne (by cases q <;> rfl)), World.cell?_setCell_other _ _ _ _ (fun q => ne (by cases q <;> rfl))]
    exact q0
  · rw [World.cell?_setCell_other _ _ _ _ (fun q => ne (by cases q <;> rfl)), World.cell?_setCell_other _ _ _ _ (fun q => ne (by cases q <;> rfl))]
    exact q1
set_option maxHeartbeats 2000000 in
set_option maxRecDepth 100000 in
theorem refof25_ok (A : Option Addr) (n c : Nat) (cs : List Cm) (w : World) (h : CS w w.heap.size A n cs) (hn : n ≤ 10000) (hf : fol 0 0 0 cs = (0, 0)) :
    Calls Try.prog 25 #[.slice A n c] w (OfR (tl cs) 0 0 w) := by
  have kz := Blk.new w 44 #[.int .i64 0, .int .i64 0]
  have hb := (Below.refl w.heap.size w).alloc (Nat.le_refl _) (.cells #[.int .i64 0, .int .i64 0] 44)
  obtain ⟨W, hW⟩ : ∃ W, W = w.alloc (.cells #[.int .i64 0, .int .i64 0] 44) := ⟨_, rfl⟩
  have hWs : W.heap.size = w.heap.size + 1 := by rw [hW]; simp
  rw [← hW] at kz hb
  have hfo := follows39 A n c cs 0 0 W ((h.keep hb).more (by omega)) (by omega)
  rw [hf] at hfo
  have hfo : Calls Try.prog 39 #[.int .i64 0, .int .i64 0, .slice A n c] W fun e w' => e = .returned (.agg #[.int .i64 0, .int .i64 0]) ∧ Below W.heap.size W w' := hfo
  go_enter Try.func25, Try.ntmps25
  go_wp2_with (go_at_call 39; refine stop_ (fun Ps hPs => ?_))
  refine hPs ?_
  clear hPs Ps
  rw [← hW]
  clear hW
  refine hfo.mono ?_
  clear hfo
  rintro e w1 ⟨rfl, hb1⟩
  have kz := (kz.later hb1).alloc (.cells #[.int .i64 0, .int .i64 0] 44)
  have hs1 := hb1.size
  have hb := (bl_trans hb hb1 hb.size).alloc (by omega) (.cells #[.int .i64 0, .int .i64 0] 44)
  have kf := Blk.new w1 44 #[.int .i64 0, .int .i64 0]
  go_wp2_with fail
  obtain ⟨V, hV⟩ : ∃ V, V = w1.alloc (.cells #[.int .i64 0, .int .i64 0] 44) := ⟨_, rfl⟩
  have ne : w.heap.size ≠ w1.heap.size := by omega
  have hVs : V.heap.size = w1.heap.size + 1 := by rw [hV]; simp
  rw [← hV] at kz hb kf
  rw [← hV]
  clear hV
  have HT := (h.keep hb).more (B' := V.drew.heap.size) (show w.heap.size ≤ V.heap.size by omega)
  have HTD := hid (told40 A n c cs V.drew ⟨HT.1.drew, HT.2.1, HT.2.2⟩ hn)
  have f0 : V.cell? ⟨w1.heap.size, 0, none⟩ = some (.int .i64 0) := kf.cell 0
  have f1 : V.cell? ⟨w1.heap.size, 1, none⟩ = some (.int .i64 0) := kf.cell 1
  have K1 : Hid (V.drew.cell? ⟨w1.heap.size, 0, none⟩ = some (Value.int .i64 0) ∧ V.drew.cell? ⟨w1.heap.size, 1, none⟩ = some (Value.int .i64 0)) := hid ⟨(drew_cell V _).trans f0, (drew_cell V _).trans f1⟩
  have HB := hid hb
  have HK := hid kz
  have HF := hid kf
  clear kz kf hb hb1 HT
  go_wp2_with fail
  go_region_held3 (fun w' => w'.cell? ⟨w1.heap.size, 0, none⟩ = some (Value.int .i64 0) ∧ w'.cell? ⟨w1.heap.size, 1, none⟩ = some (Value.int .i64 0)) (first | (with_reducible exact K1.out) | (with_reducible exact ⟨q0, q1⟩) | (with_reducible exact s01.out))
    (first
      | (go_at_call 40; refine HTD.out.mono ?_; rintro e5 w5 ⟨v5, rfl, ho5, hq0⟩; have hq1 := below_src hq0; have kb5 := HK.out.later hq1; have kf5 := HF.out.later hq1; have q0 : w5.cell? ⟨w1.heap.size, 0, none⟩ = some (.int .i64 0) := kf5.cell 0; have q1 : w5.cell? ⟨w1.heap.size, 1, none⟩ = some (.int .i64 0) := kf5.cell 1; have z0 : w5.cell? ⟨w.heap.size, 0, none⟩ = some (.int .i64 0) := kb5.cell 0; have z1 : w5.cell? ⟨w.heap.size, 1, none⟩ = some (.int .i64 0) := kb5.cell 1; have y0 := kb5.frozen 0; have y1 := kb5.frozen 1; have y2 : (w5.setCell ⟨w.heap.size, 0, none⟩ (.int .i64 0)).frozen? ⟨w.heap.size, 1, none⟩ = false := (kb5.set_ 0 (.int .i64 0)).frozen 1; have s01 := far_two (k := .int .i64 0) (j := .int .i64 0) ne q0 q1))
  have hb6 := below_two (bl_trans HB.out hq1 (by omega)) (Nat.le_refl _) (.int .i64 0) (.int .i64 0)
  have hg6 := gb_setCell (p := ⟨w.heap.size, 1, none⟩) (.int .i64 0) (gb_setCell (p := ⟨w.heap.size, 0, none⟩) (.int .i64 0) (World.grownBy.refl w5 (some w.heap.size)))
  have ho6 := owned_less (owned_gb_far' ho5 hg6 (show w.heap.size < V.heap.size by omega)) (show w.heap.size ≤ V.heap.size by omega)
  have HB6 := hid hb6
  have HO6 := hid ho6
  clear hb6 ho6 hg6 ho5 hq0 hq1
  go_wp2_with fail
  refine bodyPost_ret (by simp [results, Try.results25, go_sem, z0, z1]; try rfl) rfl ?_
  exact ⟨_, rfl, HO6.out, HB6.out⟩
end Go.Proofs.Ytmlfbjcgmbdafaa
