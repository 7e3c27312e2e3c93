/- Txns: the program's Get, any txn; the examples that are asked first. -/
import Derived.Test.YtlbekgephjlffaaKh
namespace Go.Proofs.Ytlbekgephjlffaa
open Go.RowKit Go.Lg Go.Shelf
set_option linter.unusedVariables false
set_option linter.unusedSimpArgs false

set_option maxRecDepth 100000 in
set_option maxHeartbeats 4000000 in
theorem get17 {B z : Nat} {o : Bool} {sv : Value} {os : List Op3} {w : World} (h : TX false w B z o sv os) (key : ByteArray) : Calls Try.prog 17 #[P z, .string key] w (Gets (getR o key os) w) := by
  cases o with
  | false => exact get17_open h key
  | true =>
    refine (callsIn_wide (n := 3)).1 ?_
    have hro : Fence.wide.round = none := rfl
    have t26 : Fence.wide.fn 26 := trivial
    obtain ⟨W, hW⟩ : ∃ W, (((w.alloc (.cells #[.string key] 9)).alloc (.cells #[.string ⟨#[]⟩] 9)).alloc (.cells #[.bool false] 4)).alloc (.cells #[.bool false] 4) = W := ⟨_, rfl⟩
    have bV := ((Boxed.new (w.alloc (.cells #[.string key] 9)) 9 (.string ⟨#[]⟩)).alloc (.cells #[.bool false] 4)).alloc (.cells #[.bool false] 4)
    have bM := (Boxed.new ((w.alloc (.cells #[.string key] 9)).alloc (.cells #[.string ⟨#[]⟩] 9)) 4 (.bool false)).alloc (.cells #[.bool false] 4)
    have bT := Boxed.new (((w.alloc (.cells #[.string key] 9)).alloc (.cells #[.string ⟨#[]⟩] 9)).alloc (.cells #[.bool false] 4)) 4 (.bool false)
    simp only [World.size_alloc] at bV bM bT
    have hB : Below w.heap.size w ((((w.alloc (.cells #[.string key] 9)).alloc (.cells #[.string ⟨#[]⟩] 9)).alloc (.cells #[.bool false] 4)).alloc (.cells #[.bool false] 4)) :=
      ((((Below.refl _ w).alloc (Nat.le_refl _) _).alloc (by simp) _).alloc (by simp; omega) _).alloc (by simp; omega) _
    rw [hW] at bV bM bT hB
    have hwr : Calls Try.prog 26 #[P z] W (fun e w' => e = .returned (.int .i64 6) ∧ w' = W) := wrong26 (h.later hB)
    have cV := bV.cell
    have cM := bM.cell
    have cT := bT.cell
    have fV := bV.frozen
    have fM := bM.frozen
    have fT := bT.frozen
    obtain ⟨g1, g2, g3, g4, g5⟩ := three (b := w.heap.size) (.string ⟨#[]⟩) (.bool false) (.bool false) bV bM bT
    have G2 := hid (hB.trans g2)
    have c1 := g3.cell
    have c2 := g4.cell
    have c3 := g5.cell
    clear h g1 g2 g3 g4 g5 bV bM bT hB
    refine callsIn_of_wp_marks Try.func17 rfl trivial ?_ hro
    simp only [Try.ntmps17, List.size_toArray, List.length_cons, List.length_nil, Nat.reduceAdd, Nat.reduceSub, Array.replicate_succ, Array.replicate_zero, List.push_toArray, List.append_toArray, List.nil_append, List.cons_append]
    gi_wp2_with (gi_at_call 26; refine (callsIn_wide.2 hwr).mono ?_; clear hwr; rintro e w1 ⟨rfl, h9⟩; subst h9)
    refine ⟨_, ?_, gets_eq rfl G2.out⟩
    simp [results, Try.results17, Try.f17, go_sem, c1, c2, c3]
def Yes (w : World) (e : Ending) (w' : World) : Prop := e = .returned (.bool true) ∧ Below w.heap.size w w'
abbrev sA : ByteArray := ⟨#[97]⟩
abbrev s1 : ByteArray := ⟨#[49]⟩
abbrev s0 : ByteArray := ⟨#[]⟩
theorem s0_list : (s0.toList.isEmpty) = true := by
  unfold ByteArray.toList ByteArray.toList.loop
  rfl
theorem ok_put {k v : ByteArray} (h1 : 1 ≤ k.size) (h2 : k.size ≤ 16) (h3 : v.size ≤ 32) : (Op3.mk true k v).ok := ⟨h1, h2, h3, fun h => by cases h⟩
theorem ok_del {k : ByteArray} (h1 : 1 ≤ k.size) (h2 : k.size ≤ 16) : (Op3.mk false k s0).ok := ⟨h1, h2, Nat.zero_le _, fun _ => s0_list⟩
abbrev opA : Op3 := ⟨true, sA, s1⟩
abbrev opD : Op3 := ⟨false, sA, s0⟩
theorem e1 : addE false [] opA = 0 := addE_ok (ok_put (by decide) (by decide) (by decide)) (by decide)
theorem o1 : addO false [] opA = [opA] := addO_ok e1
theorem e2 : addE false [opA] opD = 0 := addE_ok (ok_del (by decide) (by decide)) (by decide)
theorem o2 : addO false [opA] opD = [opA, opD] := addO_ok e2
theorem g2 : getR false sA [opA, opD] = (s0, true, false) := by
  show told (last sA ([opA] ++ [opD])) = _
  rw [last_hit (by simp)]
  rfl
/-- A call's goal is met by what the call tells. -/
theorem Left.below {rf : Bool} {B z : Nat} {sv : Value} {o : Bool} {os : List Op3} {o' : Bool} {os' : List Op3} {w w' : World} (h : TX rf w B z o sv os) (hl : Left rf B z sv o' os' w w') : Below B w w' := by
  obtain ⟨sv', h1, h2, h3⟩ := hl
  exact h2.below h.leB h.hB (fun g hg => (h.own.lt g hg).1)
set_option maxRecDepth 100000 in
set_option maxHeartbeats 4000000 in
theorem lives8 (w : World) : Calls Try.prog 8 #[] w (Yes w) := by
  obtain ⟨B, hB⟩ : ∃ B, B = w.heap.size := ⟨_, rfl⟩
  have HBE := hid hB
  have hBe : B ≤ w.heap.size := Nat.le_of_eq hB
  clear hB
  go_enter Try.func8, Try.ntmps8
  go_wp2_with (go_at_call 9; refine stop_ (fun Ps hPs => ?_))
  refine hPs ?_
  clear hPs Ps
  refine (begin9 (B := B) hBe).mono ?_
  rintro e w1 ⟨rfl, h1, hb⟩
  have hb := hb.mono hBe
  obtain ⟨z, hz⟩ : ∃ z, z = w.heap.size := ⟨_, rfl⟩
  rw [← hz] at h1 ⊢
  clear hz
  go_wp2_with (go_at_call 10; refine stop_ (fun Ps hPs => ?_))
  refine hPs ?_
  clear hPs Ps
  have ha := put10 h1 sA s1
  rw [e1, o1] at ha
  refine ha.mono ?_
  clear ha
  rintro e w2 ⟨rfl, hl⟩
  have hb := hb.trans (hl.below h1)
  obtain ⟨sv2, h2, _, _⟩ := hl
  clear h1
  go_wp2_with (go_at_call 12; refine stop_ (fun Ps hPs => ?_))
  refine hPs ?_
  clear hPs Ps
  have ha := delete12 h2 sA
  rw [e2, o2] at ha
  refine ha.mono ?_
  clear ha
  rintro e w3 ⟨rfl, hl⟩
  have hb := hb.trans (hl.below h2)
  obtain ⟨sv3, h3, _, _⟩ := hl
  clear h2
  go_wp2_with (go_at_call 17; refine stop_ (fun Ps hPs => ?_))
  refine hPs ?_
  clear hPs Ps
  have ha := get17 h3 sA
  rw [g2] at ha
  refine ha.mono ?_
  clear ha
  rintro e w4 ⟨rfl, hbn⟩
  have h4 := h3.later hbn
  have hb := hb.trans (hbn.mono h3.leB)
  clear h3 hbn
  go_wp2_with (go_at_call 11; refine stop_ (fun Ps hPs => ?_))
  refine hPs ?_
  clear hPs Ps
  refine (len11 h4).mono ?_
  rintro e w5 ⟨rfl, rfl⟩
  have hl : lenV false [opA, opD] = 2 := by rfl
  rw [hl]
  clear hl h4
  rw [HBE.out] at hb
  go_wp2_with fail
  go_ret
  exact ⟨rfl, hb⟩
end Go.Proofs.Ytlbekgephjlffaa
