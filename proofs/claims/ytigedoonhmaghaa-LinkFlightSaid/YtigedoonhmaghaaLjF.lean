/- Links: Twice, of the program and of the document. -/
import Derived.Test.YtigedoonhmaghaaLiF
namespace Go.Proofs.Ytigedoonhmaghaa
open Go.RowKit Go.Lg
variable {F : Nat}
set_option linter.unusedVariables false
set_option linter.unusedSimpArgs false
attribute [local go_sem ↓] Go.wp_at_zero Go.wp_at_succ

/-! ### What Twice does -/
def tE (n : Int) (ks : List Key) : Int := match fx n ks with | none => 4 | some i => if ks.length < 512 then 0 else 3
def tR (last n : Int) (ks : List Key) : Int := if tE n ks = 0 then last + 1 else 0
def tL (last n : Int) (ks : List Key) : Int := if tE n ks = 0 then last + 1 else last
def tK (last n : Int) (ks : List Key) : List Key := if tE n ks = 0 then ks ++ [(last + 1, (dX n ks).2)] else ks
def Twices (F : Nat) (rf : Bool) (B z : Nat) (sv : Value) (last n : Int) (ks : List Key) (w : World) (e : Ending) (w' : World) : Prop := Send F rf B z sv (tR last n ks) (tE n ks) (tL last n ks) (tK last n ks) w e w'
section
variable {rf : Bool} {B z : Nat} {sv : Value} {last n : Int} {ls : List Lt} {w w' : World} {en : Ending}
theorem twice_no (hx : fx n (ls.map Lt.k) = none) (k : Send F rf B z sv 0 4 last (ls.map Lt.k) w en w') : Twices F rf B z sv last n (ls.map Lt.k) w en w' := by
  have e : tE n (ls.map Lt.k) = 4 := by simp only [tE, hx]
  simp only [Twices, tR, tL, tK, e]
  exact k
theorem twice_some {i : Nat} {x : Lt} (hx : fx n (ls.map Lt.k) = some i) (hi : ls[i]? = some x) (ht : x.to = 0 ∨ x.to = 1) (k : Sends F rf B z sv last x.to x.b (ls.map Lt.k) w en w') : Twices F rf B z sv last n (ls.map Lt.k) w en w' := by
  have h' : ¬(x.to ≠ 0 ∧ x.to ≠ 1) := by omega
  have e1 : tE n (ls.map Lt.k) = sE x.to (ls.map Lt.k) := by simp only [tE, hx, sE, if_neg h']
  have e2 : dX n (ls.map Lt.k) = x.k := by
    simp only [dX, hx]
    rw [List.getD_eq_getElem?_getD, List.getElem?_map, hi]
    rfl
  simp only [Twices, tR, tL, tK, e1, e2]
  exact k
end
/-- The program's put, whatever the room. -/
theorem put28 {B z : Nat} {last : Int} {sv : Value} {ls : List Lt} {w : World} (h : LX F false w B z last sv ls) (h0 : 0 ≤ last) (h1 : last ≤ 4611686018427387904)
    (to : Int) (ht : to = 0 ∨ to = 1) (A : Option Addr) (n c : Nat) (b : List UInt8) (hr : Rd w w.heap.size 1 A n (bts b)) (h40 : b.length ≤ 40) :
    Calls Try.prog 28 #[P z, .int .i64 to, .slice A n c] w (Sends F false B z sv last to b (ls.map Lt.k) w) := by
  by_cases hlt : ls.length < 512
  · exact (put28_ok h hlt h0 h1 to ht A n c b hr h40).mono fun e w' k => sends_ok ht (by simpa using hlt) k
  · exact (put28_long h hlt to A n c).mono fun e w' k => sends_long ht (by simpa using hlt) k
set_option maxHeartbeats 4000000 in
set_option maxRecDepth 100000 in
theorem twice11 {B z : Nat} {last : Int} {sv : Value} {ls : List Lt} {w : World} (h : LX F false w B z last sv ls) (h0 : 0 ≤ last) (h1 : last ≤ 4611686018427387904) (n : Int) :
    Calls Try.prog 11 #[P z, .int .i64 n] w (Twices F false B z sv last n (ls.map Lt.k) w) := by
  have HN := hid (none27 h)
  have hf := find29 h n
  unfold Place at hf
  cases hx : fx n (ls.map Lt.k) with
  | none =>
    rw [fxi_none hx] at hf
    have HF := hid hf
    have H := hid h
    have HX := hid hx
    clear h hf hx
    go_enter Try.func11, Try.ntmps11
    go_wp2_with (go_at_call 27; refine HN.out.mono ?_; rintro e w1 ⟨rfl, rfl⟩)
    refine HF.out.mono ?_
    rintro e w2 ⟨rfl, hb2⟩
    have HS := hid (Left.same H.out hb2)
    clear hb2
    go_wp2_with fail
    refine bodyPost_ret (results_tmp2 rfl _ _ _) rfl ?_
    exact twice_no HX.out (send_eq rfl HS.out)
  | some i =>
    obtain ⟨x, hi, hlt⟩ := fx_lt hx
    rw [fxi_some hx] at hf
    have HF := hid hf
    have H := hid h
    have HX := hid (And.intro hx hi)
    have HI := hid hlt
    have H0 := hid (And.intro h0 h1)
    clear h hf hx hi h0 h1 hlt
    go_enter Try.func11, Try.ntmps11
    go_wp2_with (go_at_call 27; refine HN.out.mono ?_; rintro e w1 ⟨rfl, rfl⟩)
    refine HF.out.mono ?_
    rintro e w2 ⟨rfl, hb2⟩
    have h2 := H.out.later hb2
    obtain ⟨g, c, rfl⟩ : ∃ g c, sv = .slice (some ⟨g, 0, none⟩) ls.length c := by
      rcases owned_form0 h2.own with ⟨_, e⟩ | e
      · have := HI.out; omega
      · exact e
    obtain ⟨g', off', e9, hg, c0, c1, c2⟩ := ltAt (Rd.of_own h2.own) HX.out.2
    injection e9 with e9
    injection e9 with e8 e9
    subst e8 e9
    have hox := h2.by_ _ (List.mem_of_getElem? HX.out.2)
    obtain ⟨xn, xt, xv, xb⟩ := x
    obtain ⟨Ax, cx, e9, _, _⟩ := owned_slice hox.own
    simp only at e9
    subst e9
    simp only [Nat.zero_add] at c0 c1 c2
    have kz2 : Blk w2 z 55 #[.bool true, .int .i64 last, .slice (some ⟨g, 0, none⟩) ls.length c] := h2.blk
    have z2 : w2.cell? ⟨z, 2, none⟩ = some (.slice (some ⟨g, 0, none⟩) ls.length c) := kz2.cell 2
    have hii : (i : Int) < (ls.length : Int) := by have := HI.out; omega
    have hi0 : (0 : Int) ≤ (i : Int) := Int.natCast_nonneg _
    have hi5 : (i : Int) < 512 := by have := h2.le; omega
    have hd : LX F false w2.drew B z last (.slice (some ⟨g, 0, none⟩) ls.length c) ls := h2.later ((Below.refl _ w2).drew)
    have HP := hid (put28 hd H0.out.1 H0.out.2 xt hox.to Ax xb.length cx xb (Rd.of_own (hox.later ((Below.refl _ w2).drew)).own) hox.le)
    have K1 := hid (show w2.drew.cell? ⟨z, 2, none⟩ = some (.slice (some ⟨g, 0, none⟩) ls.length c) ∧ w2.drew.cell? ⟨g, i * 3 + 1, none⟩ = some (.int .i64 xt) ∧ w2.drew.cell? ⟨g, i * 3 + 2, none⟩ = some (.slice Ax xb.length cx) from ⟨z2, c1, c2⟩)
    have HB2 := hid hb2
    have HT := hid hox.to
    clear h2 hb2 hox kz2 hd
    go_wp2_with fail
    go_region_law (first | (go_simp; (with_reducible refine HP.out.mono ?_); rintro e3 w3 ⟨rfl, hl3⟩; have HL3 := hid hl3; clear hl3; simp only [two]))
    all_goals
      go_wp2_with fail
      refine bodyPost_ret (results_tmp2 rfl _ _ _) rfl ?_
      exact twice_some HX.out.1 HX.out.2 HT.out ⟨rfl, Left.from_ HB2.out.drew HL3.out⟩
set_option maxHeartbeats 4000000 in
set_option maxRecDepth 100000 in
theorem twice35 {B z : Nat} {last : Int} {sv : Value} {ls : List Lt} {w : World} (h : LX F true w B z last sv ls) (h0 : 0 ≤ last) (h1 : last ≤ 4611686018427387904) (n : Int) :
    Calls Try.prog 35 #[P z, .int .i64 n] w (Twices F true B z sv last n (ls.map Lt.k) w) := by
  have HN := hid (none39 h)
  have hf := place45 h n
  unfold Place at hf
  cases hx : fx n (ls.map Lt.k) with
  | none =>
    rw [fxi_none hx] at hf
    have HF := hid hf
    have H := hid h
    have HX := hid hx
    clear h hf hx
    go_enter Try.func35, Try.ntmps35
    go_wp2_with (go_at_call 39; refine HN.out.mono ?_; rintro e w1 ⟨rfl, rfl⟩)
    refine HF.out.mono ?_
    rintro e w2 ⟨rfl, hb2⟩
    have HS := hid (Left.same H.out hb2)
    clear hb2
    go_wp2_with fail
    refine bodyPost_ret (results_tmp2 rfl _ _ _) rfl ?_
    exact twice_no HX.out (send_eq rfl HS.out)
  | some i =>
    obtain ⟨x, hi, hlt⟩ := fx_lt hx
    rw [fxi_some hx] at hf
    have HF := hid hf
    have H := hid h
    have HX := hid (And.intro hx hi)
    have HI := hid hlt
    have H0 := hid (And.intro h0 h1)
    clear h hf hx hi h0 h1 hlt
    go_enter Try.func35, Try.ntmps35
    go_wp2_with (go_at_call 39; refine HN.out.mono ?_; rintro e w1 ⟨rfl, rfl⟩)
    refine HF.out.mono ?_
    rintro e w2 ⟨rfl, hb2⟩
    have h2 := H.out.later hb2
    obtain ⟨g, c, rfl⟩ : ∃ g c, sv = .slice (some ⟨g, 0, none⟩) ls.length c := by
      rcases owned_form0 h2.own with ⟨_, e⟩ | e
      · have := HI.out; omega
      · exact e
    obtain ⟨g', off', e9, hg, c0, c1, c2⟩ := ltAt (Rd.of_own h2.own) HX.out.2
    injection e9 with e9
    injection e9 with e8 e9
    subst e8 e9
    have hox := h2.by_ _ (List.mem_of_getElem? HX.out.2)
    obtain ⟨xn, xt, xv, xb⟩ := x
    obtain ⟨Ax, cx, e9, _, _⟩ := owned_slice hox.own
    simp only at e9
    subst e9
    simp only [Nat.zero_add] at c0 c1 c2
    have kz2 : Blk w2 z 63 #[.bool true, .slice (some ⟨g, 0, none⟩) ls.length c, .int .i64 last] := h2.blk
    have z2 : w2.cell? ⟨z, 1, none⟩ = some (.slice (some ⟨g, 0, none⟩) ls.length c) := kz2.cell 1
    have hii : (i : Int) < (ls.length : Int) := by have := HI.out; omega
    have hi0 : (0 : Int) ≤ (i : Int) := Int.natCast_nonneg _
    have hi5 : (i : Int) < 512 := by have := h2.le; omega
    have hd : LX F true w2.drew B z last (.slice (some ⟨g, 0, none⟩) ls.length c) ls := h2.later ((Below.refl _ w2).drew)
    have HP := hid (send33 hd H0.out.1 H0.out.2 xt Ax xb.length cx xb (Rd.of_own (hox.later ((Below.refl _ w2).drew)).own) hox.le)
    have K1 := hid (show w2.drew.cell? ⟨z, 1, none⟩ = some (.slice (some ⟨g, 0, none⟩) ls.length c) ∧ w2.drew.cell? ⟨g, i * 3 + 1, none⟩ = some (.int .i64 xt) ∧ w2.drew.cell? ⟨g, i * 3 + 2, none⟩ = some (.slice Ax xb.length cx) from ⟨z2, c1, c2⟩)
    have HB2 := hid hb2
    have HT := hid hox.to
    clear h2 hb2 hox kz2 hd
    go_wp2_with fail
    go_region_law (first | (go_simp; (with_reducible refine HP.out.mono ?_); rintro e3 w3 ⟨rfl, hl3⟩; have HL3 := hid hl3; clear hl3; simp only [two]))
    all_goals
      go_wp2_with fail
      refine bodyPost_ret (results_tmp2 rfl _ _ _) rfl ?_
      exact twice_some HX.out.1 HX.out.2 HT.out ⟨rfl, Left.from_ HB2.out.drew HL3.out⟩
end Go.Proofs.Ytigedoonhmaghaa
