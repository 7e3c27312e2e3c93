/- Links: a letter taken out of flight, by the program. -/
import Derived.Test.YtigedoonhmaghaaLfF
import Derived.Deep.Cut
namespace Go.Proofs.Ytigedoonhmaghaa
open Go.RowKit Go.Lg
variable {F : Nat}
set_option linter.unusedVariables false
set_option linter.unusedSimpArgs false

def nolt : Lt := ⟨0, 0, .slice none 0 0, []⟩
abbrev zc : Array Value := #[.int .i64 0, .int .i64 0, .slice none 0 0]
/-- No such letter. -/
def TookNo (F : Nat) (rf : Bool) (B z : Nat) (sv : Value) (last : Int) (ks : List Key) (w : World) (e : Ending) (w' : World) : Prop := e = .returned (lv nolt 4) ∧ Left F rf B z sv last ks w w'
/-- The letter x at place i. -/
def TookAt (F : Nat) (rf : Bool) (B z : Nat) (sv : Value) (last : Int) (ls : List Lt) (i : Nat) (x : Lt) (w : World) (e : Ending) (w' : World) : Prop := e = .returned (lv x 0) ∧ Left F rf B z sv last ((ls.eraseIdx i).map Lt.k) w w' ∧ Own1 B w' x
theorem fxi_some {n : Int} {ls : List Lt} {i : Nat} (h : fx n (ls.map Lt.k) = some i) : fxi n ls = i := by simp only [fxi, h]
theorem fxi_none {n : Int} {ls : List Lt} (h : fx n (ls.map Lt.k) = none) : fxi n ls = -1 := by simp only [fxi, h]
theorem fx_lt {n : Int} {ls : List Lt} {i : Nat} (h : fx n (ls.map Lt.k) = some i) : ∃ x, ls[i]? = some x ∧ i < ls.length := by
  have := (List.findIdx?_eq_some_iff_getElem.1 h).1
  simp only [List.length_map] at this
  exact ⟨ls[i], List.getElem?_eq_getElem this, this⟩
set_option maxHeartbeats 4000000 in
set_option maxRecDepth 100000 in
theorem taken30_no {B z : Nat} {last : Int} {sv : Value} {ls : List Lt} {w : World} (h : LX F false w B z last sv ls) (n : Int) (hx : fx n (ls.map Lt.k) = none) :
    Calls Try.prog 30 #[P z, .int .i64 n] w (TookNo F false B z sv last (ls.map Lt.k) w) := by
  have hb := (Below.refl w.heap.size w).alloc (Nat.le_refl _) (.cells zc 31)
  have kr := Blk.new w 31 zc
  obtain ⟨W, hW⟩ : ∃ W, W = w.alloc (.cells zc 31) := ⟨_, rfl⟩
  rw [← hW] at hb kr
  have hW' : W = w.alloc (.cells #[.int .i64 0, .int .i64 0, .slice none 0 0] 31) := hW
  have h1 := h.later hb
  have HN := hid (none27 h1)
  have hf := find29 h1 n
  unfold Place at hf
  rw [fxi_none hx] at hf
  have HF := hid hf
  have HB := hid hb
  have H1 := hid h
  have KR := hid kr
  clear h hb kr h1 hx hf hW
  go_enter Try.func30, Try.ntmps30
  go_wp2_with (go_at_call 27; refine stop_ (fun Ps hPs => ?_))
  refine hPs ?_
  clear hPs Ps
  rw [← hW']
  clear hW'
  refine HN.out.mono ?_
  rintro e w1 ⟨rfl, h9⟩
  subst h9
  go_wp2_with (go_at_call 29; refine stop_ (fun Ps hPs => ?_))
  refine hPs ?_
  clear hPs Ps
  refine HF.out.mono ?_
  rintro e w2 ⟨rfl, hb2⟩
  have kr2 := KR.out.later hb2
  have r0 : w2.cell? ⟨w.heap.size, 0, none⟩ = some (.int .i64 0) := kr2.cell 0
  have r1 : w2.cell? ⟨w.heap.size, 1, none⟩ = some (.int .i64 0) := kr2.cell 1
  have r2 : w2.cell? ⟨w.heap.size, 2, none⟩ = some (.slice none 0 0) := kr2.cell 2
  have y0 := kr2.frozen 0
  have y1 := kr2.frozen 1
  have y2 := kr2.frozen 2
  have HB2 := hid (HB.out.trans (hb2.mono HB.out.size))
  clear kr2 hb2
  go_wp2_with fail
  refine bodyPost_ret (by simp [results, Try.results30, go_sem, r0, r1, r2]; try rfl) rfl ?_
  refine ⟨rfl, Left.same H1.out ?_⟩
  exact ((HB2.out.setCell (p := ⟨w.heap.size, 0, none⟩) (Nat.le_refl _) _).setCell (p := ⟨w.heap.size, 1, none⟩) (Nat.le_refl _) _).setCell (p := ⟨w.heap.size, 2, none⟩) (Nat.le_refl _) _
theorem far3_ {w : World} {g i : Nat} {v : Value} {p : Nat} (hg : g ≠ p) (h : w.cell? ⟨g, i, none⟩ = some v) (a b c : Value) : (((w.setCell ⟨p, 0, none⟩ a).setCell ⟨p, 1, none⟩ b).setCell ⟨p, 2, none⟩ c).cell? ⟨g, i, none⟩ = some v := by
  have hne : ∀ j, (⟨p, j, none⟩ : Addr) ≠ ⟨g, i, none⟩ := fun j e => hg (by injection e with e1 e2; exact e1.symm)
  rw [World.cell?_setCell_other _ _ _ _ (hne 2), World.cell?_setCell_other _ _ _ _ (hne 1), World.cell?_setCell_other _ _ _ _ (hne 0)]
  exact h
set_option maxHeartbeats 4000000 in
set_option maxRecDepth 100000 in
theorem taken30_at {B z : Nat} {last : Int} {sv : Value} {ls : List Lt} {w : World} (h : LX F false w B z last sv ls) (n : Int) {i : Nat} {x : Lt} (hx : fx n (ls.map Lt.k) = some i) (hxi : ls[i]? = some x) :
    Calls Try.prog 30 #[P z, .int .i64 n] w (TookAt F false B z sv last ls i x w) := by
  have hb := (Below.refl w.heap.size w).alloc (Nat.le_refl _) (.cells zc 31)
  have kr := Blk.new w 31 zc
  obtain ⟨W, hW⟩ : ∃ W, W = w.alloc (.cells zc 31) := ⟨_, rfl⟩
  rw [← hW] at hb kr
  have hW' : W = w.alloc (.cells #[.int .i64 0, .int .i64 0, .slice none 0 0] 31) := hW
  have h1 := h.later hb
  have HN := hid (none27 h1)
  have hf := find29 h1 n
  unfold Place at hf
  rw [fxi_some hx] at hf
  have hi : i < ls.length := (List.getElem?_eq_some_iff.1 hxi).1
  have HF := hid hf
  have HB := hid hb
  have H := hid h
  have H1 := hid h1
  have KR := hid kr
  have HX := hid hxi
  have HI := hid hi
  clear h hb kr h1 hx hf hW hxi hi
  go_enter Try.func30, Try.ntmps30
  go_wp2_with (go_at_call 27; refine stop_ (fun Ps hPs => ?_))
  refine hPs ?_
  clear hPs Ps
  rw [← hW']
  clear hW'
  refine HN.out.mono ?_
  rintro e w1 ⟨rfl, h9⟩
  subst h9
  go_wp2_with (go_at_call 29; refine stop_ (fun Ps hPs => ?_))
  refine hPs ?_
  clear hPs Ps
  refine HF.out.mono ?_
  rintro e w2 ⟨rfl, hb2⟩
  have h2 := H1.out.later hb2
  obtain ⟨g, c, rfl⟩ : ∃ g c, sv = .slice (some ⟨g, 0, none⟩) ls.length c := by
    rcases owned_form0 h2.own with ⟨_, e⟩ | e
    · have := HI.out; omega
    · exact e
  obtain ⟨g', off', e9, hg, c0, c1, c2⟩ := ltAt (Rd.of_own h2.own) HX.out
  injection e9 with e9
  injection e9 with e8 e9
  subst e8 e9
  obtain ⟨xn, xt, xv, xb⟩ := x
  simp only [Nat.zero_add] at c0 c1 c2
  have hox := h2.by_ _ (List.mem_of_getElem? HX.out)
  obtain ⟨Ax, cx, e9, _, _⟩ := owned_slice hox.own
  simp only at e9
  subst e9
  have kz2 : Blk w2 z 55 #[.bool true, .int .i64 last, .slice (some ⟨g, 0, none⟩) ls.length c] := h2.blk
  have z2 : w2.cell? ⟨z, 2, none⟩ = some (.slice (some ⟨g, 0, none⟩) ls.length c) := kz2.cell 2
  have hii : (i : Int) < (ls.length : Int) := by have := HI.out; omega
  have hi5 : (i : Int) < 512 := by have := h2.le; omega
  have kx := Blk.new w2 31 #[.int .i64 xn, .int .i64 xt, .slice Ax xb.length cx]
  have hb3 := (Below.refl w2.heap.size w2).alloc (Nat.le_refl _) (.cells #[.int .i64 xn, .int .i64 xt, .slice Ax xb.length cx] 31)
  have kr2 := (KR.out.later hb2).alloc (.cells #[.int .i64 xn, .int .i64 xt, .slice Ax xb.length cx] 31)
  have hrx : w.heap.size ≠ w2.heap.size := by have := (KR.out.later hb2).lt; omega
  have z2a : (w2.alloc (.cells #[.int .i64 xn, .int .i64 xt, .slice Ax xb.length cx] 31)).cell? ⟨z, 2, none⟩ = some (.slice (some ⟨g, 0, none⟩) ls.length c) := (World.cell?_alloc_lt w2 _ _ h2.blk.lt).trans z2
  obtain ⟨w3, hw3⟩ : ∃ w3, w3 = w2.alloc (.cells #[.int .i64 xn, .int .i64 xt, .slice Ax xb.length cx] 31) := ⟨_, rfl⟩
  rw [← hw3] at kx hb3 kr2
  have h3 := h2.later hb3
  have hrz : w.heap.size ≠ z := fun e => by have := H.out.blk.lt; omega
  have hxz : w2.heap.size ≠ z := fun e => by have := h2.blk.lt; omega
  have hgw : g < w.heap.size := (H.out.own.lt g rfl).2
  have hd := delete44 i HI.out h3.le h3.own (ltc_one h3.by_)
  have HD := hid hd
  have H2 := hid h2
  have H3 := hid h3
  have HB3 := hid ((HB.out.trans (hb2.mono HB.out.size)).trans (hb3.mono (by have := hb2.size; have := HB.out.size; omega)))
  have KX := hid kx
  have KR3 := hid kr2
  have HOX := hid (hox.later hb3)
  have HXZ := hid hxz
  have HRZ := hid hrz
  have HRX := hid hrx
  have HGW := hid hgw
  have HSZ := hid (show w.heap.size ≤ w2.heap.size by have := hb2.size; have := HB.out.size; omega)
  clear h2 hb2 kz2 kx hb3 kr2 h3 hd hox hrz hxz hrx hgw
  go_wp2_with (go_at_call 44; refine stop_ (fun Ps hPs => ?_))
  refine hPs ?_
  clear hPs Ps c0 c1 c2 z2 z2a
  rw [← hw3]
  clear hw3
  refine HD.out.mono ?_
  rintro e w4 ⟨rfl, ho4, hg4⟩
  have kz4 : Blk w4 z 55 #[.bool true, .int .i64 last, .slice (some ⟨g, 0, none⟩) ls.length c] := H3.out.blk.gb hg4 (fun e => H3.out.ne z e.symm rfl)
  have z2 : w4.cell? ⟨z, 2, none⟩ = some (.slice (some ⟨g, 0, none⟩) ls.length c) := kz4.cell 2
  have zf := kz4.frozen 2
  have kx4 : Blk w4 w2.heap.size 31 #[.int .i64 xn, .int .i64 xt, .slice Ax xb.length cx] := KX.out.gb hg4 (fun e => by injection e with e; have := HGW.out; have := HSZ.out; omega)
  have kr4 : Blk w4 w.heap.size 31 zc := KR3.out.gb hg4 (fun e => by injection e with e; have := HGW.out; omega)
  have hL := put_lx (ls' := ls.eraseIdx i) H3.out (Two.of_r hg4) kz4 (by rw [List.length_eraseIdx_of_lt HI.out]; exact ho4) (by rw [List.length_eraseIdx_of_lt HI.out]; have := H3.out.le; omega) (fun x hx => (List.eraseIdx_sublist ls i).subset hx)
  have hO5 : Own1 B (w4.setCell ⟨z, 2, none⟩ (.slice (some ⟨g, 0, none⟩) (ls.length - 1) c)) ⟨xn, xt, .slice Ax xb.length cx, xb⟩ := HOX.out.keep (H3.out.bytes HOX.out.own hL.2)
  have kx5 : Blk (w4.setCell ⟨z, 2, none⟩ (.slice (some ⟨g, 0, none⟩) (ls.length - 1) c)) w2.heap.size 31 #[.int .i64 xn, .int .i64 xt, .slice Ax xb.length cx] := kx4.far HXZ.out _
  have kr5 : Blk (w4.setCell ⟨z, 2, none⟩ (.slice (some ⟨g, 0, none⟩) (ls.length - 1) c)) w.heap.size 31 zc := kr4.far HRZ.out _
  obtain ⟨w5, hw5⟩ : ∃ w5, w5 = w4.setCell ⟨z, 2, none⟩ (.slice (some ⟨g, 0, none⟩) (ls.length - 1) c) := ⟨_, rfl⟩
  have HL5 := hid (show (LX F false w5 B z last (.slice (some ⟨g, 0, none⟩) (ls.length - 1) c) (ls.eraseIdx i) ∧ Two z (Value.slice (some ⟨g, 0, none⟩) ls.length c).ownBlock w3 w5) ∧ Own1 B w5 ⟨xn, xt, .slice Ax xb.length cx, xb⟩ ∧ Blk w5 w2.heap.size 31 #[.int .i64 xn, .int .i64 xt, .slice Ax xb.length cx] ∧ Blk w5 w.heap.size 31 zc by rw [hw5]; exact ⟨hL, hO5, kx5, kr5⟩)
  clear hL kx4 kr4 kz4 ho4 hg4 kx5 kr5 hO5
  go_upto_region 8 with (fail)
  rw [← hw5]
  clear hw5 z2 zf
  obtain ⟨hL5, hO5, kx5, kr5⟩ := HL5.out
  have b0 : w5.cell? ⟨w2.heap.size, 0, none⟩ = some (.int .i64 xn) := kx5.cell 0
  have b1 : w5.cell? ⟨w2.heap.size, 1, none⟩ = some (.int .i64 xt) := kx5.cell 1
  have b2 : w5.cell? ⟨w2.heap.size, 2, none⟩ = some (.slice Ax xb.length cx) := kx5.cell 2
  have r0 : w5.cell? ⟨w.heap.size, 0, none⟩ = some (.int .i64 0) := kr5.cell 0
  have r1 : w5.cell? ⟨w.heap.size, 1, none⟩ = some (.int .i64 0) := kr5.cell 1
  have r2 : w5.cell? ⟨w.heap.size, 2, none⟩ = some (.slice none 0 0) := kr5.cell 2
  have y0 := kr5.frozen 0
  have y1 := kr5.frozen 1
  have y2 := kr5.frozen 2
  clear hL5 hO5 kx5 kr5
  go_wp2_with fail
  refine bodyPost_ret (by simp [results, Try.results30, go_sem, r0, r1, r2]; try rfl) rfl ?_
  obtain ⟨hL5, hO5, kx5, kr5⟩ := HL5.out
  have hg := gb_setCell (p := ⟨w.heap.size, 2, none⟩) (.slice Ax xb.length cx) (gb_setCell (p := ⟨w.heap.size, 1, none⟩) (.int .i64 xt) (gb_setCell (p := ⟨w.heap.size, 0, none⟩) (.int .i64 xn) (World.grownBy.refl w5 (some w.heap.size))))
  have hT : Two z (Value.slice (some ⟨g, 0, none⟩) ls.length c).ownBlock w w5 := (Two.of_below HB3.out).trans hL5.2 (fun g hg => .inl hg)
  refine ⟨rfl, ⟨_, _, rfl, hL5.1.other hg kr5 (fun b hb e => ?_), hT.trans (Two.of_r hg) (fun b hb => .inr (by cases hb; exact Nat.le_refl _)), fun b hb => .inl hb⟩, hO5.keep (owned_gb hO5.own hg fun b h1 h2 => owned_blk_ne hO5.own kr5 (by decide) b h1 (Option.some.inj h2))⟩
  have e' : b = w.heap.size := e
  simp [Value.ownBlock] at hb
  have := HGW.out
  omega
end Go.Proofs.Ytigedoonhmaghaa
