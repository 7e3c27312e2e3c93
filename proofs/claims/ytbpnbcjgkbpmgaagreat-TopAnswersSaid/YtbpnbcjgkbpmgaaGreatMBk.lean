/- A primary answers without waiting for the other site, as many times as its leash allows: of any acts. No condition. (part 37) -/
import Derived.Deep.Cut
import Derived.Test.YtbpnbcjgkbpmgaaGreatMBj
namespace Go.Proofs.YtbpnbcjgkbpmgaaGreat.Lk
open Go.RowKit Go.Lg
variable {F : Nat → Prop}
set_option linter.unusedVariables false
set_option linter.unusedSimpArgs false
def nolt : Lt := ⟨0, 0, .slice none 0 0, []⟩
abbrev zc : Array Value := #[.int .i64 0, .int .i64 0, .slice none 0 0]
def TookNo (F : Nat → Prop) (rf : Bool) (B z : Nat) (sv : Value) (last : Int) (ks : List Key) (w : World) (e : Ending) (w' : World) : Prop := e = .returned (lv nolt 4) ∧ Left F rf B z sv last ks w w'
def TookAt (F : Nat → Prop) (rf : Bool) (B z : Nat) (sv : Value) (last : Int) (ls : List Lt) (i : Nat) (x : Lt) (w : World) (e : Ending) (w' : World) : Prop := e = .returned (lv x 0) ∧ Left F rf B z sv last ((ls.eraseIdx i).map Lt.k) w w' ∧ Own1 B w' x
theorem fxi_some {n : Int} {ls : List Lt} {i : Nat} (h : fx n (ls.map Lt.k) = some i) : fxi n ls = i := by simp only [fxi, h]
theorem fxi_none {n : Int} {ls : List Lt} (h : fx n (ls.map Lt.k) = none) : fxi n ls = -1 := by simp only [fxi, h]
theorem fx_lt {n : Int} {ls : List Lt} {i : Nat} (h : fx n (ls.map Lt.k) = some i) : ∃ x, ls[i]? = some x ∧ i < ls.length := by
  have := (List.findIdx?_eq_some_iff_getElem.1 h).1
  simp only [List.length_map] at this
  exact ⟨ls[i], List.getElem?_eq_getElem this, this⟩
set_option maxHeartbeats 4000000 in
set_option maxRecDepth 100000 in
theorem taken30_no {B z : Nat} {last : Int} {sv : Value} {ls : List Lt} {w : World} (h : LX F false w B z last sv ls) (n : Int) (hx : fx n (ls.map Lt.k) = none) :
    Calls Tryz.prog 50 #[P z, .int .i64 n] w (TookNo F false B z sv last (ls.map Lt.k) w) := by
  have hb := (Below.refl w.heap.size w).alloc (Nat.le_refl _) (.cells zc 102)
  have kr := Blk.new w 102 zc
  obtain ⟨W, hW⟩ : ∃ W, W = w.alloc (.cells zc 102) := ⟨_, rfl⟩
  rw [← hW] at hb kr
  have hW' : W = w.alloc (.cells #[.int .i64 0, .int .i64 0, .slice none 0 0] 102) := hW
  have h1 := h.later hb
  have HN := hid (none27 h1)
  have hf := find29 h1 n
  unfold Place at hf
  rw [fxi_none hx] at hf
  have HF := hid hf
  have HB := hid hb
  have H1 := hid h
  have KR := hid kr
  clear h hb kr h1 hx hf hW
  go_enter Tryz.func50, Tryz.ntmps50
  go_wp2_with (go_at_call 47; refine stop_ (fun Ps hPs => ?_))
  refine hPs ?_
  clear hPs Ps
  rw [← hW']
  clear hW'
  refine HN.out.mono ?_
  rintro e w1 ⟨rfl, h9⟩
  subst h9
  go_wp2_with (go_at_call 48; refine stop_ (fun Ps hPs => ?_))
  refine hPs ?_
  clear hPs Ps
  refine HF.out.mono ?_
  rintro e w2 ⟨rfl, hb2⟩
  have kr2 := KR.out.later hb2
  have r0 : w2.cell? ⟨w.heap.size, 0, none⟩ = some (.int .i64 0) := kr2.cell 0
  have r1 : w2.cell? ⟨w.heap.size, 1, none⟩ = some (.int .i64 0) := kr2.cell 1
  have r2 : w2.cell? ⟨w.heap.size, 2, none⟩ = some (.slice none 0 0) := kr2.cell 2
  have y0 := kr2.frozen 0
  have y1 := kr2.frozen 1
  have y2 := kr2.frozen 2
  have HB2 := hid (HB.out.trans (hb2.mono HB.out.size))
  clear kr2 hb2
  go_wp2_with fail
  refine bodyPost_ret (by simp [results, Tryz.results50, go_sem, r0, r1, r2]; try rfl) rfl ?_
  refine ⟨rfl, Left.same H1.out ?_⟩
  exact ((HB2.out.setCell (p := ⟨w.heap.size, 0, none⟩) (Nat.le_refl _) _).setCell (p := ⟨w.heap.size, 1, none⟩) (Nat.le_refl _) _).setCell (p := ⟨w.heap.size, 2, none⟩) (Nat.le_refl _) _
set_option maxHeartbeats 4000000 in
set_option maxRecDepth 100000 in
theorem taken30_at {B z : Nat} {last : Int} {sv : Value} {ls : List Lt} {w : World} (h : LX F false w B z last sv ls) (n : Int) {i : Nat} {x : Lt} (hx : fx n (ls.map Lt.k) = some i) (hxi : ls[i]? = some x) :
    Calls Tryz.prog 50 #[P z, .int .i64 n] w (TookAt F false B z sv last ls i x w) := by
  have hb := (Below.refl w.heap.size w).alloc (Nat.le_refl _) (.cells zc 102)
  have kr := Blk.new w 102 zc
  obtain ⟨W, hW⟩ : ∃ W, W = w.alloc (.cells zc 102) := ⟨_, rfl⟩
  rw [← hW] at hb kr
  have hW' : W = w.alloc (.cells #[.int .i64 0, .int .i64 0, .slice none 0 0] 102) := hW
  have h1 := h.later hb
  have HN := hid (none27 h1)
  have hf := find29 h1 n
  unfold Place at hf
  rw [fxi_some hx] at hf
  have hi : i < ls.length := (List.getElem?_eq_some_iff.1 hxi).1
  have HF := hid hf
  have HB := hid hb
  have H := hid h
  have H1 := hid h1
  have KR := hid kr
  have HX := hid hxi
  have HI := hid hi
  clear h hb kr h1 hx hf hW hxi hi
  go_enter Tryz.func50, Tryz.ntmps50
  go_wp2_with (go_at_call 47; refine stop_ (fun Ps hPs => ?_))
  refine hPs ?_
  clear hPs Ps
  rw [← hW']
  clear hW'
  refine HN.out.mono ?_
  rintro e w1 ⟨rfl, h9⟩
  subst h9
  go_wp2_with (go_at_call 48; refine stop_ (fun Ps hPs => ?_))
  refine hPs ?_
  clear hPs Ps
  refine HF.out.mono ?_
  rintro e w2 ⟨rfl, hb2⟩
  have h2 := H1.out.later hb2
  obtain ⟨g, c, rfl⟩ : ∃ g c, sv = .slice (some ⟨g, 0, none⟩) ls.length c := by
    rcases owned_form0 h2.own with ⟨_, e⟩ | e
    · have := HI.out; omega
    · exact e
  obtain ⟨g', off', e9, hg, c0, c1, c2⟩ := ltAt (Rd.of_own h2.own) HX.out
  injection e9 with e9
  injection e9 with e8 e9
  subst e8 e9
  obtain ⟨xn, xt, xv, xb⟩ := x
  simp only [Nat.zero_add] at c0 c1 c2
  have hox := h2.by_ _ (List.mem_of_getElem? HX.out)
  obtain ⟨Ax, cx, e9, _, _⟩ := owned_slice hox.own
  simp only at e9
  subst e9
  have kz2 : Blk w2 z 113 #[.bool true, .int .i64 last, .slice (some ⟨g, 0, none⟩) ls.length c] := h2.blk
  have z2 : w2.cell? ⟨z, 2, none⟩ = some (.slice (some ⟨g, 0, none⟩) ls.length c) := kz2.cell 2
  have hii : (i : Int) < (ls.length : Int) := by have := HI.out; omega
  have hi5 : (i : Int) < 512 := by have := h2.le; omega
  have kx := Blk.new w2 102 #[.int .i64 xn, .int .i64 xt, .slice Ax xb.length cx]
  have hb3 := (Below.refl w2.heap.size w2).alloc (Nat.le_refl _) (.cells #[.int .i64 xn, .int .i64 xt, .slice Ax xb.length cx] 102)
  have kr2 := (KR.out.later hb2).alloc (.cells #[.int .i64 xn, .int .i64 xt, .slice Ax xb.length cx] 102)
  have hrx : w.heap.size ≠ w2.heap.size := by have := (KR.out.later hb2).lt; omega
  have z2a : (w2.alloc (.cells #[.int .i64 xn, .int .i64 xt, .slice Ax xb.length cx] 102)).cell? ⟨z, 2, none⟩ = some (.slice (some ⟨g, 0, none⟩) ls.length c) := (World.cell?_alloc_lt w2 _ _ h2.blk.lt).trans z2
  obtain ⟨w3, hw3⟩ : ∃ w3, w3 = w2.alloc (.cells #[.int .i64 xn, .int .i64 xt, .slice Ax xb.length cx] 102) := ⟨_, rfl⟩
  rw [← hw3] at kx hb3 kr2
  have h3 := h2.later hb3
  have hrz : w.heap.size ≠ z := fun e => by have := H.out.blk.lt; omega
  have hxz : w2.heap.size ≠ z := fun e => by have := h2.blk.lt; omega
  have hgw : g < w.heap.size := (H.out.own.lt g rfl).2
  have hd := delete44 i HI.out h3.le h3.own (ltc_one h3.by_)
  have HD := hid hd
  have H2 := hid h2
  have H3 := hid h3
  have HB3 := hid ((HB.out.trans (hb2.mono HB.out.size)).trans (hb3.mono (by have := hb2.size; have := HB.out.size; omega)))
  have KX := hid kx
  have KR3 := hid kr2
  have HOX := hid (hox.later hb3)
  have HXZ := hid hxz
  have HRZ := hid hrz
  have HRX := hid hrx
  have HGW := hid hgw
  have HSZ := hid (show w.heap.size ≤ w2.heap.size by have := hb2.size; have := HB.out.size; omega)
  clear h2 hb2 kz2 kx hb3 kr2 h3 hd hox hrz hxz hrx hgw
  go_wp2_with (go_at_call 86; refine stop_ (fun Ps hPs => ?_))
  refine hPs ?_
  clear hPs Ps c0 c1 c2 z2 z2a
  rw [← hw3]
  clear hw3
  refine HD.out.mono ?_
  rintro e w4 ⟨rfl, ho4, hg4⟩
  have kz4 : Blk w4 z 113 #[.bool true, .int .i64 last, .slice (some ⟨g, 0, none⟩) ls.length c] := H3.out.blk.gb hg4 (fun e => H3.out.ne z e.symm rfl)
  have z2 : w4.cell? ⟨z, 2, none⟩ = some (.slice (some ⟨g, 0, none⟩) ls.length c) := kz4.cell 2
  have zf := kz4.frozen 2
  have kx4 : Blk w4 w2.heap.size 102 #[.int .i64 xn, .int .i64 xt, .slice Ax xb.length cx] := KX.out.gb hg4 (fun e => by injection e with e; have := HGW.out; have := HSZ.out; omega)
  have kr4 : Blk w4 w.heap.size 102 zc := KR3.out.gb hg4 (fun e => by injection e with e; have := HGW.out; omega)
  have hL := put_lx (ls' := ls.eraseIdx i) H3.out (Two.of_r hg4) kz4 (by rw [List.length_eraseIdx_of_lt HI.out]; exact ho4) (by rw [List.length_eraseIdx_of_lt HI.out]; have := H3.out.le; omega) (fun x hx => (List.eraseIdx_sublist ls i).subset hx)
  have hO5 : Own1 B (w4.setCell ⟨z, 2, none⟩ (.slice (some ⟨g, 0, none⟩) (ls.length - 1) c)) ⟨xn, xt, .slice Ax xb.length cx, xb⟩ := HOX.out.keep (H3.out.bytes HOX.out.own hL.2)
  have kx5 : Blk (w4.setCell ⟨z, 2, none⟩ (.slice (some ⟨g, 0, none⟩) (ls.length - 1) c)) w2.heap.size 102 #[.int .i64 xn, .int .i64 xt, .slice Ax xb.length cx] := kx4.far HXZ.out _
  have kr5 : Blk (w4.setCell ⟨z, 2, none⟩ (.slice (some ⟨g, 0, none⟩) (ls.length - 1) c)) w.heap.size 102 zc := kr4.far HRZ.out _
  obtain ⟨w5, hw5⟩ : ∃ w5, w5 = w4.setCell ⟨z, 2, none⟩ (.slice (some ⟨g, 0, none⟩) (ls.length - 1) c) := ⟨_, rfl⟩
  have HL5 := hid (show (LX F false w5 B z last (.slice (some ⟨g, 0, none⟩) (ls.length - 1) c) (ls.eraseIdx i) ∧ Two z (Value.slice (some ⟨g, 0, none⟩) ls.length c).ownBlock w3 w5) ∧ Own1 B w5 ⟨xn, xt, .slice Ax xb.length cx, xb⟩ ∧ Blk w5 w2.heap.size 102 #[.int .i64 xn, .int .i64 xt, .slice Ax xb.length cx] ∧ Blk w5 w.heap.size 102 zc by rw [hw5]; exact ⟨hL, hO5, kx5, kr5⟩)
  clear hL kx4 kr4 kz4 ho4 hg4 kx5 kr5 hO5
  go_upto_region 8 with (fail)
  rw [← hw5]
  clear hw5 z2 zf
  obtain ⟨hL5, hO5, kx5, kr5⟩ := HL5.out
  have b0 : w5.cell? ⟨w2.heap.size, 0, none⟩ = some (.int .i64 xn) := kx5.cell 0
  have b1 : w5.cell? ⟨w2.heap.size, 1, none⟩ = some (.int .i64 xt) := kx5.cell 1
  have b2 : w5.cell? ⟨w2.heap.size, 2, none⟩ = some (.slice Ax xb.length cx) := kx5.cell 2
  have r0 : w5.cell? ⟨w.heap.size, 0, none⟩ = some (.int .i64 0) := kr5.cell 0
  have r1 : w5.cell? ⟨w.heap.size, 1, none⟩ = some (.int .i64 0) := kr5.cell 1
  have r2 : w5.cell? ⟨w.heap.size, 2, none⟩ = some (.slice none 0 0) := kr5.cell 2
  have y0 := kr5.frozen 0
  have y1 := kr5.frozen 1
  have y2 := kr5.frozen 2
  clear hL5 hO5 kx5 kr5
  go_wp2_with fail
  refine bodyPost_ret (by simp [results, Tryz.results50, go_sem, r0, r1, r2]; try rfl) rfl ?_
  obtain ⟨hL5, hO5, kx5, kr5⟩ := HL5.out
  have hg := gb_setCell (p := ⟨w.heap.size, 2, none⟩) (.slice Ax xb.length cx) (gb_setCell (p := ⟨w.heap.size, 1, none⟩) (.int .i64 xt) (gb_setCell (p := ⟨w.heap.size, 0, none⟩) (.int .i64 xn) (World.grownBy.refl w5 (some w.heap.size))))
  have hT : Two z (Value.slice (some ⟨g, 0, none⟩) ls.length c).ownBlock w w5 := (Two.of_below HB3.out).trans hL5.2 (fun g hg => .inl hg)
  refine ⟨rfl, ⟨_, _, rfl, hL5.1.other hg kr5 (fun b hb e => ?_), hT.trans (Two.of_r hg) (fun b hb => .inr (by cases hb; exact Nat.le_refl _)), fun b hb => .inl hb⟩, hO5.keep (owned_gb hO5.own hg fun b h1 h2 => owned_blk_ne hO5.own kr5 (by decide) b h1 (Option.some.inj h2))⟩
  have e' : b = w.heap.size := e
  simp [Value.ownBlock] at hb
  have := HGW.out
  omega
end Go.Proofs.YtbpnbcjgkbpmgaaGreat.Lk
namespace Go.Proofs.YtbpnbcjgkbpmgaaGreat.Lk
open Go.RowKit Go.Lg
variable {F : Nat → Prop}
set_option linter.unusedVariables false
set_option linter.unusedSimpArgs false
def dE (n : Int) (ks : List Key) : Int := match fx n ks with | none => 4 | some _ => 0
def dX (n : Int) (ks : List Key) : Key := match fx n ks with | none => (0, 0, []) | some i => ks.getD i (0, 0, [])
def dK (n : Int) (ks : List Key) : List Key := match fx n ks with | none => ks | some i => ks.eraseIdx i
def Gets (F : Nat → Prop) (rf : Bool) (B z : Nat) (sv : Value) (last n : Int) (ks : List Key) (w : World) (e : Ending) (w' : World) : Prop :=
  ∃ x : Lt, x.k = dX n ks ∧ e = .returned (lv x (dE n ks)) ∧ Left F rf B z sv last (dK n ks) w w' ∧ w'.ownsRow B 5 1 x.v x.b.length (bts x.b) ∧ x.b.length ≤ 1000000000
def Drops (F : Nat → Prop) (rf : Bool) (B z : Nat) (sv : Value) (last n : Int) (ks : List Key) (w : World) (e : Ending) (w' : World) : Prop :=
  e = .returned (.int .i64 (dE n ks)) ∧ Left F rf B z sv last (dK n ks) w w'
theorem map_eraseIdx {α β : Type} (f : α → β) : ∀ (l : List α) (i : Nat), (l.eraseIdx i).map f = (l.map f).eraseIdx i
  | [], i => by simp
  | a :: l, 0 => rfl
  | a :: l, i + 1 => by simp [map_eraseIdx f l i]
section
variable {rf : Bool} {B z : Nat} {sv : Value} {last n : Int} {ls : List Lt} {w w' : World} {e : Ending}
theorem gets_no (hx : fx n (ls.map Lt.k) = none) (h : TookNo F rf B z sv last (ls.map Lt.k) w e w') : Gets F rf B z sv last n (ls.map Lt.k) w e w' := by
  refine ⟨nolt, ?_, ?_, ?_, World.ownsRow_nil _ _ _ _, by simp [nolt]⟩
  · simp only [dX, hx]; rfl
  · simp only [dE, hx]; exact h.1
  · simp only [dK, hx]; exact h.2
theorem gets_at {i : Nat} {x : Lt} (hx : fx n (ls.map Lt.k) = some i) (hi : ls[i]? = some x) (h : TookAt F rf B z sv last ls i x w e w') : Gets F rf B z sv last n (ls.map Lt.k) w e w' := by
  refine ⟨x, ?_, ?_, ?_, h.2.2.own, h.2.2.le⟩
  · simp only [dX, hx]
    rw [List.getD_eq_getElem?_getD, List.getElem?_map, hi]
    rfl
  · simp only [dE, hx]; exact h.1
  · simp only [dK, hx]
    rw [← map_eraseIdx]
    exact h.2.1
end
theorem took30 {B z : Nat} {last : Int} {sv : Value} {ls : List Lt} {w : World} (h : LX F false w B z last sv ls) (n : Int) : Calls Tryz.prog 50 #[P z, .int .i64 n] w (Gets F false B z sv last n (ls.map Lt.k) w) := by
  cases hx : fx n (ls.map Lt.k) with
  | none => exact (taken30_no h n hx).mono fun e w' k => gets_no hx k
  | some i =>
    obtain ⟨x, hi, _⟩ := fx_lt hx
    exact (taken30_at h n hx hi).mono fun e w' k => gets_at hx hi k
theorem Left.storeR {rf : Bool} {B z R : Nat} {sv : Value} {last last' : Int} {ls : List Lt} {ks' : List Key} {w W w2 : World} (hL : LX F rf w B z last sv ls) (hb : Below w.heap.size w W) (hR : Blk W R 102 zc) (hRw : w.heap.size ≤ R) (h : Left F rf B z sv last' ks' W w2) :
    Blk w2 R 102 zc ∧ ∀ w3, w2.grownBy w3 (some R) → Left F rf B z sv last' ks' w w3 := by
  have hs : ∀ g, sv.ownBlock = some g → g < w.heap.size := fun g hg => (hL.own.lt g hg).2
  have hz : R ≠ z := fun e => by have := hL.blk.lt; omega
  obtain ⟨sv', ls', h0, h1, h2, h3⟩ := h
  have hR2 : Blk w2 R 102 zc := blk_two hR h2 hz (fun b hb e => by have := hs b hb; omega)
  refine ⟨hR2, fun w3 hg => ?_⟩
  have hT : Two z sv.ownBlock w w2 := (Two.of_below hb).trans h2 (fun g hg => .inl hg)
  refine ⟨sv', ls', h0, h1.other hg hR2 (fun g hg9 e => ?_), hT.trans (Two.of_r hg) (fun g hg9 => .inr (by injection hg9 with hg9; omega)), fun g hg9 => ?_⟩
  · have := hR.lt
    rcases h3 g hg9 with h4 | h4
    · have := hs g h4; omega
    · omega
  · rcases h3 g hg9 with h4 | h4
    · exact .inl h4
    · exact .inr (Nat.le_trans hb.size h4)
theorem bytes_gb {b n R : Nat} {v : Value} {xs cs : List Value} {w2 w3 : World} (h : w2.ownsRow b 5 1 v n xs) (hR : Blk w2 R 102 zc) (hg : w2.grownBy w3 (some R)) : w3.ownsRow b 5 1 v n xs :=
  owned_gb h hg fun g h1 h2 => owned_blk_ne h hR (by decide) g h1 (Option.some.inj h2)
set_option maxHeartbeats 4000000 in
set_option maxRecDepth 100000 in
theorem deliver12 {B z : Nat} {last : Int} {sv : Value} {ls : List Lt} {w : World} (h : LX F false w B z last sv ls) (n : Int) : Calls Tryz.prog 43 #[P z, .int .i64 n] w (Gets F false B z sv last n (ls.map Lt.k) w) := by
  have hb := (Below.refl w.heap.size w).alloc (Nat.le_refl _) (.cells zc 102)
  have kr := Blk.new w 102 zc
  obtain ⟨W, hW⟩ : ∃ W, W = w.alloc (.cells zc 102) := ⟨_, rfl⟩
  rw [← hW] at hb kr
  have hW' : W = w.alloc (.cells #[.int .i64 0, .int .i64 0, .slice none 0 0] 102) := hW
  have HT := hid (took30 (h.later hb) n)
  have HB := hid hb
  have H := hid h
  have KR := hid kr
  clear h hb kr hW
  go_enter Tryz.func43, Tryz.ntmps43
  go_wp2_with (go_at_call 50; refine stop_ (fun Ps hPs => ?_))
  refine hPs ?_
  clear hPs Ps
  rw [← hW']
  clear hW'
  refine HT.out.mono ?_
  rintro e w2 ⟨x, hx, rfl, hL, hv, h40⟩
  obtain ⟨hR2, hL2⟩ := hL.storeR H.out HB.out KR.out (Nat.le_refl _)
  obtain ⟨xn, xt, xv, xb⟩ := x
  obtain ⟨Ax, cx, e9, _, _⟩ := owned_slice hv
  simp only at e9
  subst e9
  have r0 : w2.cell? ⟨w.heap.size, 0, none⟩ = some (.int .i64 0) := hR2.cell 0
  have r1 : w2.cell? ⟨w.heap.size, 1, none⟩ = some (.int .i64 0) := hR2.cell 1
  have r2 : w2.cell? ⟨w.heap.size, 2, none⟩ = some (.slice none 0 0) := hR2.cell 2
  have y0 := hR2.frozen 0
  have y1 := hR2.frozen 1
  have y2 := hR2.frozen 2
  have HX := hid hx
  have HL := hid hL2
  have HR := hid hR2
  have HV := hid hv
  have H4 := hid h40
  clear hx hL hL2 hv hR2 h40
  simp only [lv]
  go_wp2_with fail
  refine bodyPost_ret (by simp [results, Tryz.results43, go_sem, r0, r1, r2]; try rfl) rfl ?_
  have hg := gb_setCell (p := ⟨w.heap.size, 2, none⟩) (.slice Ax xb.length cx) (gb_setCell (p := ⟨w.heap.size, 1, none⟩) (.int .i64 xt) (gb_setCell (p := ⟨w.heap.size, 0, none⟩) (.int .i64 xn) (World.grownBy.refl w2 (some w.heap.size))))
  exact ⟨⟨xn, xt, .slice Ax xb.length cx, xb⟩, HX.out, rfl, HL.out _ hg, bytes_gb (cs := []) HV.out HR.out hg, H4.out⟩
set_option maxHeartbeats 4000000 in
set_option maxRecDepth 100000 in
theorem drop13 {B z : Nat} {last : Int} {sv : Value} {ls : List Lt} {w : World} (h : LX F false w B z last sv ls) (n : Int) : Calls Tryz.prog 25 #[P z, .int .i64 n] w (Drops F false B z sv last n (ls.map Lt.k) w) := by
  have HT := hid (took30 h n)
  clear h
  go_enter Tryz.func25, Tryz.ntmps25
  go_wp2_with (go_at_call 50; refine stop_ (fun Ps hPs => ?_))
  refine hPs ?_
  clear hPs Ps
  refine HT.out.mono ?_
  rintro e w2 ⟨x, hx, rfl, hL, hv, h40⟩
  obtain ⟨xn, xt, xv, xb⟩ := x
  obtain ⟨Ax, cx, e9, _, _⟩ := owned_slice hv
  simp only at e9
  subst e9
  have HL := hid hL
  clear hL hv hx h40
  simp only [lv]
  go_wp2_with fail
  go_ret
  exact ⟨rfl, HL.out.behind ((Below.refl _ _).alloc (Nat.le_refl _) _)⟩
end Go.Proofs.YtbpnbcjgkbpmgaaGreat.Lk
namespace Go.Proofs.YtbpnbcjgkbpmgaaGreat.Lk
open Go.RowKit Go.Lg
variable {F : Nat → Prop}
set_option linter.unusedVariables false
set_option linter.unusedSimpArgs false
end Go.Proofs.YtbpnbcjgkbpmgaaGreat.Lk
namespace Go.Proofs.YtbpnbcjgkbpmgaaGreat.Lk
open Go.RowKit Go.Lg
variable {F : Nat → Prop}
set_option linter.unusedVariables false
set_option linter.unusedSimpArgs false
attribute [local go_sem ↓] Go.wp_at_zero Go.wp_at_succ
def tE (n : Int) (ks : List Key) : Int := match fx n ks with | none => 4 | some i => if ks.length < 512 then 0 else 3
def tR (last n : Int) (ks : List Key) : Int := if tE n ks = 0 then last + 1 else 0
def tL (last n : Int) (ks : List Key) : Int := if tE n ks = 0 then last + 1 else last
def tK (last n : Int) (ks : List Key) : List Key := if tE n ks = 0 then ks ++ [(last + 1, (dX n ks).2)] else ks
def Twices (F : Nat → Prop) (rf : Bool) (B z : Nat) (sv : Value) (last n : Int) (ks : List Key) (w : World) (e : Ending) (w' : World) : Prop := Send F rf B z sv (tR last n ks) (tE n ks) (tL last n ks) (tK last n ks) w e w'
section
variable {rf : Bool} {B z : Nat} {sv : Value} {last n : Int} {ls : List Lt} {w w' : World} {en : Ending}
theorem twice_no (hx : fx n (ls.map Lt.k) = none) (k : Send F rf B z sv 0 4 last (ls.map Lt.k) w en w') : Twices F rf B z sv last n (ls.map Lt.k) w en w' := by
  have e : tE n (ls.map Lt.k) = 4 := by simp only [tE, hx]
  simp only [Twices, tR, tL, tK, e]
  exact k
theorem twice_some {i : Nat} {x : Lt} (hx : fx n (ls.map Lt.k) = some i) (hi : ls[i]? = some x) (ht : x.to = 0 ∨ x.to = 1) (k : Sends F rf B z sv last x.to x.b (ls.map Lt.k) w en w') : Twices F rf B z sv last n (ls.map Lt.k) w en w' := by
  have h' : ¬(x.to ≠ 0 ∧ x.to ≠ 1) := by omega
  have e1 : tE n (ls.map Lt.k) = sE x.to (ls.map Lt.k) := by simp only [tE, hx, sE, if_neg h']
  have e2 : dX n (ls.map Lt.k) = x.k := by
    simp only [dX, hx]
    rw [List.getD_eq_getElem?_getD, List.getElem?_map, hi]
    rfl
  simp only [Twices, tR, tL, tK, e1, e2]
  exact k
end
theorem put28 {B z : Nat} {last : Int} {sv : Value} {ls : List Lt} {w : World} (h : LX F false w B z last sv ls) (h0 : 0 ≤ last) (h1 : last ≤ 4611686018427387904)
    (to : Int) (ht : to = 0 ∨ to = 1) (A : Option Addr) (n c : Nat) (b : List UInt8) (hr : Rd w w.heap.size 1 A n (bts b)) (h40 : b.length ≤ 1000000000) :
    Calls Tryz.prog 49 #[P z, .int .i64 to, .slice A n c] w (Sends F false B z sv last to b (ls.map Lt.k) w) := by
  by_cases hlt : ls.length < 512
  · exact (put28_ok h hlt h0 h1 to ht A n c b hr h40).mono fun e w' k => sends_ok ht (by simpa using hlt) k
  · exact (put28_long h hlt to A n c).mono fun e w' k => sends_long ht (by simpa using hlt) k
set_option maxHeartbeats 4000000 in
set_option maxRecDepth 100000 in
theorem twice11 {B z : Nat} {last : Int} {sv : Value} {ls : List Lt} {w : World} (h : LX F false w B z last sv ls) (h0 : 0 ≤ last) (h1 : last ≤ 4611686018427387904) (n : Int) :
    Calls Tryz.prog 24 #[P z, .int .i64 n] w (Twices F false B z sv last n (ls.map Lt.k) w) := by
  have HN := hid (none27 h)
  have hf := find29 h n
  unfold Place at hf
  cases hx : fx n (ls.map Lt.k) with
  | none =>
    rw [fxi_none hx] at hf
    have HF := hid hf
    have H := hid h
    have HX := hid hx
    clear h hf hx
    go_enter Tryz.func24, Tryz.ntmps24
    go_wp2_with (go_at_call 47; refine HN.out.mono ?_; rintro e w1 ⟨rfl, rfl⟩)
    refine HF.out.mono ?_
    rintro e w2 ⟨rfl, hb2⟩
    have HS := hid (Left.same H.out hb2)
    clear hb2
    go_wp2_with fail
    refine bodyPost_ret (results_tmp2 rfl _ _ _) rfl ?_
    exact twice_no HX.out (send_eq rfl HS.out)
  | some i =>
    obtain ⟨x, hi, hlt⟩ := fx_lt hx
    rw [fxi_some hx] at hf
    have HF := hid hf
    have H := hid h
    have HX := hid (And.intro hx hi)
    have HI := hid hlt
    have H0 := hid (And.intro h0 h1)
    clear h hf hx hi h0 h1 hlt
    go_enter Tryz.func24, Tryz.ntmps24
    go_wp2_with (go_at_call 47; refine HN.out.mono ?_; rintro e w1 ⟨rfl, rfl⟩)
    refine HF.out.mono ?_
    rintro e w2 ⟨rfl, hb2⟩
    have h2 := H.out.later hb2
    obtain ⟨g, c, rfl⟩ : ∃ g c, sv = .slice (some ⟨g, 0, none⟩) ls.length c := by
      rcases owned_form0 h2.own with ⟨_, e⟩ | e
      · have := HI.out; omega
      · exact e
    obtain ⟨g', off', e9, hg, c0, c1, c2⟩ := ltAt (Rd.of_own h2.own) HX.out.2
    injection e9 with e9
    injection e9 with e8 e9
    subst e8 e9
    have hox := h2.by_ _ (List.mem_of_getElem? HX.out.2)
    obtain ⟨xn, xt, xv, xb⟩ := x
    obtain ⟨Ax, cx, e9, _, _⟩ := owned_slice hox.own
    simp only at e9
    subst e9
    simp only [Nat.zero_add] at c0 c1 c2
    have kz2 : Blk w2 z 113 #[.bool true, .int .i64 last, .slice (some ⟨g, 0, none⟩) ls.length c] := h2.blk
    have z2 : w2.cell? ⟨z, 2, none⟩ = some (.slice (some ⟨g, 0, none⟩) ls.length c) := kz2.cell 2
    have hii : (i : Int) < (ls.length : Int) := by have := HI.out; omega
    have hi0 : (0 : Int) ≤ (i : Int) := Int.natCast_nonneg _
    have hi5 : (i : Int) < 512 := by have := h2.le; omega
    have hd : LX F false w2.drew B z last (.slice (some ⟨g, 0, none⟩) ls.length c) ls := h2.later ((Below.refl _ w2).drew)
    have HP := hid (put28 hd H0.out.1 H0.out.2 xt hox.to Ax xb.length cx xb (Rd.of_own (hox.later ((Below.refl _ w2).drew)).own) hox.le)
    have K1 := hid (show w2.drew.cell? ⟨z, 2, none⟩ = some (.slice (some ⟨g, 0, none⟩) ls.length c) ∧ w2.drew.cell? ⟨g, i * 3 + 1, none⟩ = some (.int .i64 xt) ∧ w2.drew.cell? ⟨g, i * 3 + 2, none⟩ = some (.slice Ax xb.length cx) from ⟨z2, c1, c2⟩)
    have HB2 := hid hb2
    have HT := hid hox.to
    clear h2 hb2 hox kz2 hd
    go_wp2_with fail
    go_region_law (first | (go_simp; (with_reducible refine HP.out.mono ?_); rintro e3 w3 ⟨rfl, hl3⟩; have HL3 := hid hl3; clear hl3; simp only [two]))
    all_goals
      go_wp2_with fail
      refine bodyPost_ret (results_tmp2 rfl _ _ _) rfl ?_
      exact twice_some HX.out.1 HX.out.2 HT.out ⟨rfl, Left.from_ HB2.out.drew HL3.out⟩
end Go.Proofs.YtbpnbcjgkbpmgaaGreat.Lk
namespace Go.Proofs.YtbpnbcjgkbpmgaaGreat.Lk
open Go.RowKit Go.Lg
variable {F : Nat → Prop}
set_option linter.unusedVariables false
set_option linter.unusedSimpArgs false
def Apart (l : List Lt) : Prop := ∀ (i j : Nat) (x y : Lt), l[i]? = some x → l[j]? = some y → i ≠ j → ∀ g, x.v.ownBlock = some g → y.v.ownBlock ≠ some g
structure Fl (H : Nat) (wr : World) (ls ls' : List Lt) (k : Nat) : Prop where
  len : ls'.length = k
  keys : ls'.map Lt.k = (ls.take k).map Lt.k
  own : ∀ x ∈ ls', Own1 H wr x
  apart : Apart ls'
theorem Fl.start (H : Nat) (wr : World) (ls : List Lt) : Fl H wr ls [] 0 := ⟨rfl, by simp, fun x hx => absurd hx List.not_mem_nil, fun i j x y h => by simp at h⟩
theorem Fl.keep {H : Nat} {w w' : World} {ls ls' : List Lt} {k : Nat} (h : Fl H w ls ls' k) (hk : ∀ x, Own1 H w x → Own1 H w' x) : Fl H w' ls ls' k := ⟨h.len, h.keys, fun x hx => hk x (h.own x hx), h.apart⟩
theorem Fl.snoc {H : Nat} {w w' : World} {ls ls' : List Lt} {k : Nat} {x : Lt} {u : Value} (h : Fl H w ls ls' k) (hx : ls[k]? = some x) (hH : H ≤ w.heap.size) (ho : w'.ownsRow w.heap.size 5 1 u x.b.length (bts x.b)) (hb : Below w.heap.size w w') (h40 : x.b.length ≤ 1000000000) (ht : x.to = 0 ∨ x.to = 1) :
    Fl H w' ls (ls' ++ [⟨x.n, x.to, u, x.b⟩]) (k + 1) := by
  refine ⟨by simp [h.len], ?_, ?_, ?_⟩
  · rw [List.map_append, h.keys, take_succ_get? hx, List.map_append]
    rfl
  · intro y hy
    rw [List.mem_append, List.mem_singleton] at hy
    rcases hy with hy | rfl
    · exact (h.own y hy).later hb
    · exact ⟨owned_less ho hH, h40, ht⟩
  · intro i j a b ha hb2 hij g hg hg2
    have key : ∀ (i j : Nat) (a b : Lt), (ls' ++ [(⟨x.n, x.to, u, x.b⟩ : Lt)])[i]? = some a → (ls' ++ [(⟨x.n, x.to, u, x.b⟩ : Lt)])[j]? = some b → i < j → ∀ g, a.v.ownBlock = some g → b.v.ownBlock = some g → False := by
      intro i j a b ha hb2 hij g hg hg2
      have hj := (List.getElem?_eq_some_iff.1 hb2).1
      simp only [List.length_append, List.length_singleton] at hj
      rw [List.getElem?_append_left (by omega)] at ha
      rcases Nat.lt_or_ge j ls'.length with h1 | h1
      · rw [List.getElem?_append_left h1] at hb2
        exact h.apart i j a b ha hb2 (by omega) g hg hg2
      · obtain rfl : j = ls'.length := by omega
        rw [List.getElem?_append_right (Nat.le_refl _)] at hb2
        simp at hb2
        subst hb2
        have q1 := ((h.own a (List.mem_of_getElem? ha)).own.lt g hg).2
        have q2 := (ho.lt g hg2).1
        omega
    rcases Nat.lt_or_gt_of_ne hij with h1 | h1
    · exact key i j a b ha hb2 h1 g hg hg2
    · exact key j i b a hb2 ha h1 g hg2 hg
def Flown (ls : List Lt) (w : World) (e : Ending) (w' : World) : Prop :=
  ∃ v ls', e = .returned v ∧ w'.ownsRow w.heap.size 102 3 v ls'.length (ltc ls') ∧ Fl w.heap.size w' ls ls' ls.length ∧ Below w.heap.size w w'
theorem ltc_set (a r : List Lt) (x : Lt) (u : Value) : (ltc (a ++ x :: r)).set (a.length * 3 + 2) u = ltc (a ++ ⟨x.n, x.to, u, x.b⟩ :: r) := by
  rw [ltc_app, ltc_app, List.set_append_right _ _ (by rw [ltc_length]; omega), ltc_length, Nat.add_sub_cancel_left, ltc_cons, ltc_cons]
  rfl
theorem drop_get {α : Type} {l : List α} {k : Nat} {x : α} (h : l[k]? = some x) : l.drop k = x :: l.drop (k + 1) := by
  obtain ⟨hk, rfl⟩ := List.getElem?_eq_some_iff.1 h
  exact List.drop_eq_getElem_cons hk
set_option maxHeartbeats 4000000 in
set_option maxRecDepth 100000 in
theorem flight21 {B z : Nat} {last : Int} {sv : Value} {ls : List Lt} {w : World} (h : LX F false w B z last sv ls) : Calls Tryz.prog 88 #[P z] w (Flown ls w) := by
  have HN := hid (none27 h)
  have hone := ltc_one h.by_
  obtain ⟨A, c, rfl, hc1, hc2⟩ := owned_slice h.own
  have kz : Blk w z 113 #[.bool true, .int .i64 last, .slice A ls.length c] := h.blk
  have z2 : w.cell? ⟨z, 2, none⟩ = some (.slice A ls.length c) := kz.cell 2
  have HC := hid (clone37 A c ls w (Rd.of_own h.own) hone h.le)
  have H := hid h
  have h5 := h.le
  obtain ⟨H0, hH0⟩ : ∃ H0, H0 = w.heap.size := ⟨_, rfl⟩
  have HH := hid hH0
  obtain ⟨m, hm⟩ : ∃ m, m = ls.length := ⟨_, rfl⟩
  have HM := hid hm
  rw [← hm] at h5
  clear h hone hc1 hc2 kz hH0 hm
  go_enter Tryz.func88, Tryz.ntmps88
  go_wp2_with (go_at_call 47; refine stop_ (fun Ps hPs => ?_))
  refine hPs ?_
  clear hPs Ps
  refine HN.out.mono ?_
  rintro e w1 ⟨rfl, h9⟩
  subst h9
  go_wp2_with (go_at_call 144; refine stop_ (fun Ps hPs => ?_))
  refine hPs ?_
  clear hPs Ps
  refine HC.out.mono ?_
  rintro e w2 ⟨v2, rfl, ho2, hb2⟩
  rw [← HM.out] at ho2
  have h2 := H.out.later hb2
  rcases owned_form0 ho2 with ⟨rfl, h0⟩ | ⟨g, c2, rfl⟩
  · have HO := hid ho2
    have HB := hid hb2
    clear ho2 hb2 h2
    subst h0
    go_wp2_with fail
    go_loopg [4, 14] 0 (fun gg a b wr => gg = 0 ∧ b = .int .i64 0 ∧ wr = w2)
    case atStart => exact ⟨rfl, rfl, rfl⟩
    case round =>
      obtain ⟨rfl, rfl, rfl⟩ := hrel
      go_wp2_with fail
      go_ret
      have hl : ls = [] := List.length_eq_zero_iff.1 HM.out.symm
      subst hl
      exact ⟨_, [], rfl, HO.out, Fl.start _ _ _, HB.out⟩
  · have hcap := owned_cap ho2
    rw [← HH.out] at ho2 hb2
    have HO := hid ho2
    have HB := hid hb2
    have H2 := hid h2
    clear ho2 hb2 h2
    go_wp2_with fail
    go_loopg [4, 14] m (fun gg a b wr => ∃ (k : Nat) (ls' : List Lt), k ≤ m ∧ gg = m - k ∧ b = .int .i64 k ∧ Hid (wr.ownsRow H0 102 3 (.slice (some ⟨g, 0, none⟩) m c2) m (ltc (ls' ++ ls.drop k))) ∧ Hid (Fl H0 wr ls ls' k) ∧ Hid (Below H0 w1 wr))
    case atStart => exact ⟨0, [], by omega, rfl, rfl, HO, hid (Fl.start _ _ _), HB⟩
    case round =>
      obtain ⟨k, ls', hk, rfl, rfl, HOr, HFr, HBr⟩ := hrel
      by_cases hlt : k < m
      · obtain ⟨x, hx⟩ : ∃ x, ls[k]? = some x := ⟨ls[k]'(by rw [← HM.out]; exact hlt), List.getElem?_eq_getElem _⟩
        have hr := H.out.later (show Below w1.heap.size w1 wr by rw [← HH.out]; exact HBr.out)
        have hox := hr.by_ _ (List.mem_of_getElem? hx)
        have hdr := drop_get hx
        have hxk : (ls' ++ ls.drop k)[k]? = some x := by
          rw [hdr, List.getElem?_append_right (by have := HFr.out.len; omega), HFr.out.len, Nat.sub_self]
          rfl
        obtain ⟨g', off', e9, hg, c0, c1, c2'⟩ := ltAt (Rd.of_own HOr.out) hxk
        injection e9 with e9
        injection e9 with e8 e9
        subst e8 e9
        have hw2 := HOr.out.frozenAt (k * 3 + 2)
        obtain ⟨xn, xt, xv, xb⟩ := x
        obtain ⟨Ax, cx, e9, _, _⟩ := owned_slice hox.own
        simp only at e9
        subst e9
        simp only [Nat.zero_add] at c0 c1 c2'
        have hki : (k : Int) < (m : Int) := by omega
        have hk0 : (0 : Int) ≤ (k : Int) := Int.natCast_nonneg _
        have hk5 : (k : Int) < 512 := by omega
        have HCL := hid (clone38 Ax xb.length cx xb wr (Rd.of_own hox.own) (by have := hox.le; simp only at this; omega))
        have HX := hid hx
        have HD := hid hdr
        have HOX := hid hox
        have hH0 : H0 ≤ wr.heap.size := by rw [HH.out]; exact HBr.out.size
        have HHS := hid hH0
        clear hx hdr hox hr hxk c0 c1 hH0
        go_wp2_with (go_at_call 85; refine stop_ (fun Ps hPs => ?_))
        refine hPs ?_
        clear hPs Ps c2' hw2
        refine HCL.out.mono ?_
        rintro e w3 ⟨u, rfl, hu, hbu⟩
        have ho3 := owned_later HOr.out hbu
        have hw2 := ho3.frozenAt (k * 3 + 2)
        have hc2 : ∃ y, w3.cell? ⟨g, k * 3 + 2, none⟩ = some y := by
          rw [ho3.cellAt (k * 3 + 2) (by omega)]
          exact ⟨_, List.getElem?_eq_getElem (by rw [ho3.1]; omega)⟩
        obtain ⟨y, hc2⟩ := hc2
        have hst := ho3.stored (k * 3 + 2) u
        have hfl := (HFr.out.snoc (u := u) HX.out HHS.out hu hbu HOX.out.le HOX.out.to).keep (w' := w3.setCell ⟨g, k * 3 + 2, none⟩ u) (fun x hx9 => hx9.keep (owned_gb hx9.own hst.2 fun g9 h1 h2 => ne_by_type hx9.own ho3 (by decide) g9 h1 h2.symm))
        have hrow : (w3.setCell ⟨g, k * 3 + 2, none⟩ u).ownsRow H0 102 3 (.slice (some ⟨g, 0, none⟩) m c2) m (ltc ((ls' ++ [⟨xn, xt, u, xb⟩]) ++ ls.drop (k + 1))) := by
          have h9 := hst.1
          have e9 := ltc_set ls' (ls.drop (k + 1)) ⟨xn, xt, .slice Ax xb.length cx, xb⟩ u
          rw [HFr.out.len] at e9
          rw [HD.out, e9] at h9
          rw [List.append_assoc]
          exact h9
        have hlow := (HBr.out.trans (hbu.mono HHS.out)).setCell (p := ⟨g, k * 3 + 2, none⟩) (HO.out.lt g rfl).1 u
        obtain ⟨A3, c3, rfl, _, _⟩ := owned_slice hu
        have HR1 := hid hrow
        have HR2 := hid hfl
        have HR3 := hid hlow
        clear hu hbu ho3 hst hfl hrow hlow
        go_wp2_with fail
        go_roundg (m - (k + 1))
        case measure => omega
        case rel => exact ⟨k + 1, _, by omega, rfl, by go_num, HR1, HR2, HR3⟩
      · obtain rfl : k = m := by omega
        have hki : ¬ (k : Int) < (k : Int) := by omega
        go_wp2_with fail
        go_ret
        have h9 := HOr.out
        rw [List.drop_of_length_le (by have := HM.out; omega), List.append_nil] at h9
        refine ⟨_, ls', rfl, ?_, ?_, ?_⟩
        · rw [← HH.out, HFr.out.len]; exact h9
        · rw [← HH.out, ← HM.out]; exact HFr.out
        · rw [← HH.out]; exact HBr.out
end Go.Proofs.YtbpnbcjgkbpmgaaGreat.Lk
