/- Links: Deliver and Drop of the program; all letters but one, by the document. -/
import Derived.Test.YtigedoonhmaghaaLgF
namespace Go.Proofs.Ytigedoonhmaghaa
open Go.RowKit Go.Lg
variable {F : Nat}
set_option linter.unusedVariables false
set_option linter.unusedSimpArgs false

/-! ### What Deliver and Drop do -/
def dE (n : Int) (ks : List Key) : Int := match fx n ks with | none => 4 | some _ => 0
def dX (n : Int) (ks : List Key) : Key := match fx n ks with | none => (0, 0, []) | some i => ks.getD i (0, 0, [])
def dK (n : Int) (ks : List Key) : List Key := match fx n ks with | none => ks | some i => ks.eraseIdx i
/-- A letter told, and what is left. -/
def Gets (F : Nat) (rf : Bool) (B z : Nat) (sv : Value) (last n : Int) (ks : List Key) (w : World) (e : Ending) (w' : World) : Prop :=
  ∃ x : Lt, x.k = dX n ks ∧ e = .returned (lv x (dE n ks)) ∧ Left F rf B z sv last (dK n ks) w w' ∧ w'.ownsRow B 5 1 x.v x.b.length (bts x.b) ∧ x.b.length ≤ 40
def Drops (F : Nat) (rf : Bool) (B z : Nat) (sv : Value) (last n : Int) (ks : List Key) (w : World) (e : Ending) (w' : World) : Prop :=
  e = .returned (.int .i64 (dE n ks)) ∧ Left F rf B z sv last (dK n ks) w w'
theorem map_eraseIdx {α β : Type} (f : α → β) : ∀ (l : List α) (i : Nat), (l.eraseIdx i).map f = (l.map f).eraseIdx i
  | [], i => by simp
  | a :: l, 0 => rfl
  | a :: l, i + 1 => by simp [map_eraseIdx f l i]
section
variable {rf : Bool} {B z : Nat} {sv : Value} {last n : Int} {ls : List Lt} {w w' : World} {e : Ending}
theorem gets_no (hx : fx n (ls.map Lt.k) = none) (h : TookNo F rf B z sv last (ls.map Lt.k) w e w') : Gets F rf B z sv last n (ls.map Lt.k) w e w' := by
  refine ⟨nolt, ?_, ?_, ?_, World.ownsRow_nil _ _ _ _, by simp [nolt]⟩
  · simp only [dX, hx]; rfl
  · simp only [dE, hx]; exact h.1
  · simp only [dK, hx]; exact h.2
theorem gets_at {i : Nat} {x : Lt} (hx : fx n (ls.map Lt.k) = some i) (hi : ls[i]? = some x) (h : TookAt F rf B z sv last ls i x w e w') : Gets F rf B z sv last n (ls.map Lt.k) w e w' := by
  refine ⟨x, ?_, ?_, ?_, h.2.2.own, h.2.2.le⟩
  · simp only [dX, hx]
    rw [List.getD_eq_getElem?_getD, List.getElem?_map, hi]
    rfl
  · simp only [dE, hx]; exact h.1
  · simp only [dK, hx]
    rw [← map_eraseIdx]
    exact h.2.1
end
theorem took30 {B z : Nat} {last : Int} {sv : Value} {ls : List Lt} {w : World} (h : LX F false w B z last sv ls) (n : Int) : Calls Try.prog 30 #[P z, .int .i64 n] w (Gets F false B z sv last n (ls.map Lt.k) w) := by
  cases hx : fx n (ls.map Lt.k) with
  | none => exact (taken30_no h n hx).mono fun e w' k => gets_no hx k
  | some i =>
    obtain ⟨x, hi, _⟩ := fx_lt hx
    exact (taken30_at h n hx hi).mono fun e w' k => gets_at hx hi k
/-- A letter's variable of the caller's own, written behind the call. -/
theorem Left.storeR {rf : Bool} {B z R : Nat} {sv : Value} {last last' : Int} {ls : List Lt} {ks' : List Key} {w W w2 : World} (hL : LX F rf w B z last sv ls) (hb : Below w.heap.size w W) (hR : Blk W R 31 zc) (hRw : w.heap.size ≤ R) (h : Left F rf B z sv last' ks' W w2) :
    Blk w2 R 31 zc ∧ ∀ w3, w2.grownBy w3 (some R) → Left F rf B z sv last' ks' w w3 := by
  have hs : ∀ g, sv.ownBlock = some g → g < w.heap.size := fun g hg => (hL.own.lt g hg).2
  have hz : R ≠ z := fun e => by have := hL.blk.lt; omega
  obtain ⟨sv', ls', h0, h1, h2, h3⟩ := h
  have hR2 : Blk w2 R 31 zc := blk_two hR h2 hz (fun b hb e => by have := hs b hb; omega)
  refine ⟨hR2, fun w3 hg => ?_⟩
  have hT : Two z sv.ownBlock w w2 := (Two.of_below hb).trans h2 (fun g hg => .inl hg)
  refine ⟨sv', ls', h0, h1.other hg hR2 (fun g hg9 e => ?_), hT.trans (Two.of_r hg) (fun g hg9 => .inr (by injection hg9 with hg9; omega)), fun g hg9 => ?_⟩
  · have := hR.lt
    rcases h3 g hg9 with h4 | h4
    · have := hs g h4; omega
    · omega
  · rcases h3 g hg9 with h4 | h4
    · exact .inl h4
    · exact .inr (Nat.le_trans hb.size h4)
theorem bytes_gb {b n R : Nat} {v : Value} {xs cs : List Value} {w2 w3 : World} (h : w2.ownsRow b 5 1 v n xs) (hR : Blk w2 R 31 zc) (hg : w2.grownBy w3 (some R)) : w3.ownsRow b 5 1 v n xs :=
  owned_gb h hg fun g h1 h2 => owned_blk_ne h hR (by decide) g h1 (Option.some.inj h2)
set_option maxHeartbeats 4000000 in
set_option maxRecDepth 100000 in
theorem deliver12 {B z : Nat} {last : Int} {sv : Value} {ls : List Lt} {w : World} (h : LX F false w B z last sv ls) (n : Int) : Calls Try.prog 12 #[P z, .int .i64 n] w (Gets F false B z sv last n (ls.map Lt.k) w) := by
  have hb := (Below.refl w.heap.size w).alloc (Nat.le_refl _) (.cells zc 31)
  have kr := Blk.new w 31 zc
  obtain ⟨W, hW⟩ : ∃ W, W = w.alloc (.cells zc 31) := ⟨_, rfl⟩
  rw [← hW] at hb kr
  have hW' : W = w.alloc (.cells #[.int .i64 0, .int .i64 0, .slice none 0 0] 31) := hW
  have HT := hid (took30 (h.later hb) n)
  have HB := hid hb
  have H := hid h
  have KR := hid kr
  clear h hb kr hW
  go_enter Try.func12, Try.ntmps12
  go_wp2_with (go_at_call 30; refine stop_ (fun Ps hPs => ?_))
  refine hPs ?_
  clear hPs Ps
  rw [← hW']
  clear hW'
  refine HT.out.mono ?_
  rintro e w2 ⟨x, hx, rfl, hL, hv, h40⟩
  obtain ⟨hR2, hL2⟩ := hL.storeR H.out HB.out KR.out (Nat.le_refl _)
  obtain ⟨xn, xt, xv, xb⟩ := x
  obtain ⟨Ax, cx, e9, _, _⟩ := owned_slice hv
  simp only at e9
  subst e9
  have r0 : w2.cell? ⟨w.heap.size, 0, none⟩ = some (.int .i64 0) := hR2.cell 0
  have r1 : w2.cell? ⟨w.heap.size, 1, none⟩ = some (.int .i64 0) := hR2.cell 1
  have r2 : w2.cell? ⟨w.heap.size, 2, none⟩ = some (.slice none 0 0) := hR2.cell 2
  have y0 := hR2.frozen 0
  have y1 := hR2.frozen 1
  have y2 := hR2.frozen 2
  have HX := hid hx
  have HL := hid hL2
  have HR := hid hR2
  have HV := hid hv
  have H4 := hid h40
  clear hx hL hL2 hv hR2 h40
  simp only [lv]
  go_wp2_with fail
  refine bodyPost_ret (by simp [results, Try.results12, go_sem, r0, r1, r2]; try rfl) rfl ?_
  have hg := gb_setCell (p := ⟨w.heap.size, 2, none⟩) (.slice Ax xb.length cx) (gb_setCell (p := ⟨w.heap.size, 1, none⟩) (.int .i64 xt) (gb_setCell (p := ⟨w.heap.size, 0, none⟩) (.int .i64 xn) (World.grownBy.refl w2 (some w.heap.size))))
  exact ⟨⟨xn, xt, .slice Ax xb.length cx, xb⟩, HX.out, rfl, HL.out _ hg, bytes_gb (cs := []) HV.out HR.out hg, H4.out⟩
set_option maxHeartbeats 4000000 in
set_option maxRecDepth 100000 in
theorem drop13 {B z : Nat} {last : Int} {sv : Value} {ls : List Lt} {w : World} (h : LX F false w B z last sv ls) (n : Int) : Calls Try.prog 13 #[P z, .int .i64 n] w (Drops F false B z sv last n (ls.map Lt.k) w) := by
  have HT := hid (took30 h n)
  clear h
  go_enter Try.func13, Try.ntmps13
  go_wp2_with (go_at_call 30; refine stop_ (fun Ps hPs => ?_))
  refine hPs ?_
  clear hPs Ps
  refine HT.out.mono ?_
  rintro e w2 ⟨x, hx, rfl, hL, hv, h40⟩
  obtain ⟨xn, xt, xv, xb⟩ := x
  obtain ⟨Ax, cx, e9, _, _⟩ := owned_slice hv
  simp only at e9
  subst e9
  have HL := hid hL
  clear hL hv hx h40
  simp only [lv]
  go_wp2_with fail
  go_ret
  exact ⟨rfl, HL.out.behind ((Below.refl _ _).alloc (Nat.le_refl _) _)⟩
set_option maxHeartbeats 4000000 in
set_option maxRecDepth 100000 in
theorem without46 {B z : Nat} {last : Int} {sv : Value} {ls : List Lt} {w : World} (h : LX F true w B z last sv ls) (i : Nat) : Calls Try.prog 46 #[P z, .int .i64 i] w (NewL (ls.eraseIdx i) w) := by
  obtain ⟨A, c, rfl, hc1, hc2⟩ := owned_slice h.own
  obtain ⟨B2, hB2⟩ : ∃ B2, B2 = w.heap.size := ⟨_, rfl⟩
  obtain ⟨m, hm⟩ : ∃ m, m = ls.length := ⟨_, rfl⟩
  have HM := hid hm
  have HB2 := hid hB2
  have h5 := h.le
  rw [← hm] at h5 hc1
  have H := hid h
  clear h hm
  unfold NewL
  rw [← hB2]
  clear hB2
  go_enter Try.func46, Try.ntmps46
  go_wp2_with fail
  go_loopg [5, 6] m (fun g v q wr => ∃ k : Nat, k ≤ m ∧ g = m - k ∧ q = .int .i64 k ∧ Hid (wr.ownsRow B2 31 3 v ((ls.take k).eraseIdx i).length (ltc ((ls.take k).eraseIdx i))) ∧ Hid (Below B2 w wr))
  case atStart => exact ⟨0, by omega, rfl, rfl, hid (by simpa [ltc] using World.ownsRow_nil w B2 31 3), hid (Below.refl _ _)⟩
  case round =>
    obtain ⟨k, hk, rfl, rfl, HO, HB⟩ := hrel
    have hr := H.out.later (show Below w.heap.size w wr by rw [← HB2.out]; exact HB.out)
    have kz : Blk wr z 63 #[.bool true, .slice A ls.length c, .int .i64 last] := hr.blk
    rw [← HM.out] at kz
    have z1 : wr.cell? ⟨z, 1, none⟩ = some (.slice A m c) := kz.cell 1
    by_cases hlt : k < m
    · obtain ⟨x, hx⟩ : ∃ x, ls[k]? = some x := ⟨ls[k]'(by rw [← HM.out]; exact hlt), List.getElem?_eq_getElem _⟩
      obtain ⟨g, off, rfl, hg, c0, c1, c2⟩ := ltAt (Rd.of_own hr.own) hx
      have hox := hr.by_ _ (List.mem_of_getElem? hx)
      obtain ⟨xn, xt, xv, xb⟩ := x
      obtain ⟨Ax, cx, e9, _, _⟩ := owned_slice hox.own
      simp only at e9
      subst e9
      simp only at c0 c1 c2
      have hki : (k : Int) < (m : Int) := by omega
      have hk5 : (k : Int) < 512 := by omega
      have HX := hid hx
      have HR := hid hr
      have htk : (ls.take k).length = k := by rw [List.length_take]; have := HM.out; omega
      have HTK := hid htk
      clear hx hr kz hox htk
      by_cases hi : k = i
      · have qi : ((k : Int) != (i : Int)) = false := by simp [hi]
        have HI := hid hi
        clear hi
        go_wp2_with fail
        go_roundg (m - (k + 1))
        case measure => omega
        case rel =>
          refine ⟨k + 1, by omega, rfl, by go_num, ?_, HB⟩
          rw [take_succ_get? HX.out, List.eraseIdx_append_of_length_le (by have := HTK.out; have := HI.out; omega), HTK.out, ← HI.out, Nat.sub_self]
          have h9 := HO.out
          rw [List.eraseIdx_of_length_le (by have := HTK.out; have := HI.out; omega)] at h9
          simpa using hid h9
      · have qi : ((k : Int) != (i : Int)) = true := by simp only [bne_iff_ne, ne_eq]; omega
        have HI := hid hi
        have hlen : ((ls.take k).eraseIdx i).length ≤ 512 := Nat.le_trans (List.length_eraseIdx_le _ _) (by have := HTK.out; omega)
        have HLN := hid hlen
        clear hi hlen
        go_wp2_with (at_builtin; refine stop_ (fun Ps hPs => ?_))
        refine hPs ?_
        clear hPs Ps
        have hs : B2 ≤ wr.heap.size := by rw [HB2.out]; exact HB.out.size
        refine wpList_app1 T37 (.tmp 19) (.tmp 27) rfl rfl HO.out rfl rfl rfl (by simp [Value.oneCell']) (by have := HLN.out; omega) hs fun v1 w1 hown1 hg1 hat1 => ?_
        have hb1 := below_append HB.out HO.out hg1 hs
        have HO1 := hid hown1
        have HB1 := hid hb1
        clear hown1 hb1 hg1 hat1
        go_wp2_with fail
        go_roundg (m - (k + 1))
        case measure => omega
        case rel =>
          refine ⟨k + 1, by omega, rfl, by go_num, ?_, HB1⟩
          have e9 : (ls.take (k + 1)).eraseIdx i = (ls.take k).eraseIdx i ++ [⟨xn, xt, .slice Ax xb.length cx, xb⟩] := by
            rw [take_succ_get? HX.out]
            rcases Nat.lt_or_ge i k with h1 | h1
            · rw [List.eraseIdx_append_of_lt_length (by have := HTK.out; omega)]
            · rw [List.eraseIdx_append_of_length_le (by have := HTK.out; omega), HTK.out, List.eraseIdx_of_length_le (show [(⟨xn, xt, .slice Ax xb.length cx, xb⟩ : Lt)].length ≤ i - k by have := HI.out; simp; omega), List.eraseIdx_of_length_le (by have := HTK.out; omega)]
          rw [e9, List.length_append, List.length_singleton, ltc_app]
          exact HO1
    · obtain rfl : k = m := by omega
      have hki : ¬ (k : Int) < (k : Int) := by omega
      clear hr kz
      go_wp2_with fail
      go_ret
      have h9 := HO.out
      rw [List.take_of_length_le (by have := HM.out; omega)] at h9
      exact ⟨u5, rfl, h9, HB.out⟩
end Go.Proofs.Ytigedoonhmaghaa
