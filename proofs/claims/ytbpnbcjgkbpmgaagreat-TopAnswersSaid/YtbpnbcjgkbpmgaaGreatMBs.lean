/- A primary answers without waiting for the other site, as many times as its leash allows: of any acts. No condition. (part 45) -/
import Derived.Test.YtbpnbcjgkbpmgaaGreatMBr
namespace Go.Proofs.YtbpnbcjgkbpmgaaGreat
open Go.RowKit Go.Lg Go.Shelf Ds St
set_option linter.unusedVariables false
set_option linter.unusedSimpArgs false
attribute [local go_sem] field34_4 Oper.semAt_some
theorem kdrop25 {w : World} {tag : Nat → Nat} {i z : Nat} {last : Int} {ks : List Lk.Key} (hT : Tidy w tag) (h : LK w tag i z last ks) (n : Int) :
    Calls Tryz.prog 25 #[P z, .int .i64 n] w fun en w' => en = .returned (.int .i64 (Lk.dE n ks)) ∧ ∃ tag', Turn (fun k => k = i) w tag w' tag' ∧ LK w' tag' i z last (Lk.dK n ks) := by
  obtain ⟨sv, ls, hx, hz, hs, rfl⟩ := h
  exact (Lk.drop13 hx n).mono fun e w' ⟨he, hl⟩ => ⟨he, left_turn hT hx hz hs hl⟩
set_option maxHeartbeats 4000000 in
set_option maxRecDepth 100000 in
theorem wdo9_at1 {w : World} {tag : Nat → Nat} {zw : Nat} {most : Int} {q : Wz} {s0 s1 : Ps} {last : Int} {ks : List Lk.Key} {er nr : Int} {sv : ByteArray} {tb : Bool} {N : Nat} {s0' s1' : Ps} {last' : Int} {ks' : List Lk.Key} (nd : Int) (hnd : nd = 0 ∨ nd = 1) (nn tt : Int) (key : ByteArray) {A : Option Addr} {k c : Nat} (hT : Tidy w tag) (h : WM w tag zw most q s0 s1 last ks) (m1 : 1 ≤ most)
    (hC : ∀ X, Lat w X → Calls Tryz.prog 28 #[P zw, .agg (actc 1 nd nn tt key A k c)] X (ADid tag zw most q er nr sv tb N s0' s1' last' ks' X)) :
    Calls Tryz.prog 9 #[P zw, .agg (actc 1 nd nn tt key A k c)] w (ADid tag zw most q er nr sv tb N s0' s1' last' ks' w) := by
  obtain ⟨W, hW⟩ : ∃ W, W = (w.alloc (.cells (actc 1 nd nn tt key A k c) 30)).alloc (.cells did0 34) := ⟨_, rfl⟩
  have lW : Lat w W := by rw [hW]; exact ((Lat.refl w).alloc _).alloc _
  have k3 : Blk W w.heap.size 30 (actc 1 nd nn tt key A k c) := by rw [hW]; exact (Blk.new w 30 _).alloc _
  have k4 : Blk W (w.heap.size + 1) 34 did0 := by
    rw [hW]
    have := Blk.new (w.alloc (.cells (actc 1 nd nn tt key A k c) 30)) 34 did0
    simpa using this
  have hWL := h.later lW
  obtain ⟨vA, ms, blk, hz, mm0, mm1, lk, an, hA⟩ := hWL
  obtain ⟨c0, c1, c2, c3, c4, c5, c6⟩ := wdcells blk
  obtain ⟨x0, x1, x2, x3, x4, x5⟩ := actcells k3
  have hask := wnone21 blk m1
  have his := wis27 blk m1 nd
  obtain ⟨⟨y0, y1, y2, y3, y4⟩, f0, f1, f2, f3, f4⟩ := didcells k4
  have HW := hid h
  have HL := hid lW
  have HK3 := hid k3
  have HK4 := hid k4
  have HT := hid hT
  have HC := hid hC
  rw [show decide (nd = 0 ∨ nd = 1) = true from by simpa using hnd] at his
  clear blk mm0 mm1 lk an lW k3 k4 hT h hz hA hC hnd
  go_enter Tryz.func9, Tryz.ntmps9
  go_upto_region 1 with fail
  rw [← hW]
  clear hW
  go_wp2_with (first | (go_at_call 21; (with_reducible refine hask.mono ?_); rintro e1 w1 ⟨rfl, rfl⟩) | (go_at_call 27; (with_reducible refine his.mono ?_); rintro e1 w1 ⟨rfl, rfl⟩) | (go_at_call 28; refine stop_ (fun Ps hPs => ?_)))
  refine hPs ?_
  clear hPs Ps
  refine (HC.out _ HL.out).mono ?_
  rintro e' w6 had
  obtain ⟨A6, n6, c6', rfl, hfin, hkf, hkx⟩ := adid_pass HT.out HL.out (by omega) HK4.out had
  clear x0 x1 x2 x3 x4 x5 y0 y1 y2 y3 y4 f0 f1 f2 f3 f4
  obtain ⟨⟨y0, y1, y2, y3, y4⟩, f0, f1, f2, f3, f4⟩ := didcells hkx
  obtain ⟨⟨d0, d1, d2, d3, d4⟩, _⟩ := didcells hkf
  have HF := hid hfin
  clear hfin hkf hkx
  go_wp2_with fail
  refine bodyPost_ret (by simp [results, Tryz.results9, go_sem, d0, d1, d2, d3, d4]; try rfl) rfl ?_
  exact HF.out _ rfl
set_option maxHeartbeats 4000000 in
set_option maxRecDepth 100000 in
theorem wdo9_at2 {w : World} {tag : Nat → Nat} {zw : Nat} {most : Int} {q : Wz} {s0 s1 : Ps} {last : Int} {ks : List Lk.Key} {er nr : Int} {sv : ByteArray} {tb : Bool} {N : Nat} {s0' s1' : Ps} {last' : Int} {ks' : List Lk.Key} (nd : Int) (hnd : nd = 0 ∨ nd = 1) (nn tt : Int) (key : ByteArray) {A : Option Addr} {k c : Nat} (hT : Tidy w tag) (h : WM w tag zw most q s0 s1 last ks) (m1 : 1 ≤ most)
    (hC : ∀ X, Lat w X → Calls Tryz.prog 28 #[P zw, .agg (actc 2 nd nn tt key A k c)] X (ADid tag zw most q er nr sv tb N s0' s1' last' ks' X)) :
    Calls Tryz.prog 9 #[P zw, .agg (actc 2 nd nn tt key A k c)] w (ADid tag zw most q er nr sv tb N s0' s1' last' ks' w) := by
  obtain ⟨W, hW⟩ : ∃ W, W = (w.alloc (.cells (actc 2 nd nn tt key A k c) 30)).alloc (.cells did0 34) := ⟨_, rfl⟩
  have lW : Lat w W := by rw [hW]; exact ((Lat.refl w).alloc _).alloc _
  have k3 : Blk W w.heap.size 30 (actc 2 nd nn tt key A k c) := by rw [hW]; exact (Blk.new w 30 _).alloc _
  have k4 : Blk W (w.heap.size + 1) 34 did0 := by
    rw [hW]
    have := Blk.new (w.alloc (.cells (actc 2 nd nn tt key A k c) 30)) 34 did0
    simpa using this
  have hWL := h.later lW
  obtain ⟨vA, ms, blk, hz, mm0, mm1, lk, an, hA⟩ := hWL
  obtain ⟨c0, c1, c2, c3, c4, c5, c6⟩ := wdcells blk
  obtain ⟨x0, x1, x2, x3, x4, x5⟩ := actcells k3
  have hask := wnone21 blk m1
  have his := wis27 blk m1 nd
  obtain ⟨⟨y0, y1, y2, y3, y4⟩, f0, f1, f2, f3, f4⟩ := didcells k4
  have HW := hid h
  have HL := hid lW
  have HK3 := hid k3
  have HK4 := hid k4
  have HT := hid hT
  have HC := hid hC
  rw [show decide (nd = 0 ∨ nd = 1) = true from by simpa using hnd] at his
  clear blk mm0 mm1 lk an lW k3 k4 hT h hz hA hC hnd
  go_enter Tryz.func9, Tryz.ntmps9
  go_upto_region 1 with fail
  rw [← hW]
  clear hW
  go_wp2_with (first | (go_at_call 21; (with_reducible refine hask.mono ?_); rintro e1 w1 ⟨rfl, rfl⟩) | (go_at_call 27; (with_reducible refine his.mono ?_); rintro e1 w1 ⟨rfl, rfl⟩) | (go_at_call 28; refine stop_ (fun Ps hPs => ?_)))
  refine hPs ?_
  clear hPs Ps
  refine (HC.out _ HL.out).mono ?_
  rintro e' w6 had
  obtain ⟨A6, n6, c6', rfl, hfin, hkf, hkx⟩ := adid_pass HT.out HL.out (by omega) HK4.out had
  clear x0 x1 x2 x3 x4 x5 y0 y1 y2 y3 y4 f0 f1 f2 f3 f4
  obtain ⟨⟨y0, y1, y2, y3, y4⟩, f0, f1, f2, f3, f4⟩ := didcells hkx
  obtain ⟨⟨d0, d1, d2, d3, d4⟩, _⟩ := didcells hkf
  have HF := hid hfin
  clear hfin hkf hkx
  go_wp2_with fail
  refine bodyPost_ret (by simp [results, Tryz.results9, go_sem, d0, d1, d2, d3, d4]; try rfl) rfl ?_
  exact HF.out _ rfl
set_option maxHeartbeats 4000000 in
set_option maxRecDepth 100000 in
theorem wdo9_at3 {w : World} {tag : Nat → Nat} {zw : Nat} {most : Int} {q : Wz} {s0 s1 : Ps} {last : Int} {ks : List Lk.Key} {er nr : Int} {sv : ByteArray} {tb : Bool} {N : Nat} {s0' s1' : Ps} {last' : Int} {ks' : List Lk.Key} (nd : Int) (hnd : nd = 0 ∨ nd = 1) (nn tt : Int) (key : ByteArray) {A : Option Addr} {k c : Nat} (hT : Tidy w tag) (h : WM w tag zw most q s0 s1 last ks) (m1 : 1 ≤ most)
    (hC : ∀ X, Lat w X → Calls Tryz.prog 28 #[P zw, .agg (actc 3 nd nn tt key A k c)] X (ADid tag zw most q er nr sv tb N s0' s1' last' ks' X)) :
    Calls Tryz.prog 9 #[P zw, .agg (actc 3 nd nn tt key A k c)] w (ADid tag zw most q er nr sv tb N s0' s1' last' ks' w) := by
  obtain ⟨W, hW⟩ : ∃ W, W = (w.alloc (.cells (actc 3 nd nn tt key A k c) 30)).alloc (.cells did0 34) := ⟨_, rfl⟩
  have lW : Lat w W := by rw [hW]; exact ((Lat.refl w).alloc _).alloc _
  have k3 : Blk W w.heap.size 30 (actc 3 nd nn tt key A k c) := by rw [hW]; exact (Blk.new w 30 _).alloc _
  have k4 : Blk W (w.heap.size + 1) 34 did0 := by
    rw [hW]
    have := Blk.new (w.alloc (.cells (actc 3 nd nn tt key A k c) 30)) 34 did0
    simpa using this
  have hWL := h.later lW
  obtain ⟨vA, ms, blk, hz, mm0, mm1, lk, an, hA⟩ := hWL
  obtain ⟨c0, c1, c2, c3, c4, c5, c6⟩ := wdcells blk
  obtain ⟨x0, x1, x2, x3, x4, x5⟩ := actcells k3
  have hask := wnone21 blk m1
  have his := wis27 blk m1 nd
  obtain ⟨⟨y0, y1, y2, y3, y4⟩, f0, f1, f2, f3, f4⟩ := didcells k4
  have HW := hid h
  have HL := hid lW
  have HK3 := hid k3
  have HK4 := hid k4
  have HT := hid hT
  have HC := hid hC
  rw [show decide (nd = 0 ∨ nd = 1) = true from by simpa using hnd] at his
  clear blk mm0 mm1 lk an lW k3 k4 hT h hz hA hC hnd
  go_enter Tryz.func9, Tryz.ntmps9
  go_upto_region 1 with fail
  rw [← hW]
  clear hW
  go_wp2_with (first | (go_at_call 21; (with_reducible refine hask.mono ?_); rintro e1 w1 ⟨rfl, rfl⟩) | (go_at_call 27; (with_reducible refine his.mono ?_); rintro e1 w1 ⟨rfl, rfl⟩) | (go_at_call 28; refine stop_ (fun Ps hPs => ?_)))
  refine hPs ?_
  clear hPs Ps
  refine (HC.out _ HL.out).mono ?_
  rintro e' w6 had
  obtain ⟨A6, n6, c6', rfl, hfin, hkf, hkx⟩ := adid_pass HT.out HL.out (by omega) HK4.out had
  clear x0 x1 x2 x3 x4 x5 y0 y1 y2 y3 y4 f0 f1 f2 f3 f4
  obtain ⟨⟨y0, y1, y2, y3, y4⟩, f0, f1, f2, f3, f4⟩ := didcells hkx
  obtain ⟨⟨d0, d1, d2, d3, d4⟩, _⟩ := didcells hkf
  have HF := hid hfin
  clear hfin hkf hkx
  go_wp2_with fail
  refine bodyPost_ret (by simp [results, Tryz.results9, go_sem, d0, d1, d2, d3, d4]; try rfl) rfl ?_
  exact HF.out _ rfl
set_option maxHeartbeats 4000000 in
set_option maxRecDepth 100000 in
theorem wdo9_at4 {w : World} {tag : Nat → Nat} {zw : Nat} {most : Int} {q : Wz} {s0 s1 : Ps} {last : Int} {ks : List Lk.Key} {er nr : Int} {sv : ByteArray} {tb : Bool} {N : Nat} {s0' s1' : Ps} {last' : Int} {ks' : List Lk.Key} (nd : Int) (hnd : nd = 0 ∨ nd = 1) (nn tt : Int) (key : ByteArray) {A : Option Addr} {k c : Nat} (hT : Tidy w tag) (h : WM w tag zw most q s0 s1 last ks) (m1 : 1 ≤ most)
    (hC : ∀ X, Lat w X → Calls Tryz.prog 28 #[P zw, .agg (actc 4 nd nn tt key A k c)] X (ADid tag zw most q er nr sv tb N s0' s1' last' ks' X)) :
    Calls Tryz.prog 9 #[P zw, .agg (actc 4 nd nn tt key A k c)] w (ADid tag zw most q er nr sv tb N s0' s1' last' ks' w) := by
  obtain ⟨W, hW⟩ : ∃ W, W = (w.alloc (.cells (actc 4 nd nn tt key A k c) 30)).alloc (.cells did0 34) := ⟨_, rfl⟩
  have lW : Lat w W := by rw [hW]; exact ((Lat.refl w).alloc _).alloc _
  have k3 : Blk W w.heap.size 30 (actc 4 nd nn tt key A k c) := by rw [hW]; exact (Blk.new w 30 _).alloc _
  have k4 : Blk W (w.heap.size + 1) 34 did0 := by
    rw [hW]
    have := Blk.new (w.alloc (.cells (actc 4 nd nn tt key A k c) 30)) 34 did0
    simpa using this
  have hWL := h.later lW
  obtain ⟨vA, ms, blk, hz, mm0, mm1, lk, an, hA⟩ := hWL
  obtain ⟨c0, c1, c2, c3, c4, c5, c6⟩ := wdcells blk
  obtain ⟨x0, x1, x2, x3, x4, x5⟩ := actcells k3
  have hask := wnone21 blk m1
  have his := wis27 blk m1 nd
  obtain ⟨⟨y0, y1, y2, y3, y4⟩, f0, f1, f2, f3, f4⟩ := didcells k4
  have HW := hid h
  have HL := hid lW
  have HK3 := hid k3
  have HK4 := hid k4
  have HT := hid hT
  have HC := hid hC
  rw [show decide (nd = 0 ∨ nd = 1) = true from by simpa using hnd] at his
  clear blk mm0 mm1 lk an lW k3 k4 hT h hz hA hC hnd
  go_enter Tryz.func9, Tryz.ntmps9
  go_upto_region 1 with fail
  rw [← hW]
  clear hW
  go_wp2_with (first | (go_at_call 21; (with_reducible refine hask.mono ?_); rintro e1 w1 ⟨rfl, rfl⟩) | (go_at_call 27; (with_reducible refine his.mono ?_); rintro e1 w1 ⟨rfl, rfl⟩) | (go_at_call 28; refine stop_ (fun Ps hPs => ?_)))
  refine hPs ?_
  clear hPs Ps
  refine (HC.out _ HL.out).mono ?_
  rintro e' w6 had
  obtain ⟨A6, n6, c6', rfl, hfin, hkf, hkx⟩ := adid_pass HT.out HL.out (by omega) HK4.out had
  clear x0 x1 x2 x3 x4 x5 y0 y1 y2 y3 y4 f0 f1 f2 f3 f4
  obtain ⟨⟨y0, y1, y2, y3, y4⟩, f0, f1, f2, f3, f4⟩ := didcells hkx
  obtain ⟨⟨d0, d1, d2, d3, d4⟩, _⟩ := didcells hkf
  have HF := hid hfin
  clear hfin hkf hkx
  go_wp2_with fail
  refine bodyPost_ret (by simp [results, Tryz.results9, go_sem, d0, d1, d2, d3, d4]; try rfl) rfl ?_
  exact HF.out _ rfl
set_option maxHeartbeats 4000000 in
set_option maxRecDepth 100000 in
theorem wdo9_arg2 {w : World} {tag : Nat → Nat} {zw : Nat} {most : Int} {q : Wz} {s0 s1 : Ps} {last : Int} {ks : List Lk.Key} (nd : Int) (nn tt : Int) (key : ByteArray) {A : Option Addr} {k c : Nat} (hT : Tidy w tag) (h : WM w tag zw most q s0 s1 last ks) (m1 : 1 ≤ most)
    (hnd : ¬(nd = 0 ∨ nd = 1)) :
    Calls Tryz.prog 9 #[P zw, .agg (actc 2 nd nn tt key A k c)] w (ADid tag zw most q 2 0 noStr false 0 s0 s1 last ks w) := by
  obtain ⟨W, hW⟩ : ∃ W, W = (w.alloc (.cells (actc 2 nd nn tt key A k c) 30)).alloc (.cells did0 34) := ⟨_, rfl⟩
  have lW : Lat w W := by rw [hW]; exact ((Lat.refl w).alloc _).alloc _
  have k3 : Blk W w.heap.size 30 (actc 2 nd nn tt key A k c) := by rw [hW]; exact (Blk.new w 30 _).alloc _
  have k4 : Blk W (w.heap.size + 1) 34 did0 := by
    rw [hW]
    have := Blk.new (w.alloc (.cells (actc 2 nd nn tt key A k c) 30)) 34 did0
    simpa using this
  have hWL := h.later lW
  obtain ⟨vA, ms, blk, hz, mm0, mm1, lk, an, hA⟩ := hWL
  obtain ⟨c0, c1, c2, c3, c4, c5, c6⟩ := wdcells blk
  obtain ⟨x0, x1, x2, x3, x4, x5⟩ := actcells k3
  have hask := wnone21 blk m1
  have his := wis27 blk m1 nd
  obtain ⟨⟨y0, y1, y2, y3, y4⟩, f0, f1, f2, f3, f4⟩ := didcells k4
  have HW := hid h
  have HL := hid lW
  have HK3 := hid k3
  have HK4 := hid k4
  have HT := hid hT
  rw [show decide (nd = 0 ∨ nd = 1) = false from decide_eq_false hnd] at his
  clear blk mm0 mm1 lk an lW k3 k4 hT h hz hA hnd
  go_enter Tryz.func9, Tryz.ntmps9
  go_upto_region 1 with fail
  rw [← hW]
  clear hW
  go_wp2_with (first | (go_at_call 21; (with_reducible refine hask.mono ?_); rintro e1 w1 ⟨rfl, rfl⟩) | (go_at_call 27; (with_reducible refine his.mono ?_); rintro e1 w1 ⟨rfl, rfl⟩) | (go_at_call 22; refine stop_ (fun Ps hPs => ?_)))
  refine hPs ?_
  clear hPs Ps
  refine (wtold22 _ _ _).mono ?_
  rintro e' w6 ⟨rfl, hb6⟩
  have l6 : Lat W w6 := ⟨hb6⟩
  obtain ⟨hfin, hkf, hkx⟩ := adid_fin (er := 2) (nr := 0) (sv := noStr) (tb := false) (N := 0) (v := .slice none 0 0) (n := 0) (xs := []) HT.out HL.out (by omega) HK4.out (l6.turn (HT.out.below HL.out.size) Wp) ((HW.out.later HL.out).later l6) (Sl.nil_ _ _ _ _) (Nat.le_refl _) (fun u hu => by cases hu)
  clear x0 x1 x2 x3 x4 x5 y0 y1 y2 y3 y4 f0 f1 f2 f3 f4
  obtain ⟨⟨y0, y1, y2, y3, y4⟩, f0, f1, f2, f3, f4⟩ := didcells hkx
  obtain ⟨⟨d0, d1, d2, d3, d4⟩, _⟩ := didcells hkf
  have HF := hid hfin
  clear hfin hkf hkx
  go_wp2_with fail
  refine bodyPost_ret (by simp [results, Tryz.results9, go_sem, d0, d1, d2, d3, d4]; try rfl) rfl ?_
  exact HF.out _ rfl
set_option maxHeartbeats 4000000 in
set_option maxRecDepth 100000 in
theorem wdo9_arg3 {w : World} {tag : Nat → Nat} {zw : Nat} {most : Int} {q : Wz} {s0 s1 : Ps} {last : Int} {ks : List Lk.Key} (nd : Int) (nn tt : Int) (key : ByteArray) {A : Option Addr} {k c : Nat} (hT : Tidy w tag) (h : WM w tag zw most q s0 s1 last ks) (m1 : 1 ≤ most)
    (hnd : ¬(nd = 0 ∨ nd = 1)) :
    Calls Tryz.prog 9 #[P zw, .agg (actc 3 nd nn tt key A k c)] w (ADid tag zw most q 2 0 noStr false 0 s0 s1 last ks w) := by
  obtain ⟨W, hW⟩ : ∃ W, W = (w.alloc (.cells (actc 3 nd nn tt key A k c) 30)).alloc (.cells did0 34) := ⟨_, rfl⟩
  have lW : Lat w W := by rw [hW]; exact ((Lat.refl w).alloc _).alloc _
  have k3 : Blk W w.heap.size 30 (actc 3 nd nn tt key A k c) := by rw [hW]; exact (Blk.new w 30 _).alloc _
  have k4 : Blk W (w.heap.size + 1) 34 did0 := by
    rw [hW]
    have := Blk.new (w.alloc (.cells (actc 3 nd nn tt key A k c) 30)) 34 did0
    simpa using this
  have hWL := h.later lW
  obtain ⟨vA, ms, blk, hz, mm0, mm1, lk, an, hA⟩ := hWL
  obtain ⟨c0, c1, c2, c3, c4, c5, c6⟩ := wdcells blk
  obtain ⟨x0, x1, x2, x3, x4, x5⟩ := actcells k3
  have hask := wnone21 blk m1
  have his := wis27 blk m1 nd
  obtain ⟨⟨y0, y1, y2, y3, y4⟩, f0, f1, f2, f3, f4⟩ := didcells k4
  have HW := hid h
  have HL := hid lW
  have HK3 := hid k3
  have HK4 := hid k4
  have HT := hid hT
  rw [show decide (nd = 0 ∨ nd = 1) = false from decide_eq_false hnd] at his
  clear blk mm0 mm1 lk an lW k3 k4 hT h hz hA hnd
  go_enter Tryz.func9, Tryz.ntmps9
  go_upto_region 1 with fail
  rw [← hW]
  clear hW
  go_wp2_with (first | (go_at_call 21; (with_reducible refine hask.mono ?_); rintro e1 w1 ⟨rfl, rfl⟩) | (go_at_call 27; (with_reducible refine his.mono ?_); rintro e1 w1 ⟨rfl, rfl⟩) | (go_at_call 22; refine stop_ (fun Ps hPs => ?_)))
  refine hPs ?_
  clear hPs Ps
  refine (wtold22 _ _ _).mono ?_
  rintro e' w6 ⟨rfl, hb6⟩
  have l6 : Lat W w6 := ⟨hb6⟩
  obtain ⟨hfin, hkf, hkx⟩ := adid_fin (er := 2) (nr := 0) (sv := noStr) (tb := false) (N := 0) (v := .slice none 0 0) (n := 0) (xs := []) HT.out HL.out (by omega) HK4.out (l6.turn (HT.out.below HL.out.size) Wp) ((HW.out.later HL.out).later l6) (Sl.nil_ _ _ _ _) (Nat.le_refl _) (fun u hu => by cases hu)
  clear x0 x1 x2 x3 x4 x5 y0 y1 y2 y3 y4 f0 f1 f2 f3 f4
  obtain ⟨⟨y0, y1, y2, y3, y4⟩, f0, f1, f2, f3, f4⟩ := didcells hkx
  obtain ⟨⟨d0, d1, d2, d3, d4⟩, _⟩ := didcells hkf
  have HF := hid hfin
  clear hfin hkf hkx
  go_wp2_with fail
  refine bodyPost_ret (by simp [results, Tryz.results9, go_sem, d0, d1, d2, d3, d4]; try rfl) rfl ?_
  exact HF.out _ rfl
set_option maxHeartbeats 4000000 in
set_option maxRecDepth 100000 in
theorem wdo9_round {w : World} {tag : Nat → Nat} {zw : Nat} {most : Int} {q : Wz} {s0 s1 : Ps} {last : Int} {ks : List Lk.Key} {er nr : Int} {sv : ByteArray} {tb : Bool} {N : Nat} {s0' s1' : Ps} {last' : Int} {ks' : List Lk.Key} (nd : Int) (nn tt : Int) (key : ByteArray) {A : Option Addr} {k c : Nat} (hT : Tidy w tag) (h : WM w tag zw most q s0 s1 last ks) (m1 : 1 ≤ most)
    (hC : ∀ X, Lat w X → Calls Tryz.prog 26 #[P zw] X (ADid tag zw most q er nr sv tb N s0' s1' last' ks' X)) :
    Calls Tryz.prog 9 #[P zw, .agg (actc 12 nd nn tt key A k c)] w (ADid tag zw most q er nr sv tb N s0' s1' last' ks' w) := by
  obtain ⟨W, hW⟩ : ∃ W, W = (w.alloc (.cells (actc 12 nd nn tt key A k c) 30)).alloc (.cells did0 34) := ⟨_, rfl⟩
  have lW : Lat w W := by rw [hW]; exact ((Lat.refl w).alloc _).alloc _
  have k3 : Blk W w.heap.size 30 (actc 12 nd nn tt key A k c) := by rw [hW]; exact (Blk.new w 30 _).alloc _
  have k4 : Blk W (w.heap.size + 1) 34 did0 := by
    rw [hW]
    have := Blk.new (w.alloc (.cells (actc 12 nd nn tt key A k c) 30)) 34 did0
    simpa using this
  have hWL := h.later lW
  obtain ⟨vA, ms, blk, hz, mm0, mm1, lk, an, hA⟩ := hWL
  obtain ⟨c0, c1, c2, c3, c4, c5, c6⟩ := wdcells blk
  obtain ⟨x0, x1, x2, x3, x4, x5⟩ := actcells k3
  have hask := wnone21 blk m1
  have his := wis27 blk m1 nd
  obtain ⟨⟨y0, y1, y2, y3, y4⟩, f0, f1, f2, f3, f4⟩ := didcells k4
  have HW := hid h
  have HL := hid lW
  have HK3 := hid k3
  have HK4 := hid k4
  have HT := hid hT
  have HC := hid hC
  clear blk mm0 mm1 lk an lW k3 k4 hT h hz hA hC
  go_enter Tryz.func9, Tryz.ntmps9
  go_upto_region 1 with fail
  rw [← hW]
  clear hW
  go_wp2_with (first | (go_at_call 21; (with_reducible refine hask.mono ?_); rintro e1 w1 ⟨rfl, rfl⟩) | (go_at_call 26; refine stop_ (fun Ps hPs => ?_)))
  refine hPs ?_
  clear hPs Ps
  refine (HC.out _ HL.out).mono ?_
  rintro e' w6 had
  obtain ⟨A6, n6, c6', rfl, hfin, hkf, hkx⟩ := adid_pass HT.out HL.out (by omega) HK4.out had
  clear x0 x1 x2 x3 x4 x5 y0 y1 y2 y3 y4 f0 f1 f2 f3 f4
  obtain ⟨⟨y0, y1, y2, y3, y4⟩, f0, f1, f2, f3, f4⟩ := didcells hkx
  obtain ⟨⟨d0, d1, d2, d3, d4⟩, _⟩ := didcells hkf
  have HF := hid hfin
  clear hfin hkf hkx
  go_wp2_with fail
  refine bodyPost_ret (by simp [results, Tryz.results9, go_sem, d0, d1, d2, d3, d4]; try rfl) rfl ?_
  exact HF.out _ rfl
set_option maxHeartbeats 4000000 in
set_option maxRecDepth 100000 in
theorem wdo9_twice {w : World} {tag : Nat → Nat} {zw : Nat} {most : Int} {q : Wz} {s0 s1 : Ps} {last : Int} {ks : List Lk.Key} (nd : Int) (l0 : 0 ≤ last) (l1 : last ≤ 4611686018427387904) (nn tt : Int) (key : ByteArray) {A : Option Addr} {k c : Nat} (hT : Tidy w tag) (h : WM w tag zw most q s0 s1 last ks) (m1 : 1 ≤ most)
    (hq : True) :
    Calls Tryz.prog 9 #[P zw, .agg (actc 7 nd nn tt key A k c)] w (ADid tag zw most q (Lk.tE nn ks) (Lk.tR last nn ks) noStr false 0 s0 s1 (Lk.tL last nn ks) (Lk.tK last nn ks) w) := by
  obtain ⟨W, hW⟩ : ∃ W, W = (w.alloc (.cells (actc 7 nd nn tt key A k c) 30)).alloc (.cells did0 34) := ⟨_, rfl⟩
  have lW : Lat w W := by rw [hW]; exact ((Lat.refl w).alloc _).alloc _
  have k3 : Blk W w.heap.size 30 (actc 7 nd nn tt key A k c) := by rw [hW]; exact (Blk.new w 30 _).alloc _
  have k4 : Blk W (w.heap.size + 1) 34 did0 := by
    rw [hW]
    have := Blk.new (w.alloc (.cells (actc 7 nd nn tt key A k c) 30)) 34 did0
    simpa using this
  have hWL := h.later lW
  obtain ⟨vA, ms, blk, hz, mm0, mm1, lk, an, hA⟩ := hWL
  obtain ⟨c0, c1, c2, c3, c4, c5, c6⟩ := wdcells blk
  obtain ⟨x0, x1, x2, x3, x4, x5⟩ := actcells k3
  have hask := wnone21 blk m1
  have his := wis27 blk m1 nd
  obtain ⟨⟨y0, y1, y2, y3, y4⟩, f0, f1, f2, f3, f4⟩ := didcells k4
  have HW := hid h
  have HL := hid lW
  have HK3 := hid k3
  have HK4 := hid k4
  have HT := hid hT
  have hC : ∀ X, Lat W X → Calls Tryz.prog 24 #[P q.lz, .int .i64 nn] X (KSent tag 21 q.lz (Lk.tR last nn ks) (Lk.tE nn ks) (Lk.tL last nn ks) (Lk.tK last nn ks) X) := fun X l => ktwice24 ((hT.below lW.size).below l.size) (lk.later l.b) l0 l1 nn
  have HC := hid hC
  have hfx : ∀ (X w2 : World) (tg2 : Nat → Nat), Lat W X → Turn (fun k => k = 21) X tag w2 tg2 → LK w2 tg2 21 q.lz (Lk.tL last nn ks) (Lk.tK last nn ks) → ∀ w3, Lat w2 w3 →
      (∀ (w' : World), w' = setd w3 (w.heap.size + 1) (Lk.tE nn ks) (Lk.tR last nn ks) noStr false (.slice none 0 0) → ADid tag zw most q (Lk.tE nn ks) (Lk.tR last nn ks) noStr false 0 s0 s1 (Lk.tL last nn ks) (Lk.tK last nn ks) w (.returned (didv (Lk.tE nn ks) (Lk.tR last nn ks) noStr false (.slice none 0 0))) w') ∧ Blk (setd w3 (w.heap.size + 1) (Lk.tE nn ks) (Lk.tR last nn ks) noStr false (.slice none 0 0)) (w.heap.size + 1) 34 #[.int .i64 (Lk.tE nn ks), .int .i64 (Lk.tR last nn ks), .string noStr, .bool false, .slice none 0 0] ∧ Blk w3 (w.heap.size + 1) 34 did0 := fun X w2 tg2 lX ht2 hl2 w3 l3 =>
    adid_fin (er := Lk.tE nn ks) (nr := Lk.tR last nn ks) (sv := noStr) (tb := false) (N := 0) (v := .slice none 0 0) (n := 0) (xs := []) HT.out HL.out (by omega) HK4.out (((lX.turn (HT.out.below HL.out.size) Wp).trans (ht2.more fun i hi => by subst hi; unfold Wp; omega)).lat l3) ((((HW.out.later HL.out).later lX).link ht2 hl2).later l3) (Sl.nil_ _ _ _ _) (Nat.le_refl _) (fun u hu => by cases hu)
  have HF := hid hfx
  clear blk mm0 mm1 lk an lW k3 k4 hT h hz hA hC hfx l0 l1 hq
  go_enter Tryz.func9, Tryz.ntmps9
  go_upto_region 1 with fail
  rw [← hW]
  clear hW
  go_upto_region 7 with (go_at_call 21; (with_reducible refine hask.mono ?_); rintro e1 w1 ⟨rfl, rfl⟩)
  refine still_panic ?_
  go_region_law (first
    | (go_simp; go_at_call 24; (with_reducible refine (HC.out _ (by repeat (first | exact Lat.refl _ | refine Lat.drew ?_ | refine Lat.drewN ?_ _ | refine Lat.alloc ?_ _))).mono ?_); rintro e2 w2 ⟨rfl, tg2, ht2, hl2⟩)
    | (go_simp; go_at_call 22; (with_reducible refine (wtold22 _ _ _).mono ?_); rintro e3 w3 ⟨rfl, hb3⟩; have l3 : Lat w2 w3 := ⟨hb3⟩; have hft := HF.out _ w2 tg2 (by repeat (first | exact Lat.refl _ | refine Lat.drew ?_ | refine Lat.drewN ?_ _ | refine Lat.alloc ?_ _)) ht2 hl2 w3 l3; obtain ⟨⟨y0, y1, y2, y3, y4⟩, f0, f1, f2, f3, f4⟩ := didcells hft.2.2))
  all_goals
    obtain ⟨hfin, hkf, hkx⟩ := hft
    obtain ⟨⟨d0, d1, d2, d3, d4⟩, _⟩ := didcells hkf
    have HFN := hid hfin
    clear hfin hkf hkx
    refine noPanic_n ?_
    go_wp2_with fail
    refine bodyPost_ret (by simp [results, Tryz.results9, go_sem, d0, d1, d2, d3, d4]; try rfl) rfl ?_
    exact HFN.out _ rfl
set_option maxHeartbeats 4000000 in
set_option maxRecDepth 100000 in
theorem wdo9_drop {w : World} {tag : Nat → Nat} {zw : Nat} {most : Int} {q : Wz} {s0 s1 : Ps} {last : Int} {ks : List Lk.Key} (nd : Int) (l0 : 0 ≤ last) (l1 : last ≤ 4611686018427387904) (nn tt : Int) (key : ByteArray) {A : Option Addr} {k c : Nat} (hT : Tidy w tag) (h : WM w tag zw most q s0 s1 last ks) (m1 : 1 ≤ most)
    (hq : True) :
    Calls Tryz.prog 9 #[P zw, .agg (actc 8 nd nn tt key A k c)] w (ADid tag zw most q (Lk.dE nn ks) (0) noStr false 0 s0 s1 (last) (Lk.dK nn ks) w) := by
  obtain ⟨W, hW⟩ : ∃ W, W = (w.alloc (.cells (actc 8 nd nn tt key A k c) 30)).alloc (.cells did0 34) := ⟨_, rfl⟩
  have lW : Lat w W := by rw [hW]; exact ((Lat.refl w).alloc _).alloc _
  have k3 : Blk W w.heap.size 30 (actc 8 nd nn tt key A k c) := by rw [hW]; exact (Blk.new w 30 _).alloc _
  have k4 : Blk W (w.heap.size + 1) 34 did0 := by
    rw [hW]
    have := Blk.new (w.alloc (.cells (actc 8 nd nn tt key A k c) 30)) 34 did0
    simpa using this
  have hWL := h.later lW
  obtain ⟨vA, ms, blk, hz, mm0, mm1, lk, an, hA⟩ := hWL
  obtain ⟨c0, c1, c2, c3, c4, c5, c6⟩ := wdcells blk
  obtain ⟨x0, x1, x2, x3, x4, x5⟩ := actcells k3
  have hask := wnone21 blk m1
  have his := wis27 blk m1 nd
  obtain ⟨⟨y0, y1, y2, y3, y4⟩, f0, f1, f2, f3, f4⟩ := didcells k4
  have HW := hid h
  have HL := hid lW
  have HK3 := hid k3
  have HK4 := hid k4
  have HT := hid hT
  have hC : ∀ X, Lat W X → Calls Tryz.prog 25 #[P q.lz, .int .i64 nn] X (fun en w' => en = .returned (.int .i64 (Lk.dE nn ks)) ∧ ∃ tag', Turn (fun k => k = 21) X tag w' tag' ∧ LK w' tag' 21 q.lz last (Lk.dK nn ks)) := fun X l => kdrop25 ((hT.below lW.size).below l.size) (lk.later l.b) nn
  have HC := hid hC
  have hfx : ∀ (X w2 : World) (tg2 : Nat → Nat), Lat W X → Turn (fun k => k = 21) X tag w2 tg2 → LK w2 tg2 21 q.lz (last) (Lk.dK nn ks) → ∀ w3, Lat w2 w3 →
      (∀ (w' : World), w' = setd w3 (w.heap.size + 1) (Lk.dE nn ks) (0) noStr false (.slice none 0 0) → ADid tag zw most q (Lk.dE nn ks) (0) noStr false 0 s0 s1 (last) (Lk.dK nn ks) w (.returned (didv (Lk.dE nn ks) (0) noStr false (.slice none 0 0))) w') ∧ Blk (setd w3 (w.heap.size + 1) (Lk.dE nn ks) (0) noStr false (.slice none 0 0)) (w.heap.size + 1) 34 #[.int .i64 (Lk.dE nn ks), .int .i64 (0), .string noStr, .bool false, .slice none 0 0] ∧ Blk w3 (w.heap.size + 1) 34 did0 := fun X w2 tg2 lX ht2 hl2 w3 l3 =>
    adid_fin (er := Lk.dE nn ks) (nr := 0) (sv := noStr) (tb := false) (N := 0) (v := .slice none 0 0) (n := 0) (xs := []) HT.out HL.out (by omega) HK4.out (((lX.turn (HT.out.below HL.out.size) Wp).trans (ht2.more fun i hi => by subst hi; unfold Wp; omega)).lat l3) ((((HW.out.later HL.out).later lX).link ht2 hl2).later l3) (Sl.nil_ _ _ _ _) (Nat.le_refl _) (fun u hu => by cases hu)
  have HF := hid hfx
  clear blk mm0 mm1 lk an lW k3 k4 hT h hz hA hC hfx l0 l1 hq
  go_enter Tryz.func9, Tryz.ntmps9
  go_upto_region 1 with fail
  rw [← hW]
  clear hW
  go_upto_region 9 with (go_at_call 21; (with_reducible refine hask.mono ?_); rintro e1 w1 ⟨rfl, rfl⟩)
  refine still_panic ?_
  go_region_law (first
    | (go_simp; go_at_call 25; (with_reducible refine (HC.out _ (by repeat (first | exact Lat.refl _ | refine Lat.drew ?_ | refine Lat.drewN ?_ _ | refine Lat.alloc ?_ _))).mono ?_); rintro e2 w2 ⟨rfl, tg2, ht2, hl2⟩)
    | (go_simp; go_at_call 22; (with_reducible refine (wtold22 _ _ _).mono ?_); rintro e3 w3 ⟨rfl, hb3⟩; have l3 : Lat w2 w3 := ⟨hb3⟩; have hft := HF.out _ w2 tg2 (by repeat (first | exact Lat.refl _ | refine Lat.drew ?_ | refine Lat.drewN ?_ _ | refine Lat.alloc ?_ _)) ht2 hl2 w3 l3; obtain ⟨⟨y0, y1, y2, y3, y4⟩, f0, f1, f2, f3, f4⟩ := didcells hft.2.2))
  all_goals
    obtain ⟨hfin, hkf, hkx⟩ := hft
    obtain ⟨⟨d0, d1, d2, d3, d4⟩, _⟩ := didcells hkf
    have HFN := hid hfin
    clear hfin hkf hkx
    refine noPanic_n ?_
    go_wp2_with fail
    refine bodyPost_ret (by simp [results, Tryz.results9, go_sem, d0, d1, d2, d3, d4]; try rfl) rfl ?_
    exact HFN.out _ rfl
end Go.Proofs.YtbpnbcjgkbpmgaaGreat
