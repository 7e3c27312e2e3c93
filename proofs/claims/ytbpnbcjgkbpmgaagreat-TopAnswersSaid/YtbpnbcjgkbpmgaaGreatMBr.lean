/- A primary answers without waiting for the other site, as many times as its leash allows: of any acts. No condition. (part 44) -/
import Derived.Test.YtbpnbcjgkbpmgaaGreatMBq
namespace Go.Proofs.YtbpnbcjgkbpmgaaGreat
open Go.RowKit Go.Lg Go.Shelf Ds St
set_option linter.unusedVariables false
set_option linter.unusedSimpArgs false
attribute [local go_sem] field34_4 Oper.semAt_some
theorem adid_pass {w W X : World} {tag : Nat → Nat} {zw : Nat} {most : Int} {q : Wz} {er nr : Int} {sv : ByteArray} {tb : Bool} {N : Nat} {s0 s1 : Ps} {last : Int} {ks : List Lk.Key} {e : Ending} {bx : Nat} (hT : Tidy w tag) (lW : Lat w W) (hbx : w.heap.size ≤ bx) (kb : Blk W bx 34 did0)
    (h : ADid tag zw most q er nr sv tb N s0 s1 last ks W e X) :
    ∃ A n c, e = .returned (didv er nr sv tb (.slice A n c)) ∧ (∀ (w' : World), w' = setd X bx er nr sv tb (.slice A n c) → ADid tag zw most q er nr sv tb N s0 s1 last ks w (.returned (didv er nr sv tb (.slice A n c))) w') ∧ Blk (setd X bx er nr sv tb (.slice A n c)) bx 34 #[.int .i64 er, .int .i64 nr, .string sv, .bool tb, .slice A n c] ∧ Blk X bx 34 did0 := by
  obtain ⟨v, n, xs, tag', rfl, ht, hw, hs, hn, h1⟩ := h
  obtain ⟨A, c, hv, _⟩ := hs.slice_
  subst hv
  obtain ⟨h2, h3, h4⟩ := adid_fin (er := er) (nr := nr) (sv := sv) (tb := tb) hT lW hbx kb ht hw (hs.to fun k hk => ⟨Nat.le_trans lW.size hk.1, hk.2⟩) hn h1
  exact ⟨A, n, c, rfl, h2, h3, h4⟩
set_option maxHeartbeats 4000000 in
set_option maxRecDepth 100000 in
theorem wat28_commit {w : World} {tag : Nat → Nat} {zw : Nat} {most : Int} {q : Wz} {s0 s1 : Ps} {last : Int} {ks : List Lk.Key} {er nr : Int} {sv : ByteArray} {tb : Bool} {N : Nat} {s0' s1' : Ps} {last' : Int} {ks' : List Lk.Key} (nn tt : Int) (key : ByteArray) {A : Option Addr} {k c : Nat} (hT : Tidy w tag) (h : WM w tag zw most q s0 s1 last ks)
    (hC : ∀ X, Lat w X → Calls Tryz.prog 53 #[P zw, .agg (actc 1 0 nn tt key A k c)] X (ADid tag zw most q er nr sv tb N s0' s1' last' ks' X)) :
    Calls Tryz.prog 28 #[P zw, .agg (actc 1 0 nn tt key A k c)] w (ADid tag zw most q er nr sv tb N s0' s1' last' ks' w) := by
  obtain ⟨W, hW⟩ : ∃ W, W = (w.alloc (.cells (actc 1 0 nn tt key A k c) 30)).alloc (.cells did0 34) := ⟨_, rfl⟩
  have lW : Lat w W := by rw [hW]; exact ((Lat.refl w).alloc _).alloc _
  have k3 : Blk W w.heap.size 30 (actc 1 0 nn tt key A k c) := by rw [hW]; exact (Blk.new w 30 _).alloc _
  have k4 : Blk W (w.heap.size + 1) 34 did0 := by
    rw [hW]
    have := Blk.new (w.alloc (.cells (actc 1 0 nn tt key A k c) 30)) 34 did0
    simpa using this
  obtain ⟨vA, ms, blk, hz, mm0, mm1, lk, an, hA⟩ := h.later lW
  obtain ⟨c0, c1, c2, c3, c4, c5, c6⟩ := wdcells blk
  obtain ⟨x0, x1, x2, x3, x4, x5⟩ := actcells k3
  have HW := hid h
  have HL := hid lW
  have HK3 := hid k3
  have HK4 := hid k4
  have HT := hid hT
  obtain ⟨v0, v1, v2, v3, v4, v5, v6⟩ := wdcells (blk.alloc (.cells #[.pointer none, .pointer none] 67))
  obtain ⟨u0, u1, u2, u3, u4, u5⟩ := actcells (k3.alloc (.cells #[.pointer none, .pointer none] 67))
  have HC := hid hC
  clear blk mm0 mm1 lk an lW k3 k4 hT h hz hA hC
  go_enter Tryz.func28, Tryz.ntmps28
  go_upto_region 1 with fail
  rw [← hW]
  clear hW
  refine' merge0 (fun X => Lat W X ∧ Blk X W.heap.size 67 #[P q.d0, P q.n0]) ?h1 (fun w5 h5 => ?h2)
  case h1 =>
    go_region_law (fail)
    all_goals
      exact ⟨rfl, ((Lat.refl W).alloc _).drew, Blk.new W 67 _⟩
  obtain ⟨l5, k5⟩ := h5
  have z0 : w5.cell? ⟨W.heap.size, 0, none⟩ = some (P q.d0) := k5.cell 0
  have z1 : w5.cell? ⟨W.heap.size, 1, none⟩ = some (P q.n0) := k5.cell 1
  have kk4 := l5.blk HK4.out
  obtain ⟨x0, x1, x2, x3, x4, x5⟩ := actcells (l5.blk HK3.out)
  obtain ⟨⟨y0, y1, y2, y3, y4⟩, f0, f1, f2, f3, f4⟩ := didcells kk4
  have l5w := HL.out.trans l5
  have HL5 := hid l5w
  have HK5 := hid kk4
  clear l5 k5 kk4 l5w v0 v1 v2 v3 v4 v5 v6 u0 u1 u2 u3 u4 u5 c0 c1 c2 c3 c4 c5 c6
  go_wp2_with (go_at_call 53; refine stop_ (fun Ps hPs => ?_))
  refine hPs ?_
  clear hPs Ps
  refine (HC.out _ HL5.out).mono ?_
  rintro e' w6 had
  obtain ⟨A6, n6, c6', rfl, hfin, hkf, hkx⟩ := adid_pass HT.out HL5.out (by omega) HK5.out had
  clear x0 x1 x2 x3 x4 x5 y0 y1 y2 y3 y4 f0 f1 f2 f3 f4 z0 z1
  obtain ⟨⟨y0, y1, y2, y3, y4⟩, f0, f1, f2, f3, f4⟩ := didcells hkx
  obtain ⟨⟨d0, d1, d2, d3, d4⟩, _⟩ := didcells hkf
  have HF := hid hfin
  clear hfin hkf hkx
  go_wp2_with fail
  refine bodyPost_ret (by simp [results, Tryz.results28, go_sem, d0, d1, d2, d3, d4]; try rfl) rfl ?_
  exact HF.out _ rfl
set_option maxHeartbeats 4000000 in
set_option maxRecDepth 100000 in
theorem wat28_tick0 {w : World} {tag : Nat → Nat} {zw : Nat} {most : Int} {q : Wz} {s0 s1 : Ps} {last : Int} {ks : List Lk.Key} {er nr : Int} {sv : ByteArray} {tb : Bool} {N : Nat} {s0' s1' : Ps} {last' : Int} {ks' : List Lk.Key} (nn tt : Int) (key : ByteArray) {A : Option Addr} {k c : Nat} (hT : Tidy w tag) (h : WM w tag zw most q s0 s1 last ks)
    (hC : ∀ X, Lat w X → Calls Tryz.prog 51 #[P zw, .int .i64 0] X (ADid tag zw most q er nr sv tb N s0' s1' last' ks' X)) :
    Calls Tryz.prog 28 #[P zw, .agg (actc 3 0 nn tt key A k c)] w (ADid tag zw most q er nr sv tb N s0' s1' last' ks' w) := by
  obtain ⟨W, hW⟩ : ∃ W, W = (w.alloc (.cells (actc 3 0 nn tt key A k c) 30)).alloc (.cells did0 34) := ⟨_, rfl⟩
  have lW : Lat w W := by rw [hW]; exact ((Lat.refl w).alloc _).alloc _
  have k3 : Blk W w.heap.size 30 (actc 3 0 nn tt key A k c) := by rw [hW]; exact (Blk.new w 30 _).alloc _
  have k4 : Blk W (w.heap.size + 1) 34 did0 := by
    rw [hW]
    have := Blk.new (w.alloc (.cells (actc 3 0 nn tt key A k c) 30)) 34 did0
    simpa using this
  obtain ⟨vA, ms, blk, hz, mm0, mm1, lk, an, hA⟩ := h.later lW
  obtain ⟨c0, c1, c2, c3, c4, c5, c6⟩ := wdcells blk
  obtain ⟨x0, x1, x2, x3, x4, x5⟩ := actcells k3
  have HW := hid h
  have HL := hid lW
  have HK3 := hid k3
  have HK4 := hid k4
  have HT := hid hT
  obtain ⟨v0, v1, v2, v3, v4, v5, v6⟩ := wdcells (blk.alloc (.cells #[.pointer none, .pointer none] 67))
  obtain ⟨u0, u1, u2, u3, u4, u5⟩ := actcells (k3.alloc (.cells #[.pointer none, .pointer none] 67))
  have HC := hid hC
  clear blk mm0 mm1 lk an lW k3 k4 hT h hz hA hC
  go_enter Tryz.func28, Tryz.ntmps28
  go_upto_region 1 with fail
  rw [← hW]
  clear hW
  refine' merge0 (fun X => Lat W X ∧ Blk X W.heap.size 67 #[P q.d0, P q.n0]) ?h1 (fun w5 h5 => ?h2)
  case h1 =>
    go_region_law (fail)
    all_goals
      exact ⟨rfl, ((Lat.refl W).alloc _).drew, Blk.new W 67 _⟩
  obtain ⟨l5, k5⟩ := h5
  have z0 : w5.cell? ⟨W.heap.size, 0, none⟩ = some (P q.d0) := k5.cell 0
  have z1 : w5.cell? ⟨W.heap.size, 1, none⟩ = some (P q.n0) := k5.cell 1
  have kk4 := l5.blk HK4.out
  obtain ⟨x0, x1, x2, x3, x4, x5⟩ := actcells (l5.blk HK3.out)
  obtain ⟨⟨y0, y1, y2, y3, y4⟩, f0, f1, f2, f3, f4⟩ := didcells kk4
  have l5w := HL.out.trans l5
  have HL5 := hid l5w
  have HK5 := hid kk4
  clear l5 k5 kk4 l5w v0 v1 v2 v3 v4 v5 v6 u0 u1 u2 u3 u4 u5 c0 c1 c2 c3 c4 c5 c6
  go_wp2_with (go_at_call 51; refine stop_ (fun Ps hPs => ?_))
  refine hPs ?_
  clear hPs Ps
  refine (HC.out _ HL5.out).mono ?_
  rintro e' w6 had
  obtain ⟨A6, n6, c6', rfl, hfin, hkf, hkx⟩ := adid_pass HT.out HL5.out (by omega) HK5.out had
  clear x0 x1 x2 x3 x4 x5 y0 y1 y2 y3 y4 f0 f1 f2 f3 f4 z0 z1
  obtain ⟨⟨y0, y1, y2, y3, y4⟩, f0, f1, f2, f3, f4⟩ := didcells hkx
  obtain ⟨⟨d0, d1, d2, d3, d4⟩, _⟩ := didcells hkf
  have HF := hid hfin
  clear hfin hkf hkx
  go_wp2_with fail
  refine bodyPost_ret (by simp [results, Tryz.results28, go_sem, d0, d1, d2, d3, d4]; try rfl) rfl ?_
  exact HF.out _ rfl
set_option maxHeartbeats 4000000 in
set_option maxRecDepth 100000 in
theorem wat28_tick1 {w : World} {tag : Nat → Nat} {zw : Nat} {most : Int} {q : Wz} {s0 s1 : Ps} {last : Int} {ks : List Lk.Key} {er nr : Int} {sv : ByteArray} {tb : Bool} {N : Nat} {s0' s1' : Ps} {last' : Int} {ks' : List Lk.Key} (nn tt : Int) (key : ByteArray) {A : Option Addr} {k c : Nat} (hT : Tidy w tag) (h : WM w tag zw most q s0 s1 last ks)
    (hC : ∀ X, Lat w X → Calls Tryz.prog 51 #[P zw, .int .i64 1] X (ADid tag zw most q er nr sv tb N s0' s1' last' ks' X)) :
    Calls Tryz.prog 28 #[P zw, .agg (actc 3 1 nn tt key A k c)] w (ADid tag zw most q er nr sv tb N s0' s1' last' ks' w) := by
  obtain ⟨W, hW⟩ : ∃ W, W = (w.alloc (.cells (actc 3 1 nn tt key A k c) 30)).alloc (.cells did0 34) := ⟨_, rfl⟩
  have lW : Lat w W := by rw [hW]; exact ((Lat.refl w).alloc _).alloc _
  have k3 : Blk W w.heap.size 30 (actc 3 1 nn tt key A k c) := by rw [hW]; exact (Blk.new w 30 _).alloc _
  have k4 : Blk W (w.heap.size + 1) 34 did0 := by
    rw [hW]
    have := Blk.new (w.alloc (.cells (actc 3 1 nn tt key A k c) 30)) 34 did0
    simpa using this
  obtain ⟨vA, ms, blk, hz, mm0, mm1, lk, an, hA⟩ := h.later lW
  obtain ⟨c0, c1, c2, c3, c4, c5, c6⟩ := wdcells blk
  obtain ⟨x0, x1, x2, x3, x4, x5⟩ := actcells k3
  have HW := hid h
  have HL := hid lW
  have HK3 := hid k3
  have HK4 := hid k4
  have HT := hid hT
  obtain ⟨v0, v1, v2, v3, v4, v5, v6⟩ := wdcells (blk.alloc (.cells #[.pointer none, .pointer none] 67))
  obtain ⟨u0, u1, u2, u3, u4, u5⟩ := actcells (k3.alloc (.cells #[.pointer none, .pointer none] 67))
  have HC := hid hC
  clear blk mm0 mm1 lk an lW k3 k4 hT h hz hA hC
  go_enter Tryz.func28, Tryz.ntmps28
  go_upto_region 1 with fail
  rw [← hW]
  clear hW
  refine' merge0 (fun X => Lat W X ∧ Blk X W.heap.size 67 #[P q.d1, P q.n1]) ?h1 (fun w5 h5 => ?h2)
  case h1 =>
    go_region_law (fail)
    all_goals
      exact ⟨rfl, ((Lat.refl W).alloc _).drew, Blk.new W 67 _⟩
  obtain ⟨l5, k5⟩ := h5
  have z0 : w5.cell? ⟨W.heap.size, 0, none⟩ = some (P q.d1) := k5.cell 0
  have z1 : w5.cell? ⟨W.heap.size, 1, none⟩ = some (P q.n1) := k5.cell 1
  have kk4 := l5.blk HK4.out
  obtain ⟨x0, x1, x2, x3, x4, x5⟩ := actcells (l5.blk HK3.out)
  obtain ⟨⟨y0, y1, y2, y3, y4⟩, f0, f1, f2, f3, f4⟩ := didcells kk4
  have l5w := HL.out.trans l5
  have HL5 := hid l5w
  have HK5 := hid kk4
  clear l5 k5 kk4 l5w v0 v1 v2 v3 v4 v5 v6 u0 u1 u2 u3 u4 u5 c0 c1 c2 c3 c4 c5 c6
  go_wp2_with (go_at_call 51; refine stop_ (fun Ps hPs => ?_))
  refine hPs ?_
  clear hPs Ps
  refine (HC.out _ HL5.out).mono ?_
  rintro e' w6 had
  obtain ⟨A6, n6, c6', rfl, hfin, hkf, hkx⟩ := adid_pass HT.out HL5.out (by omega) HK5.out had
  clear x0 x1 x2 x3 x4 x5 y0 y1 y2 y3 y4 f0 f1 f2 f3 f4 z0 z1
  obtain ⟨⟨y0, y1, y2, y3, y4⟩, f0, f1, f2, f3, f4⟩ := didcells hkx
  obtain ⟨⟨d0, d1, d2, d3, d4⟩, _⟩ := didcells hkf
  have HF := hid hfin
  clear hfin hkf hkx
  go_wp2_with fail
  refine bodyPost_ret (by simp [results, Tryz.results28, go_sem, d0, d1, d2, d3, d4]; try rfl) rfl ?_
  exact HF.out _ rfl
set_option maxHeartbeats 4000000 in
set_option maxRecDepth 100000 in
theorem wat28_read0 {w : World} {tag : Nat → Nat} {zw : Nat} {most : Int} {q : Wz} {s0 s1 : Ps} {last : Int} {ks : List Lk.Key} {rs : ByteArray × Bool} (nn tt : Int) (key : ByteArray) {A : Option Addr} {k c : Nat} (hT : Tidy w tag) (h : WM w tag zw most q s0 s1 last ks)
    (hC : ∀ X, Lat w X → Calls Tryz.prog 54 #[P q.n0, .string key] X fun e w' => e = .returned (.tuple #[.string rs.1, .bool rs.2, .int .i64 0]) ∧ Below X.heap.size X w') :
    Calls Tryz.prog 28 #[P zw, .agg (actc 2 0 nn tt key A k c)] w (ADid tag zw most q 0 0 rs.1 rs.2 0 s0 s1 last ks w) := by
  obtain ⟨W, hW⟩ : ∃ W, W = (w.alloc (.cells (actc 2 0 nn tt key A k c) 30)).alloc (.cells did0 34) := ⟨_, rfl⟩
  have lW : Lat w W := by rw [hW]; exact ((Lat.refl w).alloc _).alloc _
  have k3 : Blk W w.heap.size 30 (actc 2 0 nn tt key A k c) := by rw [hW]; exact (Blk.new w 30 _).alloc _
  have k4 : Blk W (w.heap.size + 1) 34 did0 := by
    rw [hW]
    have := Blk.new (w.alloc (.cells (actc 2 0 nn tt key A k c) 30)) 34 did0
    simpa using this
  obtain ⟨vA, ms, blk, hz, mm0, mm1, lk, an, hA⟩ := h.later lW
  obtain ⟨c0, c1, c2, c3, c4, c5, c6⟩ := wdcells blk
  obtain ⟨x0, x1, x2, x3, x4, x5⟩ := actcells k3
  have HW := hid h
  have HL := hid lW
  have HK3 := hid k3
  have HK4 := hid k4
  have HT := hid hT
  obtain ⟨v0, v1, v2, v3, v4, v5, v6⟩ := wdcells (blk.alloc (.cells #[.pointer none, .pointer none] 67))
  obtain ⟨u0, u1, u2, u3, u4, u5⟩ := actcells (k3.alloc (.cells #[.pointer none, .pointer none] 67))
  have HC := hid hC
  clear blk mm0 mm1 lk an lW k3 k4 hT h hz hA hC
  go_enter Tryz.func28, Tryz.ntmps28
  go_upto_region 1 with fail
  rw [← hW]
  clear hW
  refine' merge0 (fun X => Lat W X ∧ Blk X W.heap.size 67 #[P q.d0, P q.n0]) ?h1 (fun w5 h5 => ?h2)
  case h1 =>
    go_region_law (fail)
    all_goals
      exact ⟨rfl, ((Lat.refl W).alloc _).drew, Blk.new W 67 _⟩
  obtain ⟨l5, k5⟩ := h5
  have z0 : w5.cell? ⟨W.heap.size, 0, none⟩ = some (P q.d0) := k5.cell 0
  have z1 : w5.cell? ⟨W.heap.size, 1, none⟩ = some (P q.n0) := k5.cell 1
  have kk4 := l5.blk HK4.out
  obtain ⟨x0, x1, x2, x3, x4, x5⟩ := actcells (l5.blk HK3.out)
  obtain ⟨⟨y0, y1, y2, y3, y4⟩, f0, f1, f2, f3, f4⟩ := didcells kk4
  have l5w := HL.out.trans l5
  have HL5 := hid l5w
  have HK5 := hid kk4
  clear l5 k5 kk4 l5w v0 v1 v2 v3 v4 v5 v6 u0 u1 u2 u3 u4 u5 c0 c1 c2 c3 c4 c5 c6
  go_wp2_with (go_at_call 54; refine stop_ (fun Ps hPs => ?_))
  refine hPs ?_
  clear hPs Ps
  refine (HC.out _ HL5.out).mono ?_
  rintro e' w6 ⟨rfl, hb6⟩
  have l6 := HL5.out.below hb6
  obtain ⟨hfin, hkf, hkx⟩ := adid_fin (er := 0) (nr := 0) (sv := rs.1) (tb := rs.2) (N := 0) (v := .slice none 0 0) (n := 0) (xs := []) HT.out HL5.out (by omega) HK5.out ((show Lat w5 w6 from ⟨hb6⟩).turn (HT.out.below HL5.out.size) Wp) (HW.out.later l6) (Sl.nil_ _ _ _ _) (Nat.le_refl _) (fun u hu => by cases hu)
  clear x0 x1 x2 x3 x4 x5 y0 y1 y2 y3 y4 f0 f1 f2 f3 f4 z0 z1
  obtain ⟨⟨y0, y1, y2, y3, y4⟩, f0, f1, f2, f3, f4⟩ := didcells hkx
  obtain ⟨⟨d0, d1, d2, d3, d4⟩, _⟩ := didcells hkf
  have HF := hid hfin
  clear hfin hkf hkx
  go_wp2_with fail
  refine bodyPost_ret (by simp [results, Tryz.results28, go_sem, d0, d1, d2, d3, d4]; try rfl) rfl ?_
  exact HF.out _ rfl
set_option maxHeartbeats 4000000 in
set_option maxRecDepth 100000 in
theorem wat28_read1 {w : World} {tag : Nat → Nat} {zw : Nat} {most : Int} {q : Wz} {s0 s1 : Ps} {last : Int} {ks : List Lk.Key} {rs : ByteArray × Bool} (nn tt : Int) (key : ByteArray) {A : Option Addr} {k c : Nat} (hT : Tidy w tag) (h : WM w tag zw most q s0 s1 last ks)
    (hC : ∀ X, Lat w X → Calls Tryz.prog 54 #[P q.n1, .string key] X fun e w' => e = .returned (.tuple #[.string rs.1, .bool rs.2, .int .i64 0]) ∧ Below X.heap.size X w') :
    Calls Tryz.prog 28 #[P zw, .agg (actc 2 1 nn tt key A k c)] w (ADid tag zw most q 0 0 rs.1 rs.2 0 s0 s1 last ks w) := by
  obtain ⟨W, hW⟩ : ∃ W, W = (w.alloc (.cells (actc 2 1 nn tt key A k c) 30)).alloc (.cells did0 34) := ⟨_, rfl⟩
  have lW : Lat w W := by rw [hW]; exact ((Lat.refl w).alloc _).alloc _
  have k3 : Blk W w.heap.size 30 (actc 2 1 nn tt key A k c) := by rw [hW]; exact (Blk.new w 30 _).alloc _
  have k4 : Blk W (w.heap.size + 1) 34 did0 := by
    rw [hW]
    have := Blk.new (w.alloc (.cells (actc 2 1 nn tt key A k c) 30)) 34 did0
    simpa using this
  obtain ⟨vA, ms, blk, hz, mm0, mm1, lk, an, hA⟩ := h.later lW
  obtain ⟨c0, c1, c2, c3, c4, c5, c6⟩ := wdcells blk
  obtain ⟨x0, x1, x2, x3, x4, x5⟩ := actcells k3
  have HW := hid h
  have HL := hid lW
  have HK3 := hid k3
  have HK4 := hid k4
  have HT := hid hT
  obtain ⟨v0, v1, v2, v3, v4, v5, v6⟩ := wdcells (blk.alloc (.cells #[.pointer none, .pointer none] 67))
  obtain ⟨u0, u1, u2, u3, u4, u5⟩ := actcells (k3.alloc (.cells #[.pointer none, .pointer none] 67))
  have HC := hid hC
  clear blk mm0 mm1 lk an lW k3 k4 hT h hz hA hC
  go_enter Tryz.func28, Tryz.ntmps28
  go_upto_region 1 with fail
  rw [← hW]
  clear hW
  refine' merge0 (fun X => Lat W X ∧ Blk X W.heap.size 67 #[P q.d1, P q.n1]) ?h1 (fun w5 h5 => ?h2)
  case h1 =>
    go_region_law (fail)
    all_goals
      exact ⟨rfl, ((Lat.refl W).alloc _).drew, Blk.new W 67 _⟩
  obtain ⟨l5, k5⟩ := h5
  have z0 : w5.cell? ⟨W.heap.size, 0, none⟩ = some (P q.d1) := k5.cell 0
  have z1 : w5.cell? ⟨W.heap.size, 1, none⟩ = some (P q.n1) := k5.cell 1
  have kk4 := l5.blk HK4.out
  obtain ⟨x0, x1, x2, x3, x4, x5⟩ := actcells (l5.blk HK3.out)
  obtain ⟨⟨y0, y1, y2, y3, y4⟩, f0, f1, f2, f3, f4⟩ := didcells kk4
  have l5w := HL.out.trans l5
  have HL5 := hid l5w
  have HK5 := hid kk4
  clear l5 k5 kk4 l5w v0 v1 v2 v3 v4 v5 v6 u0 u1 u2 u3 u4 u5 c0 c1 c2 c3 c4 c5 c6
  go_wp2_with (go_at_call 54; refine stop_ (fun Ps hPs => ?_))
  refine hPs ?_
  clear hPs Ps
  refine (HC.out _ HL5.out).mono ?_
  rintro e' w6 ⟨rfl, hb6⟩
  have l6 := HL5.out.below hb6
  obtain ⟨hfin, hkf, hkx⟩ := adid_fin (er := 0) (nr := 0) (sv := rs.1) (tb := rs.2) (N := 0) (v := .slice none 0 0) (n := 0) (xs := []) HT.out HL5.out (by omega) HK5.out ((show Lat w5 w6 from ⟨hb6⟩).turn (HT.out.below HL5.out.size) Wp) (HW.out.later l6) (Sl.nil_ _ _ _ _) (Nat.le_refl _) (fun u hu => by cases hu)
  clear x0 x1 x2 x3 x4 x5 y0 y1 y2 y3 y4 f0 f1 f2 f3 f4 z0 z1
  obtain ⟨⟨y0, y1, y2, y3, y4⟩, f0, f1, f2, f3, f4⟩ := didcells hkx
  obtain ⟨⟨d0, d1, d2, d3, d4⟩, _⟩ := didcells hkf
  have HF := hid hfin
  clear hfin hkf hkx
  go_wp2_with fail
  refine bodyPost_ret (by simp [results, Tryz.results28, go_sem, d0, d1, d2, d3, d4]; try rfl) rfl ?_
  exact HF.out _ rfl
set_option maxHeartbeats 4000000 in
set_option maxRecDepth 100000 in
theorem wat28_prom {w : World} {tag : Nat → Nat} {zw : Nat} {most : Int} {q : Wz} {s0 s1 : Ps} {last : Int} {ks : List Lk.Key} {nx : Int} {s0' s1' : Ps} (nn tt : Int) (key : ByteArray) {A : Option Addr} {k c : Nat} (hT : Tidy w tag) (h : WM w tag zw most q s0 s1 last ks)
    (hC : ∀ X, Lat w X → Calls Tryz.prog 55 #[P q.n1] X fun e w' => e = .returned (.tuple #[.int .i64 nx, .int .i64 0]) ∧ ∃ tag', Turn Wp X tag w' tag' ∧ WM w' tag' zw most q s0' s1' last ks) :
    Calls Tryz.prog 28 #[P zw, .agg (actc 4 1 nn tt key A k c)] w (ADid tag zw most q 0 nx noStr false 0 s0' s1' last ks w) := by
  obtain ⟨W, hW⟩ : ∃ W, W = (w.alloc (.cells (actc 4 1 nn tt key A k c) 30)).alloc (.cells did0 34) := ⟨_, rfl⟩
  have lW : Lat w W := by rw [hW]; exact ((Lat.refl w).alloc _).alloc _
  have k3 : Blk W w.heap.size 30 (actc 4 1 nn tt key A k c) := by rw [hW]; exact (Blk.new w 30 _).alloc _
  have k4 : Blk W (w.heap.size + 1) 34 did0 := by
    rw [hW]
    have := Blk.new (w.alloc (.cells (actc 4 1 nn tt key A k c) 30)) 34 did0
    simpa using this
  obtain ⟨vA, ms, blk, hz, mm0, mm1, lk, an, hA⟩ := h.later lW
  obtain ⟨c0, c1, c2, c3, c4, c5, c6⟩ := wdcells blk
  obtain ⟨x0, x1, x2, x3, x4, x5⟩ := actcells k3
  have HW := hid h
  have HL := hid lW
  have HK3 := hid k3
  have HK4 := hid k4
  have HT := hid hT
  obtain ⟨v0, v1, v2, v3, v4, v5, v6⟩ := wdcells (blk.alloc (.cells #[.pointer none, .pointer none] 67))
  obtain ⟨u0, u1, u2, u3, u4, u5⟩ := actcells (k3.alloc (.cells #[.pointer none, .pointer none] 67))
  have HC := hid hC
  clear blk mm0 mm1 lk an lW k3 k4 hT h hz hA hC
  go_enter Tryz.func28, Tryz.ntmps28
  go_upto_region 1 with fail
  rw [← hW]
  clear hW
  refine' merge0 (fun X => Lat W X ∧ Blk X W.heap.size 67 #[P q.d1, P q.n1]) ?h1 (fun w5 h5 => ?h2)
  case h1 =>
    go_region_law (fail)
    all_goals
      exact ⟨rfl, ((Lat.refl W).alloc _).drew, Blk.new W 67 _⟩
  obtain ⟨l5, k5⟩ := h5
  have z0 : w5.cell? ⟨W.heap.size, 0, none⟩ = some (P q.d1) := k5.cell 0
  have z1 : w5.cell? ⟨W.heap.size, 1, none⟩ = some (P q.n1) := k5.cell 1
  have kk4 := l5.blk HK4.out
  obtain ⟨x0, x1, x2, x3, x4, x5⟩ := actcells (l5.blk HK3.out)
  obtain ⟨⟨y0, y1, y2, y3, y4⟩, f0, f1, f2, f3, f4⟩ := didcells kk4
  have l5w := HL.out.trans l5
  have HL5 := hid l5w
  have HK5 := hid kk4
  clear l5 k5 kk4 l5w v0 v1 v2 v3 v4 v5 v6 u0 u1 u2 u3 u4 u5 c0 c1 c2 c3 c4 c5 c6
  go_wp2_with (go_at_call 55; refine stop_ (fun Ps hPs => ?_))
  refine hPs ?_
  clear hPs Ps
  refine (HC.out _ HL5.out).mono ?_
  rintro e' w6 ⟨rfl, tag6, ht6, hw6⟩
  have hx0 : tag (w.heap.size + 1) = 0 := HT.out _ (by omega)
  have kk6 : Blk w6 (w.heap.size + 1) 34 did0 := ht6.blk HK5.out (by rw [hx0]; exact wp_0)
  have HX6 := hid (And.intro ht6 (And.intro hw6 kk6))
  clear x0 x1 x2 x3 x4 x5 y0 y1 y2 y3 y4 f0 f1 f2 f3 f4 z0 z1 ht6 hw6 kk6
  go_wp2_with (go_at_call 22; refine stop_ (fun Ps hPs => ?_))
  refine hPs ?_
  clear hPs Ps
  refine (wtold22 _ _ _).mono ?_
  rintro e' w7 ⟨rfl, hb7⟩
  have l7 : Lat w6 w7 := ⟨hb7⟩
  obtain ⟨hfin, hkf, hkx⟩ := adid_fin (er := 0) (nr := nx) (sv := noStr) (tb := false) (N := 0) (v := .slice none 0 0) (n := 0) (xs := []) HT.out HL5.out (by omega) HK5.out (HX6.out.1.lat l7) (HX6.out.2.1.later l7) (Sl.nil_ _ _ _ _) (Nat.le_refl _) (fun u hu => by cases hu)
  obtain ⟨⟨y0, y1, y2, y3, y4⟩, f0, f1, f2, f3, f4⟩ := didcells hkx
  obtain ⟨⟨d0, d1, d2, d3, d4⟩, _⟩ := didcells hkf
  have HF := hid hfin
  clear hfin hkf hkx
  go_wp2_with fail
  refine bodyPost_ret (by simp [results, Tryz.results28, go_sem, d0, d1, d2, d3, d4]; try rfl) rfl ?_
  exact HF.out _ rfl
end Go.Proofs.YtbpnbcjgkbpmgaaGreat
