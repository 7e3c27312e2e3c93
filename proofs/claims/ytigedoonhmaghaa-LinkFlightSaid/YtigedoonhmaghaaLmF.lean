/- The chapter's first examples. -/
import Derived.Test.YtigedoonhmaghaaLlF
import Derived.Lib.SlBytesConst
import Derived.Lib.SmallJoins
namespace Go.Proofs.Ytigedoonhmaghaa
open Go.RowKit Go.Lg
variable {F : Nat}
set_option linter.unusedVariables false
set_option linter.unusedSimpArgs false

theorem LX.low {rf : Bool} {w w' : World} {B z : Nat} {last : Int} {sv : Value} {ls : List Lt} (h : LX F rf w B z last sv ls) (hT : Two z sv.ownBlock w w') : Below B w w' := hT.below h.leB h.hB (fun g hg => (h.own.lt g hg).1)
/-- One byte just laid. -/
theorem rd_one (w : World) (x : UInt8) : Rd (w.alloc (.cells #[.int .u8 (x.toNat : Int)] 5 (1, 2))) (w.alloc (.cells #[.int .u8 (x.toNat : Int)] 5 (1, 2))).heap.size 1 (some ⟨w.heap.size, 0, none⟩) 1 (bts [x]) := by
  rw [World.size_alloc]
  exact Rd.lit w #[.int .u8 (x.toNat : Int)] 5 (1, 2) 1 rfl
set_option maxHeartbeats 4000000 in
set_option maxRecDepth 100000 in
theorem lives8 (w : World) : Calls Try.prog 8 #[] w fun e w' => e = .returned (.bool true) ∧ Below w.heap.size w w' := by
  obtain ⟨B, hB⟩ : ∃ B, B = w.heap.size := ⟨_, rfl⟩
  have HB := hid hB
  rw [← hB]
  clear hB
  have kc := fun (w : World) (C : Array Value) (n c : Nat) => Lib.run_convert_bytes_const (P := Try.prog) w 29 5 C n c Try.underlying29 Try.underlying5
  go_enter Try.func8, Try.ntmps8
  go_wp2_with (go_at_call 9; refine stop_ (fun Ps hPs => ?_))
  refine hPs ?_
  clear hPs Ps
  refine (new9 (F := w.heap.size) w (Nat.le_refl _)).mono ?_
  rintro e w1 ⟨z, rfl, h1, hb1, hz1⟩
  rw [← HB.out] at h1 hb1
  have H1 := hid h1
  have L1 := hid hb1
  clear h1 hb1 hz1
  -- Send(1, "a")
  obtain ⟨X1, hX1⟩ : ∃ X1, X1 = w1.alloc (.cells #[.int .u8 97] 5 (1, 2)) := ⟨_, rfl⟩
  have hbX1 := (Below.refl w1.heap.size w1).alloc (Nat.le_refl _) (.cells #[.int .u8 97] 5 (1, 2))
  have hr1 := rd_one w1 97
  have e97 : ((97 : UInt8).toNat : Int) = 97 := rfl
  rw [e97, ← hX1] at hr1
  rw [← hX1] at hbX1
  have HS1 := hid (send10 (H1.out.later hbX1) (by decide) (by decide) 1 (some ⟨w1.heap.size, 0, none⟩) 1 1 [97] hr1 (by decide))
  have M1 := hid (L1.out.trans (hbX1.mono (by have := H1.out.leB; omega)))
  have N1 := hid (H1.out.later hbX1)
  clear hbX1 hr1 e97
  go_wp2_with (go_at_call 10; refine stop_ (fun Ps hPs => ?_))
  refine hPs ?_
  clear hPs Ps
  rw [← hX1]
  clear hX1
  refine HS1.out.mono ?_
  rintro e w2 ⟨rfl, sv2, ls2, hk2, h2, hT2, _⟩
  rw [show sL 0 1 (([] : List Lt).map Lt.k) = 1 from rfl] at h2
  rw [show sK 0 1 [97] (([] : List Lt).map Lt.k) = [(1, 1, [97])] from rfl] at hk2
  rw [show sR 0 1 (([] : List Lt).map Lt.k) = 1 from rfl, show sE 1 (([] : List Lt).map Lt.k) = 0 from rfl]
  have H2 := hid h2
  have L2 := hid (M1.out.trans (N1.out.low hT2))
  have K2 := hid hk2
  clear h2 hk2 hT2 N1 M1 HS1
  simp only [two]
  -- Send(0, "b")
  obtain ⟨X2, hX2⟩ : ∃ X2, X2 = w2.alloc (.cells #[.int .u8 98] 5 (1, 2)) := ⟨_, rfl⟩
  have hbX2 := (Below.refl w2.heap.size w2).alloc (Nat.le_refl _) (.cells #[.int .u8 98] 5 (1, 2))
  have hr2 := rd_one w2 98
  have e98 : ((98 : UInt8).toNat : Int) = 98 := rfl
  rw [e98, ← hX2] at hr2
  rw [← hX2] at hbX2
  have hs2 := send10 (H2.out.later hbX2) (by decide) (by decide) 0 (some ⟨w2.heap.size, 0, none⟩) 1 1 [98] hr2 (by decide)
  rw [K2.out] at hs2
  have HS2 := hid hs2
  have M2 := hid (L2.out.trans (hbX2.mono (by have := H2.out.leB; omega)))
  have N2 := hid (H2.out.later hbX2)
  clear hbX2 hr2 e98 hs2
  go_wp2_with (go_at_call 10; refine stop_ (fun Ps hPs => ?_))
  refine hPs ?_
  clear hPs Ps
  rw [← hX2]
  clear hX2
  refine HS2.out.mono ?_
  rintro e w3 ⟨rfl, sv3, ls3, hk3, h3, hT3, _⟩
  rw [show sL 1 0 [((1, 1, [97]) : Key)] = 2 from rfl] at h3
  rw [show sK 1 0 [98] [((1, 1, [97]) : Key)] = [(1, 1, [97]), (2, 0, [98])] from rfl] at hk3
  rw [show sR 1 0 [((1, 1, [97]) : Key)] = 2 from rfl, show sE 0 [((1, 1, [97]) : Key)] = 0 from rfl]
  have H3 := hid h3
  have L3 := hid (M2.out.trans (N2.out.low hT3))
  have K3 := hid hk3
  clear h3 hk3 hT3 N2 M2 HS2
  simp only [two]
  -- Twice(1)
  have ht3 := twice11 H3.out (by decide) (by decide) 1
  rw [K3.out] at ht3
  have HS3 := hid ht3
  clear ht3
  go_wp2_with (go_at_call 11; refine stop_ (fun Ps hPs => ?_))
  refine hPs ?_
  clear hPs Ps
  refine HS3.out.mono ?_
  rintro e w4 ⟨rfl, sv4, ls4, hk4, h4, hT4, _⟩
  rw [show tL 2 1 [((1, 1, [97]) : Key), (2, 0, [98])] = 3 by decide] at h4
  rw [show tK 2 1 [((1, 1, [97]) : Key), (2, 0, [98])] = [(1, 1, [97]), (2, 0, [98]), (3, 1, [97])] by decide] at hk4
  rw [show tR 2 1 [((1, 1, [97]) : Key), (2, 0, [98])] = 3 by decide, show tE 1 [((1, 1, [97]) : Key), (2, 0, [98])] = 0 by decide]
  have H4 := hid h4
  have L4 := hid (L3.out.trans (H3.out.low hT4))
  have K4 := hid hk4
  clear h4 hk4 hT4 HS3
  simp only [two]
  have HF := hid (flight21 H4.out)
  go_wp2_with (go_at_call 21; refine stop_ (fun Ps hPs => ?_))
  refine hPs ?_
  clear hPs Ps
  refine HF.out.mono ?_
  rintro e w5 ⟨v5, ls5, rfl, ho5, hf5, hb5⟩
  obtain ⟨A5, c5, rfl, _, _⟩ := owned_slice ho5
  have HO5 := hid ho5
  have HF5 := hid hf5
  have L5 := hid (L4.out.trans (hb5.mono (by have := H4.out.leB; omega)))
  have hm5 := hf5.keys
  rw [List.take_of_length_le (Nat.le_refl _), K4.out] at hm5
  have HM5 := hid hm5
  have L45 := hid hb5.size
  clear ho5 hf5 hb5 hm5
  have kd := fun (o : Obj) (C : Array Value) (n c : Nat) => Joins.run_convert_bytes_const_at (P := Try.prog) (w5.alloc o) 29 5 C n c (w5.heap.size + 1) (by simp) Try.underlying29 Try.underlying5
  have ke := fun (o o' : Obj) (C : Array Value) (n c : Nat) => Joins.run_convert_bytes_const_at (P := Try.prog) ((w5.alloc o).alloc o') 29 5 C n c (w5.heap.size + 1 + 1) (by simp) Try.underlying29 Try.underlying5
  have hs5 : w4.heap.size ≤ w5.heap.size := L45.out
  obtain ⟨Y1, hY1⟩ : ∃ Y1, Y1 = w5.alloc (.cells #[.int .u8 97] 5 (1, 2)) := ⟨_, rfl⟩
  obtain ⟨Y2, hY2⟩ : ∃ Y2, Y2 = Y1.alloc (.cells #[.int .u8 98] 5 (1, 2)) := ⟨_, rfl⟩
  obtain ⟨Y3, hY3⟩ : ∃ Y3, Y3 = Y2.alloc (.cells #[.int .u8 97] 5 (1, 2)) := ⟨_, rfl⟩
  obtain ⟨Y4, hY4⟩ : ∃ Y4, Y4 = Y3.alloc (.cells #[.int .i64 1, .int .i64 1, .slice (some ⟨w5.heap.size, 0, none⟩) 1 1, .int .i64 2, .int .i64 0, .slice (some ⟨w5.heap.size + 1, 0, none⟩) 1 1, .int .i64 3, .int .i64 1, .slice (some ⟨w5.heap.size + 1 + 1, 0, none⟩) 1 1] 31) := ⟨_, rfl⟩
  have s1 : Y1.heap.size = w5.heap.size + 1 := by rw [hY1]; simp
  have s2 : Y2.heap.size = w5.heap.size + 1 + 1 := by rw [hY2]; simp [s1]
  have s3 : Y3.heap.size = w5.heap.size + 1 + 1 + 1 := by rw [hY3]; simp [s2]
  have s4 : Y4.heap.size = w5.heap.size + 1 + 1 + 1 + 1 := by rw [hY4]; simp [s3]
  have e97 : ((97 : UInt8).toNat : Int) = 97 := rfl
  have e98 : ((98 : UInt8).toNat : Int) = 98 := rfl
  have r1 := rd_one w5 97
  rw [e97, ← hY1] at r1
  have r2 := rd_one Y1 98
  rw [e98, ← hY2] at r2
  have r3 := rd_one Y2 97
  rw [e97, ← hY3] at r3
  have b12 : Below Y1.heap.size Y1 Y2 := by rw [hY2]; exact (Below.refl _ _).alloc (Nat.le_refl _) _
  have b23 : Below Y2.heap.size Y2 Y3 := by rw [hY3]; exact (Below.refl _ _).alloc (Nat.le_refl _) _
  have b34 : Below Y3.heap.size Y3 Y4 := by rw [hY4]; exact (Below.refl _ _).alloc (Nat.le_refl _) _
  have b01 : Below w5.heap.size w5 Y1 := by rw [hY1]; exact (Below.refl _ _).alloc (Nat.le_refl _) _
  have b13 := b12.trans (b23.mono (by omega))
  have b14 := b13.trans (b34.mono (by omega))
  have b24 := b23.trans (b34.mono (by omega))
  have b04 := b01.trans (b14.mono (by omega))
  have q1 := (r1.below b14).more (show Y1.heap.size ≤ Y4.heap.size by omega)
  have q2 := (r2.below b24).more (show Y2.heap.size ≤ Y4.heap.size by omega)
  have q3 := (r3.below b34).more (show Y3.heap.size ≤ Y4.heap.size by omega)
  rw [s1] at q2
  rw [s2] at q3
  have row : Rd Y4 Y4.heap.size 3 (some ⟨w5.heap.size + 1 + 1 + 1, 0, none⟩) 3 (ltc [⟨1, 1, .slice (some ⟨w5.heap.size, 0, none⟩) 1 1, [97]⟩, ⟨2, 0, .slice (some ⟨w5.heap.size + 1, 0, none⟩) 1 1, [98]⟩, ⟨3, 1, .slice (some ⟨w5.heap.size + 1 + 1, 0, none⟩) 1 1, [97]⟩]) := by
    have := Rd.lit0 (sz := 3) Y3 #[.int .i64 1, .int .i64 1, .slice (some ⟨w5.heap.size, 0, none⟩) 1 1, .int .i64 2, .int .i64 0, .slice (some ⟨w5.heap.size + 1, 0, none⟩) 1 1, .int .i64 3, .int .i64 1, .slice (some ⟨w5.heap.size + 1 + 1, 0, none⟩) 1 1] 31 3 rfl
    rw [← hY4, s3] at this
    exact this
  have hrd : Reads Y4 [⟨1, 1, .slice (some ⟨w5.heap.size, 0, none⟩) 1 1, [97]⟩, ⟨2, 0, .slice (some ⟨w5.heap.size + 1, 0, none⟩) 1 1, [98]⟩, ⟨3, 1, .slice (some ⟨w5.heap.size + 1 + 1, 0, none⟩) 1 1, [97]⟩] := by
    intro x hx
    simp only [List.mem_cons, List.not_mem_nil, or_false] at hx
    rcases hx with rfl | rfl | rfl
    · exact ⟨_, _, rfl, q1, by simp⟩
    · exact ⟨_, _, rfl, q2, by simp⟩
    · exact ⟨_, _, rfl, q3, by simp⟩
  have hfo := owned_later HO5.out b04
  have hfr : Reads Y4 ls5 := fun x hx => ((HF5.out.own x hx).later b04).reads
  have hfl := flights16 A5 (some ⟨w5.heap.size + 1 + 1 + 1, 0, none⟩) c5 3 _ _ ls5 _ Y4 (Rd.of_own hfo) row hfr hrd (by have := HF5.out.len; have := H4.out.le; omega) (by simp)
  rw [HM5.out, decide_eq_true (by rfl)] at hfl
  have HFL := hid hfl
  have LY := hid (L5.out.trans (b04.mono (by have := H4.out.leB; omega)))
  have hY : Y4 = (((w5.alloc (.cells #[.int .u8 97] 5 (1, 2))).alloc (.cells #[.int .u8 98] 5 (1, 2))).alloc (.cells #[.int .u8 97] 5 (1, 2))).alloc (.cells #[.int .i64 1, .int .i64 1, .slice (some ⟨w5.heap.size, 0, none⟩) 1 1, .int .i64 2, .int .i64 0, .slice (some ⟨w5.heap.size + 1, 0, none⟩) 1 1, .int .i64 3, .int .i64 1, .slice (some ⟨w5.heap.size + 1 + 1, 0, none⟩) 1 1] 31) := by rw [hY4, hY3, hY2, hY1]
  clear hs5 hY1 hY2 hY3 hY4 s1 s2 s3 s4 e97 e98 r1 r2 r3 b12 b23 b34 b01 b13 b14 b24 b04 q1 q2 q3 row hrd hfo hfr hfl
  go_wp2_with (go_at_call 16; refine stop_ (fun Ps hPs => ?_))
  refine hPs ?_
  clear hPs Ps
  rw [← hY]
  clear hY
  refine HFL.out.mono ?_
  rintro e w6 ⟨rfl, d, rfl⟩
  go_wp2_with fail
  go_ret
  exact ⟨rfl, below_drewN LY.out d⟩
end Go.Proofs.Ytigedoonhmaghaa
