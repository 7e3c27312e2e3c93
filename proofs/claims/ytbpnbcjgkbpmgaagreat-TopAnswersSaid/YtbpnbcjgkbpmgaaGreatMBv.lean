/- A primary answers without waiting for the other site, as many times as its leash allows: of any acts. No condition. (part 48) -/
import Derived.Deep.SlicePairs
import Derived.Deep.Strs
import Derived.Deep.Fields
import Derived.Lib.SmallJoins
import Derived.SizedLaws
import Derived.Test.YtbpnbcjgkbpmgaaGreatMAa
import Derived.Test.YtbpnbcjgkbpmgaaGreatMBu
namespace Go.Proofs.YtbpnbcjgkbpmgaaGreat
open Go.RowKit Go.Lg Go.Shelf Ds St
set_option linter.unusedVariables false
set_option linter.unusedSimpArgs false
set_option maxHeartbeats 4000000 in
set_option maxRecDepth 100000 in
theorem alive6 (w : World) : Calls Tryz.prog 6 #[] w fun e w' => e = .returned (.bool true) ∧ Below w.heap.size w w' := by
  go_enter Tryz.func6, Tryz.ntmps6
  go_wp2_with (go_at_call 19; refine stop_ (fun Ps hPs => ?_))
  refine hPs ?_
  clear hPs Ps
  refine (wnew19 (tag := tag0) (most := 1) (tidy0 w) (by decide) (by decide)).mono ?_
  rintro e1 w1 ⟨zw, rfl, tg, q, ht, hw⟩
  have HT1 := hid ht
  have HW1 := hid hw
  clear ht hw
  go_wp2_with (first
    | (go_at_call 10; (with_reducible refine (put10 0 { data := #[97] } { data := #[49] } w1).mono ?_); rintro e2 w2 ⟨A2, c2, rfl, hro2, hb2⟩; have HR2 := hid (And.intro hro2 hb2); clear hro2 hb2)
    | (go_at_call 9; refine stop_ (fun Ps hPs => ?_)))
  refine hPs ?_
  clear hPs Ps
  have l2 : Lat w1 w2 := ⟨HR2.out.2⟩
  refine (com_a (HT1.out.td.below l2.size) (HW1.out.later l2) (HR2.out.1.to fun y hy => HT1.out.td y hy)).mono ?_
  rintro e3 w3 ⟨v3, n3, xs3, tg3, rfl, ht3, hw3, hs3, _, _⟩
  obtain ⟨A3, cx3, hv3, _⟩ := hs3.slice_
  subst hv3
  have HT3 := hid ((HT1.out.lat l2).trans ht3)
  have HW3 := hid hw3
  clear ht3 hw3 hs3 l2 HR2
  go_wp2_with (first
    | (go_at_call 10; (with_reducible refine (put10 0 { data := #[98] } { data := #[50] } w3).mono ?_); rintro e2 w4 ⟨A4, c4, rfl, hro4, hb4⟩; have HR4 := hid (And.intro hro4 hb4); clear hro4 hb4)
    | (go_at_call 9; refine stop_ (fun Ps hPs => ?_)))
  refine hPs ?_
  clear hPs Ps
  have l4 : Lat w3 w4 := ⟨HR4.out.2⟩
  refine (com_b (HT3.out.td.below l4.size) (HW3.out.later l4) (HR4.out.1.to fun y hy => HT3.out.td y hy)).mono ?_
  rintro e5 w5 ⟨v5, n5, xs5, tg5, rfl, ht5, hw5, hs5, _, _⟩
  obtain ⟨A5, cx5, hv5, _⟩ := hs5.slice_
  subst hv5
  have HT5 := hid ((HT3.out.lat l4).trans ht5)
  have HW5 := hid hw5
  clear ht5 hw5 hs5 l4 HR4
  go_upto_region 6 with fail
  obtain ⟨W7, hW7⟩ : ∃ W7, W7 = (w5.alloc (.cells #[.int .i64 0, .int .i64 1, .string noStr, .bool false, .slice A3 n3 cx3] 34)).alloc (.cells #[.int .i64 8, .int .i64 0, .string noStr, .bool false, .slice A5 n5 cx5] 34) := ⟨_, rfl⟩
  have l7 : Lat w5 W7 := by rw [hW7]; exact ((Lat.refl w5).alloc _).alloc _
  have kb3 : Blk W7 w5.heap.size 34 #[.int .i64 0, .int .i64 1, .string noStr, .bool false, .slice A3 n3 cx3] := by rw [hW7]; exact (Blk.new w5 34 _).alloc _
  have kb4 : Blk W7 (w5.heap.size + 1) 34 #[.int .i64 8, .int .i64 0, .string noStr, .bool false, .slice A5 n5 cx5] := by
    rw [hW7]
    have := Blk.new (w5.alloc (.cells #[.int .i64 0, .int .i64 1, .string noStr, .bool false, .slice A3 n3 cx3] 34)) 34 #[.int .i64 8, .int .i64 0, .string noStr, .bool false, .slice A5 n5 cx5]
    simpa using this
  rw [← hW7]
  obtain ⟨b5, hb5⟩ : ∃ b5, b5 = w5.heap.size := ⟨_, rfl⟩
  have HT7 := hid (HT5.out.lat l7)
  have HW7 : Hid (WMp W7 tg5 zw 1 q (Rj 0)) := hid (HW5.out.later l7)
  have z3 : tg5 w5.heap.size = 0 := HT5.out.td _ (Nat.le_refl _)
  have z4 : tg5 (w5.heap.size + 1) = 0 := HT5.out.td _ (by omega)
  rw [← hb5] at kb3 kb4 z3 z4 ⊢
  have HK := hid (And.intro kb3 (And.intro kb4 (And.intro z3 z4)))
  clear hW7 l7 kb3 kb4 z3 z4 hb5 HT5 HW5 HT3 HW3 HT1 HW1
  go_loopg [5] 4 (fun g v5 wr => ∃ (j : Nat) (tgj : Nat → Nat), j ≤ 4 ∧ g = 4 - j ∧ v5 = .int .i64 j ∧ Hid (Turn Wp w tag0 wr tgj) ∧ Hid (WMp wr tgj zw 1 q (Rj j)) ∧ Hid (Blk wr b5 34 #[.int .i64 0, .int .i64 1, .string noStr, .bool false, .slice A3 n3 cx3] ∧ Blk wr (b5 + 1) 34 #[.int .i64 8, .int .i64 0, .string noStr, .bool false, .slice A5 n5 cx5] ∧ tgj b5 = 0 ∧ tgj (b5 + 1) = 0))
  case atStart => exact ⟨0, tg5, by omega, rfl, rfl, HT7, HW7, HK⟩
  case round =>
    obtain ⟨j, tgj, hj, rfl, rfl, HTj, HWj, HKj⟩ := hrel
    clear HT7 HW7 HK
    by_cases hlt : j < 4
    · have hki : (j : Int) < 4 := by omega
      have hrd := hid (rj_next zw q j hlt wr tgj HTj.out.td HWj.out)
      go_wp2_with (go_at_call 9; refine stop_ (fun Ps hPs => ?_))
      refine hPs ?_
      clear hPs Ps
      refine hrd.out.mono ?_
      rintro e8 w8 ⟨v8, n8, xs8, tg8, rfl, ht8, hw8, hs8, _, _⟩
      obtain ⟨kb3, kb4, z3, z4⟩ := HKj.out
      have HK8 := hid (And.intro (ht8.blk kb3 (by rw [z3]; exact wp_0)) (And.intro (ht8.blk kb4 (by rw [z4]; exact wp_0)) (And.intro ((ht8.old _ kb3.lt).trans z3) ((ht8.old _ kb4.lt).trans z4))))
      have HT8 := hid (HTj.out.trans ht8)
      have HW8 := hid hw8
      clear ht8 hw8 hs8 kb3 kb4 z3 z4 hrd
      go_wp2_with fail
      go_roundg (4 - (j + 1))
      case measure => omega
      case rel => exact ⟨j + 1, tg8, by omega, rfl, by go_num, HT8, HW8, HK8⟩
    · obtain rfl : j = 4 := by omega
      have hrdA := hid (read_a HTj.out.td HWj.out)
      go_wp2_with (go_at_call 9; refine stop_ (fun Ps hPs => ?_))
      refine hPs ?_
      clear hPs Ps
      refine hrdA.out.mono ?_
      rintro e8 w8 ⟨v8, n8, xs8, tg8, rfl, ht8, hw8, hs8, _, _⟩
      obtain ⟨A8, cx8, hv8, _⟩ := hs8.slice_
      subst hv8
      obtain ⟨kb3, kb4, z3, z4⟩ := HKj.out
      have HK8 := hid (And.intro (ht8.blk kb3 (by rw [z3]; exact wp_0)) (And.intro (ht8.blk kb4 (by rw [z4]; exact wp_0)) (And.intro ((ht8.old _ kb3.lt).trans z3) ((ht8.old _ kb4.lt).trans z4))))
      have HT8 := hid (HTj.out.trans ht8)
      have HW8 : Hid (WMp w8 tg8 zw 1 q RR4) := hid hw8
      clear ht8 hw8 hs8 kb3 kb4 z3 z4 hrdA
      go_upto_region 10 with fail
      obtain ⟨W9, hW9⟩ : ∃ W9, W9 = w8.alloc (.cells #[.int .i64 0, .int .i64 0, .string { data := #[49] }, .bool true, .slice A8 n8 cx8] 34) := ⟨_, rfl⟩
      have l9 : Lat w8 W9 := by rw [hW9]; exact (Lat.refl w8).alloc _
      have kr9 : Blk W9 w8.heap.size 34 #[.int .i64 0, .int .i64 0, .string { data := #[49] }, .bool true, .slice A8 n8 cx8] := by rw [hW9]; exact Blk.new _ _ _
      rw [← hW9]
      obtain ⟨b8, hb8⟩ : ∃ b8, b8 = w8.heap.size := ⟨_, rfl⟩
      have zr : tg8 w8.heap.size = 0 := HT8.out.td _ (Nat.le_refl _)
      rw [← hb8] at kr9 zr ⊢
      have HL9 := hid l9
      have HKR := hid (And.intro kr9 zr)
      have hpr := hid (prom_1 (HT8.out.td.below l9.size) (HW8.out.later l9))
      clear hW9 hb8 l9 kr9 zr
      go_wp2_with (go_at_call 9; refine stop_ (fun Ps hPs => ?_))
      refine hPs ?_
      clear hPs Ps
      refine hpr.out.mono ?_
      rintro e10 w10 ⟨v10, n10, xs10, tg10, rfl, ht10, hw10, hs10, _, _⟩
      obtain ⟨A10, cx10, hv10, _⟩ := hs10.slice_
      subst hv10
      obtain ⟨kb3, kb4, z3, z4⟩ := HK8.out
      obtain ⟨kr, zr⟩ := HKR.out
      have kb3' := ht10.blk (HL9.out.blk kb3) (by rw [z3]; exact wp_0)
      have kb4' := ht10.blk (HL9.out.blk kb4) (by rw [z4]; exact wp_0)
      have kr' := ht10.blk kr (by rw [zr]; exact wp_0)
      obtain ⟨W11, hW11⟩ : ∃ W11, W11 = w10.alloc (.cells #[.int .i64 0, .int .i64 2, .string noStr, .bool false, .slice A10 n10 cx10] 34) := ⟨_, rfl⟩
      have l11 : Lat w10 W11 := by rw [hW11]; exact (Lat.refl w10).alloc _
      have kp : Blk W11 w10.heap.size 34 #[.int .i64 0, .int .i64 2, .string noStr, .bool false, .slice A10 n10 cx10] := by rw [hW11]; exact Blk.new _ _ _
      have hlog := wlog12 (hw10.later l11) (Int.le_refl 1) (by decide)
      rw [log_1] at hlog
      have HB := hid (turn0 (((HT8.out.lat HL9.out).trans ht10).lat l11))
      obtain ⟨⟨g0, g1, g2, g3, g4⟩, _⟩ := didcells (l11.blk kb3')
      obtain ⟨⟨i0, i1, i2, i3, i4⟩, _⟩ := didcells (l11.blk kb4')
      obtain ⟨⟨r0, r1, r2, r3, r4⟩, _⟩ := didcells (l11.blk kr')
      obtain ⟨⟨p0, pp1, pp2, p3, p4⟩, _⟩ := didcells kp
      clear ht10 hw10 hs10 kb3 kb4 z3 z4 kr zr kb3' kb4' kr' kp hpr l11
      go_upto_region 11 with fail
      rw [← hW11]
      clear hW11
      go_wp2_with (go_at_call 12; (with_reducible refine hlog.mono ?_); rintro e12 w12 ⟨A12, c12, rfl, hb12⟩)
      go_ret
      exact ⟨rfl, bl_trans HB.out hb12 HB.out.size⟩
end Go.Proofs.YtbpnbcjgkbpmgaaGreat
namespace Go.Proofs.YtbpnbcjgkbpmgaaGreat
open Go.RowKit Go.Lg Go.Deep Go.ChangeShapes Go.WideShapes Go.ChangeAt St
set_option linter.unusedVariables false
set_option linter.unusedSimpArgs false
instance : Inhabited Op3 := ⟨⟨false, ⟨#[]⟩, ⟨#[]⟩⟩⟩
instance : Inhabited Am := ⟨⟨0, 0, 0, 0, ⟨#[]⟩, none, 0, 0, []⟩⟩
theorem opc_inv : ∀ (l : List Op3) (k : Nat) (u : Value), (opc l)[k]? = some u → ∃ j o, l[j]? = some o ∧ ((k = j * 3 ∧ u = .bool o.put) ∨ (k = j * 3 + 1 ∧ u = .string o.key) ∨ (k = j * 3 + 2 ∧ u = .string o.val))
  | [], k, u, h => by simp [opc] at h
  | a :: l, 0, u, h => ⟨0, a, rfl, .inl ⟨rfl, by simpa [opc] using h.symm⟩⟩
  | a :: l, 1, u, h => ⟨0, a, rfl, .inr (.inl ⟨rfl, by simpa [opc] using h.symm⟩)⟩
  | a :: l, 2, u, h => ⟨0, a, rfl, .inr (.inr ⟨rfl, by simpa [opc] using h.symm⟩)⟩
  | a :: l, k + 3, u, h => by
    have e1 : opc (a :: l) = .bool a.put :: .string a.key :: .string a.val :: opc l := rfl
    rw [e1] at h
    obtain ⟨j, o, h1, h2⟩ := opc_inv l k u (by simpa using h)
    refine ⟨j + 1, o, by simpa using h1, ?_⟩
    rcases h2 with ⟨rfl, rfl⟩ | ⟨rfl, rfl⟩ | ⟨rfl, rfl⟩
    · exact .inl ⟨by omega, rfl⟩
    · exact .inr (.inl ⟨by omega, rfl⟩)
    · exact .inr (.inr ⟨by omega, rfl⟩)
theorem opc_len (l : List Op3) : (opc l).length = l.length * 3 := by
  induction l with
  | nil => rfl
  | cons a l ih => simp only [opc, List.flatMap_cons, List.length_append, List.length_cons, List.length_nil] at ih ⊢; omega
set_option maxRecDepth 100000 in
theorem open_ops {H : Type} {enc : TypeId × Value → H} {W : World} {fuel : Nat} {A : Option Addr} {n c : Nat} {x : DataW H × List MemPlace}
    (h : DataW.trod enc Tryz.prog W 0 (fun _ => true) true fuel 28 (Value.slice A n c).cells.toList = some x) :
    n ≤ c ∧ c ≤ maxLen ∧ ∃ l, OS W W.heap.size A n l := by
  rcases open_slice Tryz.underlying28 h with ⟨hcs, _⟩ | ⟨a, len, cap, m, k, D, Pl, hcs, _, hl, hm, hmm, _, hx⟩
  · simp [Value.cells] at hcs
    obtain ⟨rfl, rfl, rfl⟩ := hcs
    exact ⟨Nat.le_refl _, Nat.zero_le _, [], Rd.nil_, rfl⟩
  · simp [Value.cells] at hcs
    obtain ⟨rfl, rfl, rfl⟩ := hcs
    refine ⟨hl, hm, ?_⟩
    have k68 : Tryz.prog.cellsOf 77 = 3 := by kernel_rfl
    have k4 : Tryz.prog.cellsOf 4 = 1 := by kernel_rfl
    have k5 : Tryz.prog.cellsOf 9 = 1 := by kernel_rfl
    have hmn : n ≤ m := by rw [hmm]; simp; exact hl
    have each : ∀ i, i < n → ∃ q : Op3, W.cell? (a.add (i * 3)) = some (.bool q.put) ∧ W.cell? (a.add (i * 3 + 1)) = some (.string q.key) ∧ W.cell? (a.add (i * 3 + 2)) = some (.string q.val) := by
      intro i hi
      obtain ⟨cs', h1, h2⟩ := hx i (by omega)
      rw [k68] at h1
      obtain ⟨_, hlen, hcell⟩ := World.cells?_some h1
      obtain ⟨y0, y1, y2, n', _, _, f0, f1, f2⟩ := trod_struct3 Tryz.underlying77 h2
      match cs', hlen with
      | [v0, v1, v2], _ =>
        simp only [k4, k5, List.drop, List.take] at f0 f1 f2
        obtain ⟨p, e0, _⟩ := DataW.trod_bool Tryz.underlying4 f0
        obtain ⟨k, e1, _⟩ := DataW.trod_string Tryz.underlying9 f1
        obtain ⟨v, e2, _⟩ := DataW.trod_string Tryz.underlying9 f2
        simp only [List.cons.injEq, and_true] at e0 e1 e2
        subst e0 e1 e2
        have c0 := hcell 0 (by omega)
        have c1 := hcell 1 (by omega)
        have c2 := hcell 2 (by omega)
        rw [add_add] at c0 c1 c2
        exact ⟨⟨p, k, v⟩, by simpa using c0, by simpa using c1, by simpa using c2⟩
    obtain ⟨y, hy⟩ := choose_lt each
    refine ⟨(List.range n).map y, ⟨by rw [opc_len]; simp, fun hn => ?_⟩, by simp⟩
    obtain ⟨b, off, rfl, hb⟩ := cell_addr (w := W) (x := a) (v := .bool (y 0).put) (by have := (hy 0 hn).1; simpa using this)
    refine ⟨b, off, rfl, hb, fun k u hu => ?_⟩
    obtain ⟨j, o, hj, hu⟩ := opc_inv _ _ _ hu
    rw [List.getElem?_map] at hj
    have hjn : j < n := by
      rcases Nat.lt_or_ge j n with q | q
      · exact q
      · rw [List.getElem?_eq_none (by simpa using q)] at hj
        cases hj
    rw [List.getElem?_range hjn] at hj
    simp only [Option.map_some, Option.some.injEq] at hj
    subst hj
    obtain ⟨h0, h1, h2⟩ := hy j hjn
    rw [Addr.add_lit] at h0 h1 h2
    rcases hu with ⟨rfl, rfl⟩ | ⟨rfl, rfl⟩ | ⟨rfl, rfl⟩
    · exact h0
    · exact h1
    · exact h2
theorem amc_inv : ∀ (l : List Am) (k : Nat) (u : Value), (amc l)[k]? = some u → ∃ j o, l[j]? = some o ∧ ((k = j * 6 ∧ u = .int .i64 o.kind) ∨ (k = j * 6 + 1 ∧ u = .int .i64 o.nd) ∨ (k = j * 6 + 2 ∧ u = .int .i64 o.nn) ∨ (k = j * 6 + 3 ∧ u = .int .i64 o.tt) ∨ (k = j * 6 + 4 ∧ u = .string o.key) ∨ (k = j * 6 + 5 ∧ u = .slice o.A o.k o.c))
  | [], k, u, h => by simp [amc] at h
  | a :: l, 0, u, h => ⟨0, a, rfl, .inl ⟨rfl, by simpa [amc, Am.cs] using h.symm⟩⟩
  | a :: l, 1, u, h => ⟨0, a, rfl, .inr (.inl ⟨rfl, by simpa [amc, Am.cs] using h.symm⟩)⟩
  | a :: l, 2, u, h => ⟨0, a, rfl, .inr (.inr (.inl ⟨rfl, by simpa [amc, Am.cs] using h.symm⟩))⟩
  | a :: l, 3, u, h => ⟨0, a, rfl, .inr (.inr (.inr (.inl ⟨rfl, by simpa [amc, Am.cs] using h.symm⟩)))⟩
  | a :: l, 4, u, h => ⟨0, a, rfl, .inr (.inr (.inr (.inr (.inl ⟨rfl, by simpa [amc, Am.cs] using h.symm⟩))))⟩
  | a :: l, 5, u, h => ⟨0, a, rfl, .inr (.inr (.inr (.inr (.inr (⟨rfl, by simpa [amc, Am.cs] using h.symm⟩)))))⟩
  | a :: l, k + 6, u, h => by
    have e1 : amc (a :: l) = .int .i64 a.kind :: .int .i64 a.nd :: .int .i64 a.nn :: .int .i64 a.tt :: .string a.key :: .slice a.A a.k a.c :: amc l := rfl
    rw [e1] at h
    obtain ⟨j, o, h1, h2⟩ := amc_inv l k u (by simpa using h)
    refine ⟨j + 1, o, by simpa using h1, ?_⟩
    rcases h2 with ⟨rfl, rfl⟩ | ⟨rfl, rfl⟩ | ⟨rfl, rfl⟩ | ⟨rfl, rfl⟩ | ⟨rfl, rfl⟩ | ⟨rfl, rfl⟩
    · exact .inl ⟨by omega, rfl⟩
    · exact .inr (.inl ⟨by omega, rfl⟩)
    · exact .inr (.inr (.inl ⟨by omega, rfl⟩))
    · exact .inr (.inr (.inr (.inl ⟨by omega, rfl⟩)))
    · exact .inr (.inr (.inr (.inr (.inl ⟨by omega, rfl⟩))))
    · exact .inr (.inr (.inr (.inr (.inr (⟨by omega, rfl⟩)))))
theorem slice_ops {H : Type} {enc : TypeId × Value → H} {W : World} {fuel : Nat} {v2 : Value} {y : DataW H × List MemPlace} (h : DataW.trod enc Tryz.prog W 0 (fun _ => true) true fuel 28 [v2] = some y) : ∃ A n c, v2 = .slice A n c := by
  rcases open_slice Tryz.underlying28 h with ⟨hcs, _⟩ | ⟨a, len, cap, m, k, D, Pl, hcs, _⟩
  · simp at hcs
    exact ⟨_, _, _, hcs⟩
  · simp at hcs
    exact ⟨_, _, _, hcs⟩
theorem trod_am {H : Type} {enc : TypeId × Value → H} {W : World} {fuel : Nat} {v0 v1 v2 v3 v4 v5 : Value} {x : DataW H × List MemPlace} (h2 : DataW.trod enc Tryz.prog W 0 (fun _ => true) true fuel 30 [v0, v1, v2, v3, v4, v5] = some x) :
    ∃ m : Am, v0 = .int .i64 m.kind ∧ v1 = .int .i64 m.nd ∧ v2 = .int .i64 m.nn ∧ v3 = .int .i64 m.tt ∧ v4 = .string m.key ∧ v5 = .slice m.A m.k m.c ∧ m.ok W W.heap.size := by
  have k3 : Tryz.prog.cellsOf 3 = 1 := by kernel_rfl
  have k9 : Tryz.prog.cellsOf 9 = 1 := by kernel_rfl
  have k28 : Tryz.prog.cellsOf 28 = 1 := by kernel_rfl
  obtain ⟨xs, n', _, rfl, hl, hlen, hf⟩ := DataW.trod_struct Tryz.underlying30 h2
  match xs, hlen with
  | [y0, y1, y2, y3, y4, y5], _ =>
    have f0 : DataW.trod enc Tryz.prog W 0 (fun _ => true) true n' 3 (([v0, v1, v2, v3, v4, v5].drop 0).take (Tryz.prog.cellsOf 3)) = some y0 := hf 0 _ rfl
    have f1 : DataW.trod enc Tryz.prog W 0 (fun _ => true) true n' 3 (([v0, v1, v2, v3, v4, v5].drop 1).take (Tryz.prog.cellsOf 3)) = some y1 := hf 1 _ rfl
    have f2 : DataW.trod enc Tryz.prog W 0 (fun _ => true) true n' 3 (([v0, v1, v2, v3, v4, v5].drop 2).take (Tryz.prog.cellsOf 3)) = some y2 := hf 2 _ rfl
    have f3 : DataW.trod enc Tryz.prog W 0 (fun _ => true) true n' 3 (([v0, v1, v2, v3, v4, v5].drop 3).take (Tryz.prog.cellsOf 3)) = some y3 := hf 3 _ rfl
    have f4 : DataW.trod enc Tryz.prog W 0 (fun _ => true) true n' 9 (([v0, v1, v2, v3, v4, v5].drop 4).take (Tryz.prog.cellsOf 9)) = some y4 := hf 4 _ rfl
    have f5 : DataW.trod enc Tryz.prog W 0 (fun _ => true) true n' 28 (([v0, v1, v2, v3, v4, v5].drop 5).take (Tryz.prog.cellsOf 28)) = some y5 := hf 5 _ rfl
    simp only [k3, k9, k28, List.drop, List.take] at f0 f1 f2 f3 f4 f5
    obtain ⟨a, e0, _, w0⟩ := DataW.trod_int Tryz.underlying3 f0
    obtain ⟨b, e1, _, w1⟩ := DataW.trod_int Tryz.underlying3 f1
    obtain ⟨c, e2, _, w2⟩ := DataW.trod_int Tryz.underlying3 f2
    obtain ⟨d, e3, _, w3⟩ := DataW.trod_int Tryz.underlying3 f3
    obtain ⟨k, e4, _, hk⟩ := DataW.trod_string Tryz.underlying9 f4
    obtain ⟨A, n, cp, rfl⟩ := slice_ops f5
    simp only [List.cons.injEq, and_true] at e0 e1 e2 e3 e4
    subst e0 e1 e2 e3 e4
    obtain ⟨g1, g3, l, hl⟩ := open_ops (A := A) (n := n) (c := cp) f5
    exact ⟨⟨a, b, c, d, k, A, n, cp, l⟩, rfl, rfl, rfl, rfl, rfl, rfl, hl, g1, g3, hk⟩
theorem open_acts {H : Type} {enc : TypeId × Value → H} {W : World} {fuel : Nat} {A : Option Addr} {n c : Nat} {x : DataW H × List MemPlace}
    (h : DataW.trod enc Tryz.prog W 0 (fun _ => true) true fuel 22 (Value.slice A n c).cells.toList = some x) :
    n ≤ c ∧ c ≤ maxLen ∧ ∃ l, AS W W.heap.size A n l := by
  rcases open_slice Tryz.underlying22 h with ⟨hcs, _⟩ | ⟨a, len, cap, m, k, D, Pl, hcs, _, hl, hm, hmm, _, hx⟩
  · simp [Value.cells] at hcs
    obtain ⟨rfl, rfl, rfl⟩ := hcs
    exact ⟨Nat.le_refl _, Nat.zero_le _, [], Rd.nil_, rfl, fun a ha => by cases ha⟩
  · simp [Value.cells] at hcs
    obtain ⟨rfl, rfl, rfl⟩ := hcs
    refine ⟨hl, hm, ?_⟩
    have k30 : Tryz.prog.cellsOf 30 = 6 := by kernel_rfl
    have hmn : n ≤ m := by rw [hmm]; simp; exact hl
    have each : ∀ i, i < n → ∃ q : Am, W.cell? (a.add (i * 6)) = some (.int .i64 q.kind) ∧ W.cell? (a.add (i * 6 + 1)) = some (.int .i64 q.nd) ∧ W.cell? (a.add (i * 6 + 2)) = some (.int .i64 q.nn) ∧ W.cell? (a.add (i * 6 + 3)) = some (.int .i64 q.tt) ∧ W.cell? (a.add (i * 6 + 4)) = some (.string q.key) ∧ W.cell? (a.add (i * 6 + 5)) = some (.slice q.A q.k q.c) ∧ q.ok W W.heap.size := by
      intro i hi
      obtain ⟨cs', h1, h2⟩ := hx i (by omega)
      rw [k30] at h1
      obtain ⟨_, hlen, hcell⟩ := World.cells?_some h1
      match cs', hlen with
      | [v0, v1, v2, v3, v4, v5], _ =>
        obtain ⟨q, rfl, rfl, rfl, rfl, rfl, rfl, hw⟩ := trod_am h2
        have c0 := hcell 0 (by omega)
        have c1 := hcell 1 (by omega)
        have c2 := hcell 2 (by omega)
        have c3 := hcell 3 (by omega)
        have c4 := hcell 4 (by omega)
        have c5 := hcell 5 (by omega)
        rw [add_add] at c0 c1 c2 c3 c4 c5
        exact ⟨q, by simpa using c0, by simpa using c1, by simpa using c2, by simpa using c3, by simpa using c4, by simpa using c5, hw⟩
    obtain ⟨y, hy⟩ := choose_lt each
    refine ⟨(List.range n).map y, ⟨by rw [amc_len]; simp, fun hn => ?_⟩, by simp, ?_⟩
    · obtain ⟨b, off, rfl, hb⟩ := cell_addr (w := W) (x := a) (v := .int .i64 (y 0).kind) (by have := (hy 0 hn).1; simpa using this)
      refine ⟨b, off, rfl, hb, fun k u hu => ?_⟩
      obtain ⟨j, o, hj, hu⟩ := amc_inv _ _ _ hu
      rw [List.getElem?_map] at hj
      have hjn : j < n := by
        rcases Nat.lt_or_ge j n with q | q
        · exact q
        · rw [List.getElem?_eq_none (by simpa using q)] at hj
          cases hj
      rw [List.getElem?_range hjn] at hj
      simp only [Option.map_some, Option.some.injEq] at hj
      subst hj
      obtain ⟨h0, h1, h2, h3, h4, h5, _⟩ := hy j hjn
      rw [Addr.add_lit] at h0 h1 h2 h3 h4 h5
      rcases hu with ⟨rfl, rfl⟩ | ⟨rfl, rfl⟩ | ⟨rfl, rfl⟩ | ⟨rfl, rfl⟩ | ⟨rfl, rfl⟩ | ⟨rfl, rfl⟩
      · exact h0
      · exact h1
      · exact h2
      · exact h3
      · exact h4
      · exact h5
    · intro q hq
      obtain ⟨j, hj, rfl⟩ := List.mem_map.1 hq
      exact (hy j (List.mem_range.1 hj)).2.2.2.2.2.2
theorem answers (x : Int) (A : Option Addr) (n c : Nat) (l : List Am) (w : World) (h : AS w w.heap.size A n l) (hn : n ≤ 9223372036854775807) : Calls Tryz.prog 3 #[.int .i64 x, .slice A n c] w fun e w' => e = .returned (.bool true) ∧ Below w.heap.size w w' :=
  answers3 x A n c l h hn (alive6 w)
end Go.Proofs.YtbpnbcjgkbpmgaaGreat
