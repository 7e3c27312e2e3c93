/- The letters in flight are listed in order, and can be dropped one by one until none is left: the walk. -/
import Derived.Test.YtigedoonhmaghaaFd
import Derived.IntWalk
namespace Go.Proofs.Ytigedoonhmaghaa
open Go.RowKit Go.Lg Go.Shelf
set_option linter.unusedVariables false
set_option linter.unusedSimpArgs false

attribute [local go_sem] Oper.semAt_some
theorem owned_bb {w w' : World} {n K base : Nat} {e : TypeId} {sz m : Nat} {v : Value} {xs : List Value} (h : w.ownsRow base e sz v m xs) (hb : Bb n K w w') (hn : w.heap.size ≤ n) (hne : ∀ g, v.ownBlock = some g → g ≠ K) : w'.ownsRow base e sz v m xs := by
  refine ⟨h.1, ?_⟩
  rcases h.2 with h2 | ⟨g, cap, cur, rfl, h3, h4, h5⟩
  · exact .inl h2
  · exact .inr ⟨g, cap, cur, rfl, h3, (hb.block g (by have := (Array.getElem?_eq_some_iff.1 h4).1; omega) (hne g rfl)).trans h4, h5⟩
theorem ltc_one9 (l lf : List Lt) (hs : ∀ x ∈ l, x ∈ lf) (h : ∀ x ∈ lf, ∃ A c, x.v = .slice A x.b.length c) : ∀ u ∈ ltc l, u.oneCell' = true := by
  intro u hu
  obtain ⟨x, hx, hu⟩ := List.mem_flatMap.1 hu
  simp only [Lt.cs, List.mem_cons, List.not_mem_nil, or_false] at hu
  rcases hu with rfl | rfl | rfl
  · rfl
  · rfl
  · obtain ⟨A, c, e⟩ := h x (hs x hx)
    rw [e]
    rfl
theorem grown_lit {w w3 : World} {n c : Nat} {o : Obj} (h : ((w.alloc o).drew).grownBy w3 (Value.slice (some ⟨w.heap.size, 0, none⟩) n c).ownBlock) : Below w.heap.size w w3 :=
  (((Below.refl w.heap.size w).alloc (Nat.le_refl _) o).drew).grown h (by simp) (fun k hk => by simp [Value.ownBlock] at hk; omega)
/-- A region that does not panic. -/
def noPanic (Q : Exit → Act → World → Prop) : Exit → Act → World → Prop
  | .panic _, _, _ => False
  | e, a, w => Q e a w
theorem still_panic {P : Program} {c : Code} {Q : Exit → Act → World → Prop} {a : Act} {w : World} (h : c.wp P (noPanic Q) a w) : c.wp P Q a w :=
  Code.wp_mono (fun e a w hq => by
    cases e <;> first | exact hq | exact hq.elim) h
theorem noPanic_n {Q : Exit → Act → World → Prop} {a : Act} {w : World} (h : Q .normal a w) : noPanic Q .normal a w := h
theorem name_tmps {g : Operand} {ps : Array Tmp} {assign body : Code} {F : Fence} {n : Nat} {P : Program} {Q : Exit → Act → World → Prop} {T0 : Array Value} {d : List Deferred} {W : World} (h : ∀ T, T = T0 → (Code.rangeFunc g ps assign body).wpIn F n P Q { tmps := T, defers := d } W) :
    (Code.rangeFunc g ps assign body).wpIn F n P Q { tmps := T0, defers := d } W := h _ rfl
theorem ownFrom_bb {β : Type} {n K B : Nat} {w₀ : World} (hn : n ≤ w₀.heap.size) (hB : n ≤ B) : OwnFrom B (fun (_ : β) W => Bb n K w₀ W) := fun s X Y row hs hg hr =>
  hs.trans ⟨hg.os, hg.tape, hg.output, hg.size, fun k hk _ => hg.block k (by have := hs.size; omega) (fun e => by have := (hr k e.symm).1; omega)⟩
set_option maxRecDepth 100000 in
set_option maxHeartbeats 16000000 in
theorem flight7 (A : Option Addr) (n c : Nat) (l : List Am) (w : World) (h : AS w w.heap.size A n l) (hn : n ≤ 9223372036854775807) (st : Int) (hst : -9223372036854775808 ≤ st ∧ st ≤ 9223372036854775807) :
    Calls Try.prog 7 #[.slice A n c, .int .i64 st] w fun e w' => e = .returned (.bool true) ∧ Below w.heap.size w w' := by
  refine (callsIn_wide (n := 3)).1 ?_
  have hro : Fence.wide.round = none := rfl
  have h1 : 1 ≤ 3 := by omega
  obtain ⟨B, hB⟩ : ∃ B, B = w.heap.size := ⟨_, rfl⟩
  have HB := hid hB
  have HA := hid h
  have HST := hid hst
  obtain ⟨w', hw'⟩ : ∃ w', w' = w.alloc (.cells #[.bool false] 4) := ⟨_, rfl⟩
  have hr0 : Boxed w' B 4 (.bool false) := by rw [hw', hB]; exact Boxed.new w 4 _
  have hb0 : Below w.heap.size w w' := by rw [hw']; exact (Below.refl _ w).alloc (Nat.le_refl _) _
  have hsz : w'.heap.size = B + 1 := by rw [hw', hB]; simp
  rw [← hB] at hb0 ⊢
  have HV := hid (lives8 w')
  have HR0 := hid (And.intro hr0 (And.intro hb0 hsz))
  clear h hst hr0 hb0
  refine callsIn_of_wp_marks Try.func7 rfl trivial ?_ hro
  simp only [Try.ntmps7, List.size_toArray, List.length_cons, List.length_nil, Nat.reduceAdd, Nat.reduceSub, Array.replicate_succ, Array.replicate_zero, List.push_toArray, List.append_toArray, List.nil_append, List.cons_append]
  refine wpIn_wide.2 ?_
  go_wp2_with (go_at_call 8; refine stop_ (fun Ps hPs => ?_))
  refine hPs ?_
  clear hPs Ps
  rw [← hB, ← hw']
  clear hB hw' hsz
  refine HV.out.mono ?_
  clear HV
  rintro e w0 ⟨rfl, hb0⟩
  have HR1 := hid (show Boxed w0 B 4 (.bool false) ∧ Below B w w0 ∧ B < w0.heap.size from ⟨(show Blk w' B 4 #[_] from HR0.out.1).later hb0, HR0.out.2.1.trans (hb0.mono (by have := HR0.out.2.2; omega)), Nat.lt_of_lt_of_le (by have := HR0.out.2.2; omega) hb0.size⟩)
  have HAw := hid (show AS w B A n l by have := HA.out; rw [← HB.out] at this; exact this)
  have hA0 := HAw.out.below HR1.out.2.1
  have hs0 : B ≤ w0.heap.size := Nat.le_of_lt HR1.out.2.2
  have hsm := small14 A n c l w0 ⟨hA0.1.more hs0, hA0.2.1, fun x hx => by
    have h9 := hA0.2.2 x hx
    exact ⟨h9.rd.more hs0, h9.kind, h9.n, h9.le, h9.max⟩⟩ hn
  have HSM := hid hsm
  have HLL := hid hA0.2.1
  clear hsm hs0 hA0 HA hb0 HR0
  go_wp2_with (go_at_call 14; refine stop_ (fun Ps hPs => ?_))
  refine hPs ?_
  clear hPs Ps
  refine HSM.out.mono ?_
  rintro e w00 ⟨rfl, h9⟩
  subst h9
  clear HSM
  by_cases hS : Small l
  rotate_left
  · rw [decide_eq_false hS]
    clear hS
    have cR := HR1.out.1.cell
    have fR := HR1.out.1.frozen
    go_wp2_with fail
    have hbx := HR1.out.1.set (.bool true)
    have c1 := hbx.cell
    refine ⟨_, ?_, rfl, HR1.out.2.1.setCell (p := ⟨B, 0, none⟩) (Nat.le_refl _) _⟩
    simp [results, Try.results7, Try.f7, go_sem, c1]
  rw [decide_eq_true hS]
  have HS := hid hS
  have h12 : n ≤ 1200 := by have := hS.2; have := HLL.out; omega
  clear hS hn
  go_wp2_with (go_at_call 9; refine stop_ (fun Ps hPs => ?_))
  refine hPs ?_
  clear hPs Ps
  refine (new9 (F := w00.heap.size) w00 (Nat.le_refl _)).mono ?_
  rintro e w1 ⟨z, rfl, h1', hb1, hz1⟩
  have HR := hid (show Boxed w1 B 4 (.bool false) ∧ Below B w w1 ∧ B < w1.heap.size from ⟨(show Blk w00 B 4 #[_] from HR1.out.1).later hb1, HR1.out.2.1.trans (hb1.mono (Nat.le_of_lt HR1.out.2.2)), Nat.lt_of_lt_of_le HR1.out.2.2 hb1.size⟩)
  have HL0 : Hid (Lnk w00.heap.size (B + 1) z 0 w1) := hid ⟨_, _, ⟨by have := h1'.hB; have := HR1.out.2.2; omega, h1'.blk, owned_less h1'.own HR1.out.2.2, h1'.le, fun x hx => absurd hx List.not_mem_nil, h1'.hF, h1'.neF⟩, asc_nil 0⟩
  clear h1' hb1 hz1 HR1
  go_wp2_with fail
  go_loopg [6] n (fun g i wr => ∃ (j : Nat) (q : Int), j ≤ n ∧ g = n - j ∧ i = .int .i64 j ∧ 0 ≤ q ∧ q ≤ j ∧ Hid (Lnk w00.heap.size (B + 1) z q wr) ∧ Hid (Below (B + 1) w1 wr))
  case atStart => exact ⟨0, 0, by omega, rfl, rfl, by omega, by omega, HL0, hid (Below.refl _ _)⟩
  case round =>
    clear HL0
    obtain ⟨j, q, hj, rfl, rfl, hq0, hqj, HL, HBl⟩ := hrel
    have hBw : Below B w wr := HR.out.2.1.trans (HBl.out.mono (by omega))
    by_cases hlt : j < n
    · obtain ⟨bA, offA, x, rfl, hbA, hxx, hok, c0, c1, c2⟩ := (HAw.out.below hBw).at_ hlt
      have hji : (j : Int) < (n : Int) := by omega
      have hj0 : (0 : Int) ≤ (j : Int) := Int.natCast_nonneg _
      have h40 := HS.out.1 x (List.mem_of_getElem? hxx)
      have hlen := hok.len
      obtain ⟨kd, xn, Ax, m, cx, bx⟩ := x
      simp only at c0 c1 c2 h40 hlen
      have hBr := HL.out.leB
      have HP := hid (pick15 kd 4 (by decide) (by decide) hok.kind wr)
      have HOK := hid hok
      have HLN := hid (And.intro h40 hlen)
      have HLE := hid hBr
      clear hok hxx h40 hlen hBw hBr
      go_wp2_with (go_at_call 15; refine stop_ (fun Ps hPs => ?_))
      refine hPs ?_
      clear hPs Ps
      refine HP.out.mono ?_
      rintro e X' ⟨r, rfl, hr, h9⟩
      subst h9
      clear HP c0
      obtain rfl | rfl | rfl | rfl : r = 0 ∨ r = 1 ∨ r = 2 ∨ r = 3 := by omega
      · have hs := Lnk.send (HL.out.later ((Below.refl X'.heap.size X').drew)) hq0 (by omega) xn Ax m cx bx ((HOK.out.rd.more (show B ≤ X'.heap.size by have := HLE.out; omega)).drew) (by have := HLN.out; omega)
        have HSd := hid hs
        have K1 := hid (show X'.cell? ⟨bA, offA + j * 3 + 1, none⟩ = some (.int .i64 xn) ∧ X'.cell? ⟨bA, offA + j * 3 + 2, none⟩ = some (.slice Ax m cx) from ⟨c1, c2⟩)
        have K2 := hid (show X'.drew.cell? ⟨bA, offA + j * 3 + 1, none⟩ = some (.int .i64 xn) ∧ X'.drew.cell? ⟨bA, offA + j * 3 + 2, none⟩ = some (.slice Ax m cx) from ⟨c1, c2⟩)
        clear hs
        go_wp2_with fail
        go_region_held3 (fun w' => w'.cell? ⟨bA, offA + j * 3 + 1, none⟩ = some (.int .i64 xn) ∧ w'.cell? ⟨bA, offA + j * 3 + 2, none⟩ = some (.slice Ax m cx)) (first | (with_reducible exact K1.out) | (with_reducible exact K2.out) | (with_reducible exact K5.out))
          (first
            | (go_at_call 10; (with_reducible refine HSd.out.mono ?_); rintro e5 w5 ⟨⟨r5, s5, rfl⟩, ⟨q5, k5, k6, k7⟩, b5⟩; have HL5 := hid k5; have b6 := below_src b5; have K5 := hid (show w5.cell? ⟨bA, offA + j * 3 + 1, none⟩ = some (.int .i64 xn) ∧ w5.cell? ⟨bA, offA + j * 3 + 2, none⟩ = some (.slice Ax m cx) from ⟨(b6.cell (p := ⟨bA, _, none⟩) (Nat.lt_succ_of_lt hbA)).trans K1.out.1, (b6.cell (p := ⟨bA, _, none⟩) (Nat.lt_succ_of_lt hbA)).trans K1.out.2⟩); have HB5 := hid (HBl.out.trans b6); clear k5 b5 b6))
        all_goals
          clear K1 K2 K5 HSd c1 c2
          simp only [two]
          go_wp2_with fail
          go_roundg (n - (j + 1))
          case measure => omega
          case rel => exact ⟨j + 1, q5, by omega, rfl, by go_num, by omega, by omega, HL5, HB5⟩
      · have hs := Lnk.deliver HL.out xn
        have HSd := hid hs
        clear hs c2
        go_wp2_with (go_at_call 12; refine stop_ (fun Ps hPs => ?_))
        refine hPs ?_
        clear hPs Ps
        refine HSd.out.mono ?_
        clear HSd c1
        rintro e5 w5 ⟨⟨x5, s5, rfl⟩, ⟨q5, k5, k6, k7⟩, b5⟩
        have HL5 := hid k5
        have HB5 := hid (HBl.out.trans b5)
        clear k5 b5
        simp only [lv]
        go_wp2_with fail
        go_roundg (n - (j + 1))
        case measure => omega
        case rel => exact ⟨j + 1, q5, by omega, rfl, by go_num, by omega, by omega, HL5, HB5⟩
      · have hs := Lnk.twice HL.out hq0 (by omega) xn
        have HSd := hid hs
        clear hs c2
        go_wp2_with (go_at_call 11; refine stop_ (fun Ps hPs => ?_))
        refine hPs ?_
        clear hPs Ps
        refine HSd.out.mono ?_
        clear HSd c1
        rintro e5 w5 ⟨⟨r5, s5, rfl⟩, ⟨q5, k5, k6, k7⟩, b5⟩
        have HL5 := hid k5
        have HB5 := hid (HBl.out.trans b5)
        clear k5 b5
        simp only [two]
        go_wp2_with fail
        go_roundg (n - (j + 1))
        case measure => omega
        case rel => exact ⟨j + 1, q5, by omega, rfl, by go_num, by omega, by omega, HL5, HB5⟩
      · have hs := Lnk.drop HL.out xn
        have HSd := hid hs
        clear hs c2
        go_wp2_with (go_at_call 13; refine stop_ (fun Ps hPs => ?_))
        refine hPs ?_
        clear hPs Ps
        refine HSd.out.mono ?_
        clear HSd c1
        rintro e5 w5 ⟨⟨s5, rfl⟩, ⟨q5, k5, k6, k7⟩, b5⟩
        have HL5 := hid k5
        have HB5 := hid (HBl.out.trans b5)
        clear k5 b5
        go_wp2_with fail
        go_roundg (n - (j + 1))
        case measure => omega
        case rel => exact ⟨j + 1, q5, by omega, rfl, by go_num, by omega, by omega, HL5, HB5⟩
    · obtain rfl : j = n := by omega
      have hji : ¬ (j : Int) < (j : Int) := by omega
      obtain ⟨Wa, rfl⟩ : ∃ W, W = wr := ⟨_, rfl⟩
      obtain ⟨sv, ls, hx, ha⟩ := HL.out
      have HRr := hid (And.intro ((show Blk w1 B 4 #[_] from HR.out.1).below HBl.out (by omega) : Boxed Wa B 4 (.bool false)) hBw)
      have HF := hid (flight21 hx)
      have HX := hid (And.intro hx ha)
      have HL' := hid (show B + 1 ≤ Wa.heap.size from HL.out.leB)
      clear hx ha HL hBw HAw HS
      go_wp2_with (go_at_call 21; refine stop_ (fun Ps hPs => ?_))
      refine hPs ?_
      clear hPs Ps
      refine HF.out.mono ?_
      clear HF
      rintro e w2 ⟨v2, lf, rfl, ho2, hf2, hb2⟩
      obtain ⟨A2, c2, rfl, _, _⟩ := owned_slice ho2
      have hk2 : lf.map Lt.k = ls.map Lt.k := by rw [hf2.keys, List.take_of_length_le (Nat.le_refl _)]
      obtain ⟨m, hm⟩ : ∃ m, m = lf.length := ⟨_, rfl⟩
      have hml : m = ls.length := by rw [hm]; have := congrArg List.length hk2; simpa using this
      have hm5 : m ≤ 512 := by have := HX.out.1.le; omega
      rw [← hm] at ho2 ⊢
      have hb3 : Below w2.heap.size w2 ((w2.alloc (.cells #[.slice A2 m c2] 37)).alloc (.cells #[.int .i64 0] 3)) := ((Below.refl _ w2).alloc (Nat.le_refl _) _).alloc (by simp) _
      have bF : Boxed ((w2.alloc (.cells #[.slice A2 m c2] 37)).alloc (.cells #[.int .i64 0] 3)) w2.heap.size 37 (.slice A2 m c2) := (Boxed.new w2 37 _).alloc _
      have bK : Boxed ((w2.alloc (.cells #[.slice A2 m c2] 37)).alloc (.cells #[.int .i64 0] 3)) (w2.heap.size + 1) 3 (.int .i64 ((0 : Nat) : Int)) := by
        have := Boxed.new (w2.alloc (.cells #[.slice A2 m c2] 37)) 3 (.int .i64 ((0 : Nat) : Int))
        rwa [World.size_alloc] at this
      have s3 : ((w2.alloc (.cells #[.slice A2 m c2] 37)).alloc (.cells #[.int .i64 0] 3)).heap.size = w2.heap.size + 2 := by simp
      obtain ⟨w3, hw3⟩ : ∃ w3, w3 = (w2.alloc (.cells #[.slice A2 m c2] 37)).alloc (.cells #[.int .i64 0] 3) := ⟨_, rfl⟩
      rw [← hw3] at hb3 bF bK s3
      have hx3 := (HX.out.1.later hb2).later hb3
      obtain ⟨ns, hns⟩ : ∃ ns, ns = (ls.map Lt.k).map (·.1) := ⟨_, rfl⟩
      have hnl : ns.length = m := by rw [hns, hml]; simp
      have hall := all26b_of hx3
      rw [← hns] at hall
      have HALL := hid hall
      have HN := hid (And.intro hns (And.intro hnl (And.intro hk2 hm)))
      have H3 := hid (And.intro bF (And.intro bK (And.intro hx3 (And.intro (owned_later ho2 hb3) (And.intro s3 (And.intro hf2.own (And.intro (hb2.trans (hb3.mono hb2.size)) (And.intro hb3 hb2.size))))))))
      clear hall hns hnl hk2 hm hml bF bK hx3 ho2 s3 hf2 hb2 hb3
      go_wp2_with (go_at_call 26; refine stop_ (fun Ps hPs => ?_))
      refine hPs ?_
      clear hPs Ps
      rw [← hw3]
      clear hw3
      refine HALL.out.mono ?_
      clear HALL
      rintro e w4 ⟨Bs, A4, cap4, rfl, hBs1, hBs2, hBs3, hrn, hcn, hcm, hb4, hA4⟩
      rw [HN.out.2.1] at hBs3 hrn hcn
      have bK4 : Boxed w4 (w2.heap.size + 1) 3 (.int .i64 ((0 : Nat) : Int)) := (show Blk w3 _ 3 #[_] from H3.out.2.1).later hb4
      have bF4 : Boxed w4 w2.heap.size 37 (.slice A2 m c2) := (show Blk w3 _ 37 #[_] from H3.out.1).later hb4
      have hs3 := H3.out.2.2.2.2.1
      have hs4 := hb4.size
      have HG := hid (And.intro (show w2.heap.size + 2 ≤ Bs by omega) (And.intro hBs2 (And.intro hBs3 (And.intro hrn (And.intro hcn (show ∀ b off, A4 = some ⟨b, off, none⟩ → b ≠ w2.heap.size + 1 from fun b off e9 => by have := hA4 b off e9; omega))))))
      have H4 := hid (And.intro bF4 (And.intro bK4 (And.intro hb4 (show w2.heap.size + 2 ≤ w4.heap.size by omega))))
      clear hBs1 hBs2 hBs3 hrn hcn hcm hb4 hA4 bK4 bF4 hs3 hs4
      go_wp2_with fail
      refine (wpIn_wide (n := 3)).1 ?_
      refine name_tmps (fun T hT => ?_)
      have HT := hid hT
      clear hT
      refine wpIn_rangeFunc_ownH hro h1 (gf := 47) (lb := #[.pointer (some ⟨Bs, 0, none⟩)]) (by have hT := HT.out; subst hT; rfl) trivial (enters_of Try.func47 (by kernel_rfl) rfl)
        (values_stopsb Fence.wide _ trivial hro (by omega) Bs w4.heap.size cap4 A4 ns (by have := HN.out.2.1; omega) w4 HG.out.2.1 (w2.heap.size + 1) (by have := HG.out.1; omega) HG.out.2.2.2.2.2 (Nat.le_refl _) (by rw [HN.out.2.1]; exact HG.out.2.2.1) (by rw [HN.out.2.1]; exact HG.out.2.2.2.1) (by rw [HN.out.2.1]; exact HG.out.2.2.2.2.1)) bb_t (bb_b (Nat.le_refl _)) (Below.refl _ _) (fun _ => rfl)
        (fun pre W => Boxed W (w2.heap.size + 1) 3 (.int .i64 (pre.length : Int)) ∧ Bb w4.heap.size (w2.heap.size + 1) w4 W)
        (fun c' pre W => c' = .ret ∧ Off ns pre)
        (OwnFrom.and (Own.from (boxed_own _ 3 (fun pre : List Int => Value.int .i64 (pre.length : Int))) _) (ownFrom_bb (Nat.le_refl _) (Nat.le_refl _)))
        (fun c' => ownFrom_pure _ (fun pre : List Int => c' = .ret ∧ Off ns pre))
        ⟨H4.out.2.1, Bb.refl _ _ _⟩
        (fun x a' _ => a' = { tmps := (T.setIfInBounds 72 (.int .i64 x)).setIfInBounds 9 (.int .i64 x), defers := [] })
        (fun _ _ _ _ _ _ hs _ _ => hs)
        ?assign ?body ?done ?stop
      case assign =>
        rintro l pre x W K hI hK
        have hT := HT.out
        subst hT
        gi_wp2
        exact hK _ _ (KeepsFrom.refl _ _) (Bb.refl _ _ _) hI (by simp)
      case body =>
        rintro l pre x a' W _ _ ⟨bKW, hBb⟩ rfl hlt
        obtain ⟨k, hk⟩ : ∃ k, k = pre.length := ⟨_, rfl⟩
        rw [← hk] at bKW hlt
        have hkm : k < m := by have := HN.out.2.1; omega
        have bFW : Boxed W w2.heap.size 37 (.slice A2 m c2) := (hBb.block _ (by have := H4.out.2.2.2; omega) (by omega)).trans H4.out.1
        have ho4 := owned_later H3.out.2.2.2.1 H4.out.2.2.1
        have hoW : W.ownsRow Wa.heap.size 31 3 (.slice A2 m c2) m (ltc lf) := owned_bb ho4 hBb (Nat.le_refl _) (fun g hg => owned_blk_ne ho4 (show Blk w4 _ 3 #[_] from H4.out.2.1) (by decide) g hg)
        obtain ⟨y, hy⟩ : ∃ y, lf[k]? = some y := ⟨lf[k]'(by rw [← HN.out.2.2.2]; exact hkm), List.getElem?_eq_getElem _⟩
        have hny : ns[k]? = some y.n := by
          rw [HN.out.1, ← HN.out.2.2.1, List.getElem?_map, List.getElem?_map, hy]
          rfl
        have hyt := (H3.out.2.2.2.2.2.1 y (List.mem_of_getElem? hy)).to
        obtain ⟨g, off, rfl, _, c0, c1, _⟩ := ltAt (Rd.of_own hoW) hy
        have cK := bKW.cell
        have fK := bKW.frozen
        have cF := bFW.cell
        have hki : (k : Int) < (m : Int) := by omega
        have hk0 : (0 : Int) ≤ (k : Int) := Int.natCast_nonneg _
        have hk5 : (k : Int) < 512 := by omega
        have hdg : decide ((m : Int) ≤ (k : Int)) = false := by simp; omega
        have hdg2 : decide (m ≤ k) = false := by simp; omega
        have HKW := hid bKW
        have HNY := hid (And.intro hny hk)
        have HT2 := HT
        by_cases hx : x = y.n
        · subst hx
          have hxe : (y.n != y.n) = false := by simp
          have he : (pre ++ [y.n]).length = k + 1 := by rw [List.length_append, ← hk]; rfl
          have HE := hid he
          have HOW := hid hoW
          have HY := hid hy
          clear hny hk he hoW hy ho4 bKW bFW
          have hT := HT.out
          subst hT
          simp only [List.setIfInBounds_toArray, List.set_cons_succ, List.set_cons_zero]
          cases k with
          | zero =>
            have e0 : W.cell? ⟨g, off, none⟩ = some (.int .i64 y.n) := by simpa using c0
            have e1 : W.cell? ⟨g, off + 1, none⟩ = some (.int .i64 y.to) := by simpa using c1
            have eK : W.cell? ⟨w2.heap.size + 1, 0, none⟩ = some (.int .i64 0) := cK
            have em : (0 : Int) < (m : Int) := by omega
            have ed : decide ((m : Int) ≤ 0) = false := by simp; omega
            clear c0 c1 cK hki hk0 hk5 hdg hdg2
            rcases hyt with ht | ht
            · have t1 : (y.to != 0) = false := by rw [ht]; rfl
              clear ht
              gi_wp2
              refine ⟨(KeepsOthers.setCell _ _ _).from _, (Bb.refl _ _ W).setK _, ?_, hBb.setK _⟩
              rw [HE.out]
              exact HKW.out.set _
            · have t1 : (y.to != 0) = true := by rw [ht]; rfl
              have t2 : (y.to != 1) = false := by rw [ht]; rfl
              clear ht
              gi_wp2
              refine ⟨(KeepsOthers.setCell _ _ _).from _, (Bb.refl _ _ W).setK _, ?_, hBb.setK _⟩
              rw [HE.out]
              exact HKW.out.set _
          | succ k' =>
            obtain ⟨y', hy'⟩ : ∃ y', lf[k']? = some y' := ⟨lf[k']'(by rw [← HN.out.2.2.2]; omega), List.getElem?_eq_getElem _⟩
            have hlt' : y'.n < y.n := by
              have h1 : (ls.map Lt.k)[k']? = some y'.k := by rw [← HN.out.2.2.1, List.getElem?_map, hy']; rfl
              have h2 : (ls.map Lt.k)[k' + 1]? = some y.k := by rw [← HN.out.2.2.1, List.getElem?_map, HY.out]; rfl
              exact asc_lt HX.out.2 (Nat.lt_succ_self k') h1 h2
            have d0 : W.cell? ⟨g, off + k' * 3, none⟩ = some (.int .i64 y'.n) := by
              obtain ⟨g', off', e9, _, d0, _, _⟩ := ltAt (Rd.of_own HOW.out) hy'
              simp only [Option.some.injEq, Addr.mk.injEq, and_true] at e9
              obtain ⟨rfl, rfl⟩ := e9
              exact d0
            have t3 : decide (y.n ≤ y'.n) = false := by simp; omega
            have t4 : ¬ y.n ≤ y'.n := by omega
            have t5 : (0 : Int) < (k' : Int) + 1 := by omega
            have t6 : (k' : Int) < (m : Int) := by omega
            have t7 : (0 : Int) ≤ (k' : Int) := by omega
            clear hy' hlt'
            push_cast at cK hki hk0 hk5 hdg
            rcases hyt with ht | ht
            · have t1 : (y.to != 0) = false := by rw [ht]; rfl
              clear ht
              gi_wp2
              refine ⟨(KeepsOthers.setCell _ _ _).from _, (Bb.refl _ _ W).setK _, ?_, hBb.setK _⟩
              rw [HE.out]
              exact HKW.out.set _
            · have t1 : (y.to != 0) = true := by rw [ht]; rfl
              have t2 : (y.to != 1) = false := by rw [ht]; rfl
              clear ht
              gi_wp2
              refine ⟨(KeepsOthers.setCell _ _ _).from _, (Bb.refl _ _ W).setK _, ?_, hBb.setK _⟩
              rw [HE.out]
              exact HKW.out.set _
        · have hxe : (y.n != x) = true := by simp; exact fun e9 => hx e9.symm
          have fR : W.frozen? ⟨B, 0, none⟩ = false := (show Blk W B 4 #[_] from (hBb.block B (by have := HRr.out.1.lt; have := H3.out.2.2.2.2.2.2.2.2; have := H4.out.2.2.2; omega) (by have := HRr.out.1.lt; have := H3.out.2.2.2.2.2.2.2.2; omega)).trans ((show Blk Wa B 4 #[_] from HRr.out.1).below (H3.out.2.2.2.2.2.2.1.trans (H4.out.2.2.1.mono H3.out.2.2.2.2.2.2.1.size)) HRr.out.1.lt)).frozen 0
          have cR : W.cell? ⟨B, 0, none⟩ = some (.bool false) := (show Blk W B 4 #[_] from (hBb.block B (by have := HRr.out.1.lt; have := H3.out.2.2.2.2.2.2.2.2; have := H4.out.2.2.2; omega) (by have := HRr.out.1.lt; have := H3.out.2.2.2.2.2.2.2.2; omega)).trans ((show Blk Wa B 4 #[_] from HRr.out.1).below (H3.out.2.2.2.2.2.2.1.trans (H4.out.2.2.1.mono H3.out.2.2.2.2.2.2.1.size)) HRr.out.1.lt)).cell 0
          clear hny hk hoW hy ho4 bKW bFW
          have hT := HT.out
          subst hT
          simp only [List.setIfInBounds_toArray, List.set_cons_succ, List.set_cons_zero]
          gi_wp2
          refine ⟨(KeepsOthers.setCell _ _ _).from _, rfl, pre, x, rfl, fun e9 => ?_⟩
          rw [← HNY.out.2, HNY.out.1] at e9
          exact hx (Option.some.inj e9).symm
      case stop =>
        rintro D c' pre W _ ⟨k, hk, rfl⟩ ⟨_, ho⟩ _
        exact (off_not ho).elim
      case done =>
        rintro D1 ys W5 hD hys ⟨bK5, hBb⟩ hK
        rw [hys] at bK5
        have hT := HT.out
        subst hT
        have hnl : ns.length = m := HN.out.2.1
        rw [hnl] at bK5
        have bF5 : Boxed W5 w2.heap.size 37 (.slice A2 m c2) := (hBb.block _ (by have := H4.out.2.2.2; omega) (by omega)).trans H4.out.1
        have cK := bK5.cell
        have cF := bF5.cell
        have hm5i : (m : Int) ≤ 512 := by omega
        have hm5d : ¬ (512 : Int) < (m : Int) := by omega
        have H5 := hid (And.intro bF5 (And.intro hBb (And.intro hK hD)))
        clear hnl bK5 bF5 hBb hK hD
        have ho4 := owned_later H3.out.2.2.2.1 H4.out.2.2.1
        have hgr := H5.out.2.1.grows
        have kK4 : Blk w4 (w2.heap.size + 1) 3 #[_] := H4.out.2.1
        have hsA := H3.out.2.2.2.2.2.2.2.2
        have hBA := HL'.out
        have hEm : Em w00.heap.size (B + 1) z w2.heap.size D1 q (lf.map Lt.k) w1 W5 lf A2 c2 m := by
          refine ⟨⟨sv, ls, (H3.out.2.2.1.later H4.out.2.2.1).gbx hgr kK4 (by decide) (by decide) (by decide), HN.out.2.2.1.symm, fun g hg hg2 => ?_⟩, by rw [HN.out.2.2.1]; exact HX.out.2, HN.out.2.2.2, hm5, fun x hx => ?_, H5.out.1, ?_, ?_, H5.out.2.2.1, by omega⟩
          · have := (HX.out.1.own.lt g hg).2
            have := (H3.out.2.2.2.1.lt g hg2).1
            omega
          · obtain ⟨A9, c9, e9, _, _⟩ := owned_slice (H3.out.2.2.2.2.2.1 x hx).own
            exact ⟨A9, c9, e9⟩
          · exact owned_less (owned_bb ho4 H5.out.2.1 (Nat.le_refl _) (fun g hg => owned_blk_ne ho4 kK4 (by decide) g hg)) hBA
          · exact HBl.out.trans (((H3.out.2.2.2.2.2.2.1.mono hBA).trans (H4.out.2.2.1.mono (by have := H3.out.2.2.2.2.2.2.1.size; omega))).trans ⟨hgr.os, hgr.tape, hgr.output, hgr.size, fun k hk => H5.out.2.1.block k (by have := H4.out.2.2.2; omega) (by omega)⟩)
        have HE0 := hid hEm
        have HDD := hid (show w2.heap.size < D1 by have := H5.out.2.2.2; have := H4.out.2.2.2; omega)
        have hfb : B < w2.heap.size := by omega
        clear ho4 hgr kK4 hEm hsA hBA H5 H4 H3 HG
        go_wp2_with fail
        clear cK cF hm5i hm5d
        go_loopg [10] m (fun g _ wr => ∃ (lf' : List Lt) (A' : Option Addr) (c' : Nat), g = lf'.length ∧ Hid (Em w00.heap.size (B + 1) z w2.heap.size D1 q (lf'.map Lt.k) w1 wr lf' A' c' lf'.length))
        case atStart => exact ⟨lf, A2, c2, HN.out.2.2.2, by rw [← HN.out.2.2.2]; exact HE0⟩
        case round =>
          clear HE0
          obtain ⟨lf', A', c', rfl, HE⟩ := hrel
          obtain ⟨m', hm'⟩ : ∃ m', m' = lf'.length := ⟨_, rfl⟩
          rw [← hm'] at HE
          have HM' := hid hm'
          clear hm'
          have cF := HE.out.box.cell
          by_cases h0 : 0 < m'
          · have h0i : (0 : Int) < (m' : Int) := by omega
            have hl5 := HE.out.le
            have HP := hid (pick15 st m' h0 (by omega) HST.out wr)
            obtain ⟨g, rfl⟩ : ∃ g, A' = some ⟨g, 0, none⟩ := by
              rcases owned_form0 HE.out.own with ⟨_, h9⟩ | ⟨g, cap, h9⟩
              · omega
              · injection h9 with h9
                exact ⟨g, h9⟩
            have hcm := (owned_cap HE.out.own).1
            go_wp2_with (go_at_call 15; refine stop_ (fun Ps hPs => ?_))
            refine hPs ?_
            clear hPs Ps
            refine HP.out.mono ?_
            clear HP
            rintro e X' ⟨r, rfl, hr, h9⟩
            subst h9
            obtain ⟨x, hx⟩ : ∃ x, lf'[r]? = some x := ⟨lf'[r]'(by rw [← HE.out.len]; exact hr), List.getElem?_eq_getElem _⟩
            have c0 : X'.cell? ⟨g, r * 3, none⟩ = some (.int .i64 x.n) := by
              obtain ⟨g', off', e9, _, d0, _, _⟩ := ltAt (Rd.of_own HE.out.own) hx
              simp only [Option.some.injEq, Addr.mk.injEq, and_true] at e9
              obtain ⟨rfl, rfl⟩ := e9
              rwa [Nat.zero_add] at d0
            have hri : (r : Int) < (m' : Int) := by omega
            have hr0 : (0 : Int) ≤ (r : Int) := Int.natCast_nonneg _
            have hr5 : (r : Int) < 512 := by omega
            have HD := hid (HE.out.drop hx)
            have HX9 := hid hx
            clear hx
            go_wp2_with (go_at_call 13; refine stop_ (fun Ps hPs => ?_))
            refine hPs ?_
            clear hPs Ps
            refine HD.out.mono ?_
            clear HD c0 cF
            rintro e w6 ⟨rfl, hE6⟩
            have HE6 := hid hE6
            have cF := hE6.box.cell
            have fF := hE6.box.frozen
            clear hE6
            go_wp2_with fail
            have hone : ∀ x ∈ lf', ∃ A c, x.v = .slice A x.b.length c := HE6.out.one
            have hT := (Rd.of_own HE6.out.own).take (k := r) (by omega)
            rw [ltc_take] at hT
            have hDp := (Rd.of_own HE6.out.own).drop (k := r + 1) (cap := c') (by omega) hcm
            rw [ltc_drop] at hDp
            have i1 : r ≤ c' := by omega
            have i2 : (r : Int) ≤ (c' : Int) := by omega
            have i3 : (0 : Int) ≤ (r : Int) + 1 := by omega
            have i4 : (r : Int) + 1 ≤ (m' : Int) := by omega
            have i5 : r + 1 ≤ m' := by omega
            have i9 : IntKind.i64.wrap ((r : Int) + 1) = (r : Int) + 1 := IntWalk.i64_in _ (by omega)
            have i10 : ((r : Int) + 1).toNat = r + 1 := by omega
            have i11 : (m' : Int) ≤ (c' : Int) := by omega
            have i12 : m' ≤ c' := by omega
            have hlen9 : r + (m' - (r + 1)) = (lf'.eraseIdx r).length := by have h1 := HM'.out; have h2 := @List.length_eraseIdx_of_lt _ lf' r (by omega); omega
            have hrow9 : ltc (lf'.take r) ++ ltc (lf'.drop (r + 1)) = ltc (lf'.eraseIdx r) := by rw [← ltc_app, ← List.eraseIdx_eq_take_drop_succ]
            have HL9 := hid (And.intro hlen9 hrow9)
            clear hlen9 hrow9
            by_cases hce : c' = r + 1
            · obtain rfl : m' = c' := by omega
              have HCE := hid hce
              have j9 : IntKind.i64.wrap ((r : Int) + 1) = (m' : Int) := by rw [IntWalk.i64_in _ (by omega)]; omega
              clear i3 i4 i5 i9 i10 i11 i12 hce hDp
              have hDp : True := trivial
              have HTT := hid (And.intro hT (And.intro hDp hone))
              have cF1 : w6.drew.cell? ⟨w2.heap.size, 0, none⟩ = some (.slice (some ⟨g, 0, none⟩) m' m') := cF
              have cF3 : (w6.alloc (.cells #[] 31)).cell? ⟨w2.heap.size, 0, none⟩ = some (.slice (some ⟨g, 0, none⟩) m' m') := (HE6.out.later ((Below.refl _ w6).alloc (Nat.le_refl _) _)).box.cell
              have fF3 : (w6.alloc (.cells #[] 31)).frozen? ⟨w2.heap.size, 0, none⟩ = false := (HE6.out.later ((Below.refl _ w6).alloc (Nat.le_refl _) _)).box.frozen
              have hlit : ((w6.alloc (.cells #[] 31)).drew).ownsRow w6.heap.size 31 3 (.slice (some ⟨w6.heap.size, 0, none⟩) 0 0) 0 [] := World.ownsRow_lit (base := w6.heap.size) (e := 31) (size := 3) w6 #[] 0 (Nat.le_refl _) (Nat.zero_le _) rfl
              have HLT := hid (And.intro hlit (show Rd (w6.alloc (.cells #[] 31)).drew w6.heap.size 3 (some ⟨g, 0, none⟩) r (ltc (lf'.take r)) from HTT.out.1.alloc (Nat.le_refl _) _))
              clear hT hDp hone hlit
              refine still_panic ?_
              go_region_law (first
                | (refine step_app T37 (.tmp 141) (.tmp 144) rfl rfl HLT.out.1 rfl HLT.out.2 rfl (ltc_one9 _ lf' (fun x hx => List.mem_of_mem_take hx) HTT.out.2.2) (by omega) (by simp) ?_; intro v3 w3 hv3 hg3 hat3; have b3 := hid (grown_lit hg3); have cW3 : w3.cell? ⟨w2.heap.size, 0, none⟩ = some (.slice (some ⟨g, 0, none⟩) m' m') := (HE6.out.later b3.out).box.cell; have fW3 : w3.frozen? ⟨w2.heap.size, 0, none⟩ = false := (HE6.out.later b3.out).box.frozen)
                | (refine step_app T37 (.tmp 145) (.tmp 149) rfl rfl hv3 rfl (Rd.nil_ (w := w3) (B := 0) (sz := 3) (A := some ⟨g, 0, none⟩)) rfl (fun u hu => absurd hu List.not_mem_nil) (by omega) (by have := b3.out.size; omega) ?_; intro v4 w4' hv4 hg4 hat4; have b4 := hid (b3.out.grown hg4 (by have := b3.out.size; omega) (fun k hk => (hv3.lt k hk).1)); obtain ⟨A4', c4', rfl, _, _⟩ := owned_slice hv4; have cW4 : w4'.cell? ⟨w2.heap.size, 0, none⟩ = some (.slice (some ⟨g, 0, none⟩) m' m') := (HE6.out.later b4.out).box.cell; have fW4 : w4'.frozen? ⟨w2.heap.size, 0, none⟩ = false := (HE6.out.later b4.out).box.frozen))
              all_goals
                refine noPanic_n ?_
                have HV4 := hid hv4
                clear cF cF1 cF3 fF fF3 cW3 fW3 cW4 fW4 hv3 hv4 hg3 hg4 hat3 hat4 b3 HLT
                have hE9 := HE6.out.anew (A' := A4') (c' := c4') (m' := (lf'.eraseIdx r).length) b4.out rfl (by
                  have h9 := HV4.out
                  rw [show 0 + r + 0 = (lf'.eraseIdx r).length by have := HL9.out.1; have := HCE.out; omega, show [] ++ ltc (lf'.take r) ++ [] = [] ++ ltc (lf'.eraseIdx r) by rw [List.nil_append, List.append_nil, List.nil_append, ← HL9.out.2, List.drop_eq_nil_of_le (by have := HM'.out; have := HCE.out; omega)]; simp [ltc], List.nil_append] at h9
                  exact h9)
                have HE9 := hid hE9
                have hr9 : r = (lf'.eraseIdx r).length := by have h1 := HM'.out; have h3 := HCE.out; have h2 := @List.length_eraseIdx_of_lt _ lf' r (by omega); omega
                have hsc : w4'.setCell ⟨w2.heap.size, 0, none⟩ (.slice A4' r c4') = w4'.setCell ⟨w2.heap.size, 0, none⟩ (.slice A4' (lf'.eraseIdx r).length c4') := by rw [← hr9]
                have HSC := hid hsc
                clear hr9 hsc
                clear hE9 HV4
                have hlen9 := HL9.out.1
                try rw [hlen9]
                go_wp2_with fail
                go_roundg ((lf'.eraseIdx r).length)
                case measure => have h1 := HM'.out; have h3 := HCE.out; have h2 := @List.length_eraseIdx_of_lt _ lf' r (by omega); omega
                case rel => exact ⟨lf'.eraseIdx r, A4', c4', rfl, by first | exact HE9 | (rw [hlen9]; exact HE9) | (rw [HSC.out]; exact HE9)⟩
            · rw [if_neg hce] at hDp
              simp only [Option.map_some, Addr.add_lit, Nat.zero_add] at hDp
              have HTT := hid (And.intro hT (And.intro hDp hone))
              have cF1 : w6.drew.cell? ⟨w2.heap.size, 0, none⟩ = some (.slice (some ⟨g, 0, none⟩) m' c') := cF
              have cF3 : (w6.alloc (.cells #[] 31)).cell? ⟨w2.heap.size, 0, none⟩ = some (.slice (some ⟨g, 0, none⟩) m' c') := (HE6.out.later ((Below.refl _ w6).alloc (Nat.le_refl _) _)).box.cell
              have fF3 : (w6.alloc (.cells #[] 31)).frozen? ⟨w2.heap.size, 0, none⟩ = false := (HE6.out.later ((Below.refl _ w6).alloc (Nat.le_refl _) _)).box.frozen
              have hlit : ((w6.alloc (.cells #[] 31)).drew).ownsRow w6.heap.size 31 3 (.slice (some ⟨w6.heap.size, 0, none⟩) 0 0) 0 [] := World.ownsRow_lit (base := w6.heap.size) (e := 31) (size := 3) w6 #[] 0 (Nat.le_refl _) (Nat.zero_le _) rfl
              have HLT := hid (And.intro hlit (show Rd (w6.alloc (.cells #[] 31)).drew w6.heap.size 3 (some ⟨g, 0, none⟩) r (ltc (lf'.take r)) from HTT.out.1.alloc (Nat.le_refl _) _))
              clear hT hDp hone hlit
              refine still_panic ?_
              go_region_law (first
                | (refine step_app T37 (.tmp 141) (.tmp 144) rfl rfl HLT.out.1 rfl HLT.out.2 rfl (ltc_one9 _ lf' (fun x hx => List.mem_of_mem_take hx) HTT.out.2.2) (by omega) (by simp) ?_; intro v3 w3 hv3 hg3 hat3; have b3 := hid (grown_lit hg3); have cW3 : w3.cell? ⟨w2.heap.size, 0, none⟩ = some (.slice (some ⟨g, 0, none⟩) m' c') := (HE6.out.later b3.out).box.cell; have fW3 : w3.frozen? ⟨w2.heap.size, 0, none⟩ = false := (HE6.out.later b3.out).box.frozen)
                | (refine step_app T37 (.tmp 145) (.tmp 149) rfl rfl hv3 rfl (HTT.out.2.1.below b3.out) rfl (ltc_one9 _ lf' (fun x hx => List.mem_of_mem_drop hx) HTT.out.2.2) (by omega) (by have := b3.out.size; omega) ?_; intro v4 w4' hv4 hg4 hat4; have b4 := hid (b3.out.grown hg4 (by have := b3.out.size; omega) (fun k hk => (hv3.lt k hk).1)); obtain ⟨A4', c4', rfl, _, _⟩ := owned_slice hv4; have cW4 : w4'.cell? ⟨w2.heap.size, 0, none⟩ = some (.slice (some ⟨g, 0, none⟩) m' c') := (HE6.out.later b4.out).box.cell; have fW4 : w4'.frozen? ⟨w2.heap.size, 0, none⟩ = false := (HE6.out.later b4.out).box.frozen))
              all_goals
                refine noPanic_n ?_
                have HV4 := hid hv4
                clear cF cF1 cF3 fF fF3 cW3 fW3 cW4 fW4 hv3 hv4 hg3 hg4 hat3 hat4 b3 HLT
                have hE9 := HE6.out.anew (A' := A4') (c' := c4') (m' := (lf'.eraseIdx r).length) b4.out rfl (by
                  have h9 := HV4.out
                  rw [show 0 + r + (m' - (r + 1)) = (lf'.eraseIdx r).length by have := HL9.out.1; omega, show [] ++ ltc (lf'.take r) ++ ltc (lf'.drop (r + 1)) = [] ++ ltc (lf'.eraseIdx r) by rw [List.nil_append, List.nil_append, HL9.out.2], List.nil_append] at h9
                  exact h9)
                have HE9 := hid hE9
                clear hE9 HV4
                have hlen9 := HL9.out.1
                try rw [hlen9]
                go_wp2_with fail
                go_roundg ((lf'.eraseIdx r).length)
                case measure => have h1 := HM'.out; have h2 := @List.length_eraseIdx_of_lt _ lf' r (by omega); omega
                case rel => exact ⟨lf'.eraseIdx r, A4', c4', rfl, by first | exact HE9 | (rw [hlen9]; exact HE9) | (rw [← hlen9]; exact HE9)⟩
          · obtain rfl : m' = 0 := by omega
            clear h0
            have HFl := hid HE.out.none
            go_wp2_with (go_at_call 21; refine stop_ (fun Ps hPs => ?_))
            refine hPs ?_
            clear hPs Ps cF
            refine HFl.out.mono ?_
            clear HFl
            rintro e w6 ⟨⟨A6, c6, rfl⟩, hE6⟩
            have hR6 : Boxed w6 B 4 (.bool false) := (show Blk w1 B 4 #[_] from HR.out.1).below hE6.low (by omega)
            have cR := hR6.cell
            have fR := hR6.frozen
            have HE6 := hid hE6
            have HR6 := hid hR6
            clear hE6 hR6
            go_wp2_with fail
            have hKs := (KeepsOthers.setCell w6 ⟨B, 0, none⟩ (.bool true)).same D1 _ HE6.out.d rfl
            refine ⟨by simp, .inl ⟨_, _, rfl, run_takeDeferred hKs, ?_⟩⟩
            have hbx := HR6.out.set (.bool true)
            have c1 := cell_kept hbx.cell (grownBy_putObj' _ D1 (.deferred none)) (fun r e => by cases e; exact ⟨_, hKs, rfl⟩)
            have hDB : B ≤ D1 := by have := HDD.out; omega
            refine ⟨_, ?_, rfl, below_putD ((HR.out.2.1.trans (HE6.out.low.mono (by omega))).setCell (p := ⟨B, 0, none⟩) (Nat.le_refl _) _) hDB hKs⟩
            simp [results, Try.results7, Try.f7, go_sem, c1]
end Go.Proofs.Ytigedoonhmaghaa
