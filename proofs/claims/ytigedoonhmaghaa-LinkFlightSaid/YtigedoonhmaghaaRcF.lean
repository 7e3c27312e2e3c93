/- Links: are the numbers gone over as they are: the walk of gone. -/
import Derived.Test.YtigedoonhmaghaaRbF
namespace Go.Proofs.Ytigedoonhmaghaa
open Go.RowKit Go.Lg Go.Shelf
variable {F : Nat}
set_option linter.unusedVariables false
set_option linter.unusedSimpArgs false
attribute [local go_sem] Oper.semAt_some

theorem own_def {α : Type} {B D : Nat} (h : D < B) : OwnFrom B (fun (_ : α) (W : World) => W.heap[D]? = some (.deferred (some []))) := fun s X Y row hs hg hr => by
  have hlt : D < X.heap.size := (Array.getElem?_eq_some_iff.1 hs).1
  exact (hg.block D hlt (fun e => by have := (hr D e.symm).1; omega)).trans hs
theorem OwnFrom.or {α : Type} {B : Nat} {I J : α → World → Prop} (h : OwnFrom B I) (k : OwnFrom B J) : OwnFrom B (fun s W => I s W ∨ J s W) := fun s X Y row hs hg hr => hs.imp (fun a => h s X Y row a hg hr) (fun a => k s X Y row a hg hr)
/-- What a loop's cells hold: how many have come; how many are wanted. -/
def KI (w1 : World) (K : Nat) (nv : Int) (k : Nat) (W : World) : Prop := (Boxed W K 3 (.int .i64 (k : Int)) ∧ Boxed W w1.heap.size 3 (.int .i64 nv)) ∧ Below w1.heap.size w1 W
theorem ki_own {α : Type} {w1 : World} {K B : Nat} {nv : Int} (f : α → Nat) (hB : w1.heap.size ≤ B) : OwnFrom B (fun s W => KI w1 K nv (f s) W) :=
  OwnFrom.and (OwnFrom.and (Own.from (boxed_own K 3 (fun s => Value.int .i64 (f s : Int))) _) (Own.from (boxed_own _ 3 (fun _ => Value.int .i64 nv)) _)) (ownFrom_below (Nat.le_refl _) hB)
theorem KI.count {w1 W : World} {K : Nat} {nv : Int} {k : Nat} (h : KI w1 K nv k W) (hK : w1.heap.size < K) (k' : Nat) : KI w1 K nv k' (W.setCell ⟨K, 0, none⟩ (.int .i64 (k' : Int))) :=
  ⟨⟨h.1.1.set _, h.1.2.other (by omega) _⟩, h.2.setCell (p := ⟨K, 0, none⟩) (by show _ ≤ K; omega) _⟩
/-- A number has come that is not the next. -/
def Off (ns pre : List Int) : Prop := ∃ ini x, pre = ini ++ [x] ∧ ns[ini.length]? ≠ some x
theorem off_not {ns : List Int} {k : Nat} (h : Off ns (ns.take k)) : False := by
  obtain ⟨ini, x, h1, h2⟩ := h
  refine h2 ?_
  have h3 : (ns.take k)[ini.length]? = some x := by rw [h1]; simp
  rw [List.getElem?_take] at h3
  split at h3
  · exact h3
  · cases h3
theorem eql58 (Bs : Nat) (w : World) : Sem.run Try.prog (binOp BinOp.eql 58 (Value.func (Fn.func 47) #[] #[Value.pointer (some ⟨Bs, 0, none⟩)]) Value.nilFunc) w = .ok (.bool false) w := by kernel_rfl
theorem below_putD {w W : World} {n : Nat} (h : Below n w W) {D : Nat} (hD : n ≤ D) (hK : W.heap[D]? = some (.deferred (some []))) : Below n w (W.putObj D (.deferred none)) :=
  h.trans ((Below.refl n W).grown (grownBy_putObj' W D _) (by have := (Array.getElem?_eq_some_iff.1 hK).1; omega) (fun k e => by cases e; omega))
set_option maxRecDepth 100000 in
set_option maxHeartbeats 8000000 in
theorem gone24 {B z : Nat} {last : Int} {sv : Value} {ls : List Lt} {w : World} (h : LX F false w B z last sv ls) (Aw : Option Addr) (m cw : Nat) (want : List Lt) (hw : Rd w w.heap.size 3 Aw m (ltc want)) (hm : m = want.length) (hk : want.map Lt.k = ls.map Lt.k)
    (st : Int) (hst : -9223372036854775808 ≤ st ∧ st ≤ 9223372036854775807) :
    Calls Try.prog 24 #[P z, .slice Aw m cw, .int .i64 st] w fun e w' => e = .returned (.bool true) ∧ Below w.heap.size w w' := by
  refine (callsIn_wide (n := 3)).1 ?_
  have hro : Fence.wide.round = none := rfl
  have h1 : 1 ≤ 3 := by omega
  have t26 : Fence.wide.fn 26 := trivial
  have t15 : Fence.wide.fn 15 := trivial
  have t47 : Fence.wide.fn 47 := trivial
  have hm5 : m ≤ 512 := by have := h.le; have := congrArg List.length hk; simp at this; omega
  obtain ⟨ns, hns⟩ : ∃ ns, ns = want.map (·.n) := ⟨_, rfl⟩
  have hnl : ns.length = m := by rw [hns, hm]; simp
  have hnk : (ls.map Lt.k).map (·.1) = ns := by rw [← hk, hns]; simp [Lt.k]
  obtain ⟨W, hW⟩ : ∃ W, (w.alloc (.cells #[.slice Aw m cw] 37)).alloc (.cells #[.bool false] 4) = W := ⟨_, rfl⟩
  have bW := (Boxed.new w 37 (.slice Aw m cw)).alloc (.cells #[.bool false] 4)
  have bR := Boxed.new (w.alloc (.cells #[.slice Aw m cw] 37)) 4 (.bool false)
  rw [World.size_alloc] at bR
  have hB : Below w.heap.size w ((w.alloc (.cells #[.slice Aw m cw] 37)).alloc (.cells #[.bool false] 4)) := ((Below.refl _ w).alloc (Nat.le_refl _) _).alloc (by simp) _
  have hsz : ((w.alloc (.cells #[.slice Aw m cw] 37)).alloc (.cells #[.bool false] 4)).heap.size = w.heap.size + 2 := by simp
  rw [hW] at bW bR hB hsz
  have hall := all26_of (h.later hB)
  rw [hnk] at hall
  have HALL := hid hall
  have HBW := hid hB
  have HNS := hid (And.intro hns (And.intro hnl hm))
  have HW := hid hw
  have HST := hid hst
  clear h hall hk hnk hns hst hB hw hm
  refine callsIn_of_wp_marks Try.func24 rfl trivial ?_ hro
  simp only [Try.ntmps24, List.size_toArray, List.length_cons, List.length_nil, Nat.reduceAdd, Nat.reduceSub, Array.replicate_succ, Array.replicate_zero, List.push_toArray, List.append_toArray, List.nil_append, List.cons_append]
  gi_wp2_with (gi_at_call 26; refine stop_ (fun Ps hPs => ?_))
  refine hPs ?_
  clear hPs Ps hW
  refine (callsIn_wide.2 HALL.out).mono ?_
  rintro e w1 ⟨Bs, A1, cap1, rfl, hBs1, hBs2, hBs3, hrn, hcn, hcm, hb1⟩
  rw [hnl] at hBs3 hrn hcn
  have bW1 : Boxed w1 w.heap.size 37 (.slice Aw m cw) := (show Blk W _ 37 #[_] from bW).later hb1
  have bR1 : Boxed w1 (w.heap.size + 1) 4 (.bool false) := (show Blk W _ 4 #[_] from bR).later hb1
  have cW1 := bW1.cell
  have cR1 := bR1.cell
  have hs1 := hb1.size
  rw [hsz] at hs1 hBs1
  have HN1 := hid (And.intro hrn (And.intro hcn hcm))
  have HS := hid (And.intro hBs1 (And.intro hBs2 hs1))
  have HB1 := hid (HBW.out.trans (hb1.mono HBW.out.size))
  have HBX := hid (And.intro bW1 (And.intro bR1 hBs3))
  clear hrn hcn hcm hb1 hnl bW bR hsz hBs1 hBs2 HALL HBW hBs3 bW1 bR1
  have hrun := eql58 Bs
  by_cases hm0 : m = 0
  · subst hm0
    gi_wp2
    refine wpIn_loop_rounds 3 ?_
    rw [roundsIn_succ]
    gi_wp2
    have ki1 : KI w1 (w1.heap.size + 1) 0 0 ((w1.alloc (.cells #[.int .i64 0] 3)).alloc (.cells #[.int .i64 0] 3)) := ⟨⟨by have := Boxed.new (w1.alloc (.cells #[.int .i64 0] 3)) 3 (.int .i64 ((0 : Nat) : Int)); rw [World.size_alloc] at this; exact this, (Boxed.new w1 3 (.int .i64 0)).alloc _⟩, ((Below.refl _ w1).alloc (Nat.le_refl _) _).alloc (by simp) _⟩
    have hsX1 : ((w1.alloc (.cells #[.int .i64 0] 3)).alloc (.cells #[.int .i64 0] 3)).heap.size = w1.heap.size + 2 := by simp
    obtain ⟨X1, hX1⟩ : ∃ X, (w1.alloc (.cells #[.int .i64 0] 3)).alloc (.cells #[.int .i64 0] 3) = X := ⟨_, rfl⟩
    rw [hX1] at ki1 hsX1 ⊢
    clear hX1
    refine wpIn_rangeFunc_ownH hro h1 (gf := 47) (lb := #[.pointer (some ⟨Bs, 0, none⟩)]) rfl trivial (enters_of Try.func47 (by kernel_rfl) rfl)
      (values_stops Fence.wide _ trivial hro (by omega) Bs w1.heap.size cap1 A1 ns (by have := HNS.out.2.1; omega) X1 HS.out.2.1 (by omega) (by rw [HNS.out.2.1]; exact (ki1.2.cell (p := ⟨Bs, 0, none⟩) HS.out.2.1).trans HBX.out.2.2) (by rw [HNS.out.2.1]; exact HN1.out.1.below ki1.2) (by rw [HNS.out.2.1]; exact HN1.out.2.1)) belowK_t (belowK_b (by omega)) (Below.refl _ _) (fun _ => rfl)
      (fun pre W => (KI w1 (w1.heap.size + 1) 0 pre.length W ∧ pre = []))
      (fun c' pre W => False)
      ((OwnFrom.and (ki_own _ (by omega)) (ownFrom_pure _ (fun pre : List Int => pre = []))))
      (fun _ _ _ _ _ hs _ _ => hs)
      ⟨ki1, rfl⟩
      (fun x a' _ => a' = { tmps := #[P z, .slice Aw 0 cw, .int .i64 st, undef, .pointer (some ⟨w.heap.size, 0, none⟩), undef, .pointer (some ⟨w.heap.size + 1, 0, none⟩), .func (.func 47) #[] #[.pointer (some ⟨Bs, 0, none⟩)], .pointer (some ⟨w1.heap.size, 0, none⟩), .int .i64 0, .pointer (some ⟨(w1.heap.size + 1), 0, none⟩), .int .i64 x, P z, .func (.func 47) #[] #[.pointer (some ⟨Bs, 0, none⟩)], .func (.func 47) #[] #[.pointer (some ⟨Bs, 0, none⟩)], .bool false, .slice Aw 0 cw, .int .i64 (0 : Int), .int .i64 (0 : Int), .bool false, undef, undef, undef, undef, .int .i64 0, .bool true, undef, undef, .func (.func 47) #[] #[.pointer (some ⟨Bs, 0, none⟩)], .int .i64 x, undef, undef, undef, undef, undef, undef, undef, undef, undef, undef, undef, undef, undef, undef, undef, undef, undef, undef, undef, undef, undef], defers := [] })
      (fun _ _ _ _ _ _ hs _ _ => hs)
      ?assign1 ?body1 ?done1 ?stop1
    case assign1 =>
      rintro l pre x W K hI hK
      gi_wp2
      exact hK _ _ (KeepsFrom.refl _ _) (Below.refl _ _) hI rfl
    case body1 =>
      rintro l pre x a' W _ _ ⟨ki, hl⟩ rfl hlt
      have := HNS.out.2.1
      omega
    case stop1 =>
      rintro D c' pre W _ _ h _
      exact h.elim
    case done1 =>
      rintro D1 ys Wq hD hys ⟨ki, hl⟩ hK
      have hl0 : ys = [] := hl
      rw [hl0] at ki
      have cK := ki.1.1.cell
      have cN := ki.1.2.cell
      have HKI1 := hid ki
      have HK1 := hid hK
      have hD1 := hD
      clear ki hK
      gi_wp2
      rw [roundsIn_succ]
      gi_wp2
      have ki2 : KI w1 Wq.heap.size 0 0 (Wq.alloc (.cells #[.int .i64 0] 3)) := ⟨⟨Boxed.new Wq 3 (.int .i64 ((0 : Nat) : Int)), HKI1.out.1.2.alloc _⟩, HKI1.out.2.alloc HKI1.out.2.size _⟩
      have hd2 : (Wq.alloc (.cells #[.int .i64 0] 3)).heap[D1]? = some (.deferred (some [])) := by rw [Below.heap_alloc _ _ _ (Array.getElem?_eq_some_iff.1 HK1.out).1]; exact HK1.out
      have hsX2 : (Wq.alloc (.cells #[.int .i64 0] 3)).heap.size = Wq.heap.size + 1 := by simp
      obtain ⟨X2, hX2⟩ : ∃ X, Wq.alloc (.cells #[.int .i64 0] 3) = X := ⟨_, rfl⟩
      rw [hX2] at ki2 hsX2 hd2 ⊢
      clear hX2
      have hDs : D1 < Wq.heap.size := (Array.getElem?_eq_some_iff.1 HK1.out).1
      have hWs : w1.heap.size ≤ Wq.heap.size := HKI1.out.2.size
      refine wpIn_rangeFunc_ownH hro h1 (gf := 47) (lb := #[.pointer (some ⟨Bs, 0, none⟩)]) rfl trivial (enters_of Try.func47 (by kernel_rfl) rfl)
        (values_stops Fence.wide _ trivial hro (by omega) Bs w1.heap.size cap1 A1 ns (by have := HNS.out.2.1; omega) X2 HS.out.2.1 (by omega) (by rw [HNS.out.2.1]; exact (ki2.2.cell (p := ⟨Bs, 0, none⟩) HS.out.2.1).trans HBX.out.2.2) (by rw [HNS.out.2.1]; exact HN1.out.1.below ki2.2) (by rw [HNS.out.2.1]; exact HN1.out.2.1)) belowK_t (belowK_b (by omega)) (Below.refl _ _) (fun _ => rfl)
        (fun pre W => (KI w1 Wq.heap.size 0 pre.length W ∧ pre = []) ∧ W.heap[D1]? = some (.deferred (some [])))
        (fun c' pre W => False)
        (OwnFrom.and (OwnFrom.and (ki_own _ (by omega)) (ownFrom_pure _ (fun pre : List Int => pre = []))) (own_def (by omega)))
        (fun _ _ _ _ _ hs _ _ => hs)
        ⟨⟨ki2, rfl⟩, hd2⟩
        (fun x a' _ => a' = { tmps := #[P z, .slice Aw 0 cw, .int .i64 st, undef, .pointer (some ⟨w.heap.size, 0, none⟩), undef, .pointer (some ⟨w.heap.size + 1, 0, none⟩), .func (.func 47) #[] #[.pointer (some ⟨Bs, 0, none⟩)], .pointer (some ⟨w1.heap.size, 0, none⟩), .int .i64 1, .pointer (some ⟨Wq.heap.size, 0, none⟩), .int .i64 x, P z, .func (.func 47) #[] #[.pointer (some ⟨Bs, 0, none⟩)], .func (.func 47) #[] #[.pointer (some ⟨Bs, 0, none⟩)], .bool false, .slice Aw 0 cw, .int .i64 (0 : Int), .int .i64 (0 : Int), .bool false, undef, undef, undef, undef, .int .i64 1, .bool true, .int .i64 0, .int .i64 1, .func (.func 47) #[] #[.pointer (some ⟨Bs, 0, none⟩)], .int .i64 x, undef, undef, undef, undef, undef, undef, undef, undef, undef, undef, undef, undef, undef, undef, undef, undef, undef, undef, .int .i64 0, .int .i64 0, .bool false], defers := [] })
        (fun _ _ _ _ _ _ hs _ _ => hs)
        ?assign2 ?body2 ?done2 ?stop2
      case assign2 =>
        rintro l pre x W K hI hK
        gi_wp2
        exact hK _ _ (KeepsFrom.refl _ _) (Below.refl _ _) hI rfl
      case body2 =>
        rintro l pre x a' W _ _ ⟨⟨ki, hl⟩, hd⟩ rfl hlt
        have := HNS.out.2.1
        omega
      case stop2 =>
        rintro D c' pre W _ _ h _
        exact h.elim
      case done2 =>
        rintro D2 ys Wr hD hys ⟨⟨ki, hl⟩, hK1⟩ hK
        have hl0 : ys = [] := hl
        rw [hl0] at ki
        have cK := ki.1.1.cell
        have cN := ki.1.2.cell
        have fR : Wr.frozen? ⟨w.heap.size + 1, 0, none⟩ = false := ((show Blk w1 _ 4 #[_] from HBX.out.2.1).later ki.2).frozen 0
        have cR : Wr.cell? ⟨w.heap.size + 1, 0, none⟩ = some (.bool false) := ((show Blk w1 _ 4 #[_] from HBX.out.2.1).later ki.2).cell 0
        have HKI2 := hid ki
        have HK2 := hid hK
        have HK1b := hid hK1
        clear ki hK hK1
        gi_wp2
        rw [roundsIn_succ]
        gi_wp2
        have hK2s := ((KeepsOthers.setCell Wr ⟨w.heap.size + 1, 0, none⟩ (.bool true))).same D2 _ HK2.out rfl
        have hK1s := ((KeepsOthers.setCell Wr ⟨w.heap.size + 1, 0, none⟩ (.bool true))).same D1 _ HK1b.out rfl
        have hne : D1 ≠ D2 := by omega
        have hK1p : ((Wr.setCell ⟨w.heap.size + 1, 0, none⟩ (.bool true)).putObj D2 (.deferred none)).heap[D1]? = some (.deferred (some [])) := by rw [World.putObj_heap_other hne]; exact hK1s
        refine ⟨by simp, .inl ⟨_, _, rfl, run_takeDeferred hK2s, ⟨by simp, .inl ⟨_, _, rfl, run_takeDeferred hK1p, ?_⟩⟩⟩⟩
        have hbx : Boxed (Wr.setCell ⟨w.heap.size + 1, 0, none⟩ (.bool true)) (w.heap.size + 1) 4 (.bool true) := Boxed.set (W := Wr) (v := .bool false) _ ((show Blk w1 _ 4 #[_] from HBX.out.2.1).later HKI2.out.2)
        have c1 := cell_kept hbx.cell (grownBy_putObj' _ D2 (.deferred none)) (fun r e => by cases e; exact ⟨_, hK2s, rfl⟩)
        have c2 := cell_kept c1 (grownBy_putObj' _ D1 (.deferred none)) (fun r e => by cases e; exact ⟨_, hK1p, rfl⟩)
        refine ⟨_, ?_, rfl, below_putD (below_putD ((HB1.out.trans (HKI2.out.2.mono (by have := HS.out.2.2; omega))).setCell (p := ⟨w.heap.size + 1, 0, none⟩) (by simp) _) (by omega) hK2s) (by omega) hK1p⟩
        simp [results, Try.results24, Try.f24, go_sem, c2]
  · have hmi : (0 : Int) < (m : Int) := by omega
    have HP := hid (pick15 st m (by omega) (by omega) HST.out (w1.alloc (.cells #[.int .i64 m] 3)))
    gi_wp2_with (gi_at_call 15; refine stop_ (fun Ps hPs => ?_))
    refine hPs ?_
    clear hPs Ps
    refine (callsIn_wide.2 HP.out).mono ?_
    rintro e w2 ⟨r, rfl, hr, rfl⟩
    clear HP
    gi_wp2
    refine wpIn_loop_rounds 3 ?_
    rw [roundsIn_succ]
    gi_wp2
    have ki1 : KI w1 (w1.heap.size + 1) (1 + (r : Int)) 0 ((w1.alloc (.cells #[.int .i64 (1 + (r : Int))] 3)).alloc (.cells #[.int .i64 0] 3)) := ⟨⟨by have := Boxed.new (w1.alloc (.cells #[.int .i64 (1 + (r : Int))] 3)) 3 (.int .i64 ((0 : Nat) : Int)); rw [World.size_alloc] at this; exact this, (Boxed.new w1 3 (.int .i64 (1 + (r : Int)))).alloc _⟩, ((Below.refl _ w1).alloc (Nat.le_refl _) _).alloc (by simp) _⟩
    have hsX1 : ((w1.alloc (.cells #[.int .i64 (1 + (r : Int))] 3)).alloc (.cells #[.int .i64 0] 3)).heap.size = w1.heap.size + 2 := by simp
    obtain ⟨X1, hX1⟩ : ∃ X, (w1.alloc (.cells #[.int .i64 (1 + (r : Int))] 3)).alloc (.cells #[.int .i64 0] 3) = X := ⟨_, rfl⟩
    rw [hX1] at ki1 hsX1 ⊢
    clear hX1
    refine wpIn_rangeFunc_ownH hro h1 (gf := 47) (lb := #[.pointer (some ⟨Bs, 0, none⟩)]) rfl trivial (enters_of Try.func47 (by kernel_rfl) rfl)
      (values_stops Fence.wide _ trivial hro (by omega) Bs w1.heap.size cap1 A1 ns (by have := HNS.out.2.1; omega) X1 HS.out.2.1 (by omega) (by rw [HNS.out.2.1]; exact (ki1.2.cell (p := ⟨Bs, 0, none⟩) HS.out.2.1).trans HBX.out.2.2) (by rw [HNS.out.2.1]; exact HN1.out.1.below ki1.2) (by rw [HNS.out.2.1]; exact HN1.out.2.1)) belowK_t (belowK_b (by omega)) (Below.refl _ _) (fun _ => rfl)
      (fun pre W => (KI w1 (w1.heap.size + 1) (1 + (r : Int)) pre.length W ∧ pre.length < 1 + r))
      (fun c' pre W => (((c' = .exit 2 ∧ pre.length = 1 + r) ∧ KI w1 (w1.heap.size + 1) (1 + (r : Int)) (1 + r) W) ∨ (c' = .ret ∧ Off ns pre)))
      ((OwnFrom.and (ki_own _ (by omega)) (ownFrom_pure _ (fun pre : List Int => pre.length < 1 + r))))
      (fun c' => (OwnFrom.or (OwnFrom.and (ownFrom_pure _ (fun pre : List Int => c' = .exit 2 ∧ pre.length = 1 + r)) (ki_own (fun _ => 1 + r) (by omega))) (ownFrom_pure _ (fun pre : List Int => c' = .ret ∧ Off ns pre))))
      ⟨ki1, (by show 0 < 1 + r; omega)⟩
      (fun x a' _ => a' = { tmps := #[P z, .slice Aw m cw, .int .i64 st, undef, .pointer (some ⟨w.heap.size, 0, none⟩), undef, .pointer (some ⟨w.heap.size + 1, 0, none⟩), .func (.func 47) #[] #[.pointer (some ⟨Bs, 0, none⟩)], .pointer (some ⟨w1.heap.size, 0, none⟩), .int .i64 0, .pointer (some ⟨(w1.heap.size + 1), 0, none⟩), .int .i64 x, P z, .func (.func 47) #[] #[.pointer (some ⟨Bs, 0, none⟩)], .func (.func 47) #[] #[.pointer (some ⟨Bs, 0, none⟩)], .bool false, .slice Aw m cw, .int .i64 (m : Int), .int .i64 (m : Int), .bool true, .int .i64 st, .int .i64 (m : Int), .int .i64 (r : Int), .int .i64 (1 + (r : Int)), .int .i64 0, .bool true, undef, undef, .func (.func 47) #[] #[.pointer (some ⟨Bs, 0, none⟩)], .int .i64 x, undef, undef, undef, undef, undef, undef, undef, undef, undef, undef, undef, undef, undef, undef, undef, undef, undef, undef, undef, undef, undef], defers := [] })
      (fun _ _ _ _ _ _ hs _ _ => hs)
      ?assign1 ?body1 ?done1 ?stop1
    case assign1 =>
      rintro l pre x W K hI hK
      gi_wp2
      exact hK _ _ (KeepsFrom.refl _ _) (Below.refl _ _) hI rfl
    case body1 =>
      rintro l pre x a' W _ _ ⟨ki, hl⟩ rfl hlt
      obtain ⟨k, hk⟩ : ∃ k, k = pre.length := ⟨_, rfl⟩
      rw [← hk] at ki hl hlt
      have hkm : k < m := by have := HNS.out.2.1; omega
      have hrd : Rd W w.heap.size 3 Aw m (ltc want) := (HW.out.below HB1.out).below (ki.2.mono (by have := HS.out.2.2; omega))
      obtain ⟨y, hy⟩ : ∃ y, want[k]? = some y := ⟨want[k]'(by have := HNS.out.2.2; omega), List.getElem?_eq_getElem _⟩
      have hny : ns[k]? = some y.n := by rw [HNS.out.1, List.getElem?_map, hy]; rfl
      obtain ⟨g, off, rfl, _, c0, _, _⟩ := ltAt hrd hy
      have cK := ki.1.1.cell
      have fK := ki.1.1.frozen
      have cN := ki.1.2.cell
      have cW : W.cell? ⟨w.heap.size, 0, none⟩ = some (.slice (some ⟨g, off, none⟩) m cw) := (ki.2.cell (p := ⟨w.heap.size, 0, none⟩) (by show w.heap.size < _; have := HS.out.2.2; omega)).trans cW1
      have fR : W.frozen? ⟨w.heap.size + 1, 0, none⟩ = false := ((show Blk w1 _ 4 #[_] from HBX.out.2.1).later ki.2).frozen 0
      have cR : W.cell? ⟨w.heap.size + 1, 0, none⟩ = some (.bool false) := ((show Blk w1 _ 4 #[_] from HBX.out.2.1).later ki.2).cell 0
      have hki : (k : Int) < (m : Int) := by omega
      have hk0 : (0 : Int) ≤ (k : Int) := Int.natCast_nonneg _
      have hk5 : (k : Int) < 512 := by omega
      have hdg : decide ((m : Int) ≤ (k : Int)) = false := by simp; omega
      have hdg2 : decide (m ≤ k) = false := by simp; omega
      have KIH := hid ki
      have HNY := hid hny
      have HK := hid hk
      have HL := hid hl
      clear ki hny hy hrd hk hl
      by_cases hx : x = y.n
      · subst hx
        have hxe : (y.n != y.n) = false := by simp
        have kc := KIH.out.count (by omega) (k + 1)
        have KC := hid kc
        have he : (pre ++ [y.n]).length = k + 1 := by rw [List.length_append, ← HK.out]; rfl
        have HE := hid he
        have cK2 := kc.1.1.cell
        have cN2 := kc.1.2.cell
        push_cast at cK2 cN2
        clear kc he
        by_cases hlast : k = r
        · have hle : (decide ((k : Int) + 1 = 1 + (r : Int))) = true := by simp; omega
          have hle2 : (k : Int) + 1 = 1 + (r : Int) := by omega
          have HL9 := hid hlast
          clear hlast hle
          gi_wp2
          have e2 : k + 1 = 1 + r := by have := HL9.out; omega
          have hkc := KC.out
          push_cast at hkc
          rw [hle2, e2] at hkc
          exact ⟨(KeepsOthers.setCell _ _ _).from _, .inl ⟨⟨rfl, by rw [HE.out]; exact e2⟩, hkc⟩⟩
        · have hle : ¬ (k : Int) + 1 = 1 + (r : Int) := by omega
          have HL9 := hid hlast
          clear hlast
          gi_wp2
          refine ⟨(KeepsOthers.setCell _ _ _).from _, (Below.refl _ W).setCell (p := ⟨(w1.heap.size + 1), 0, none⟩) (by show _ ≤ (w1.heap.size + 1); omega) _, ⟨by rw [HE.out]; exact KC.out, by rw [HE.out]; have := HL9.out; have := HL.out; omega⟩⟩
      · have hxe : (x != y.n) = true := by simpa using hx
        gi_wp2
        refine ⟨(KeepsOthers.setCell _ _ _).from _, .inr ⟨rfl, pre, x, rfl, fun e9 => ?_⟩⟩
        rw [← HK.out, HNY.out] at e9
        exact hx (Option.some.inj e9).symm
    case done1 =>
      rintro D ys W hD rfl ⟨ki, hl⟩ hK
      exfalso
      have := HNS.out.2.1
      omega
    case stop1 =>
      rintro D1 c' pre Wq hD ⟨k, hk, rfl⟩ h hK
      rcases h with ⟨⟨rfl, hl⟩, ki⟩ | ⟨rfl, ho⟩
      rotate_left
      · exact (off_not ho).elim
      have cK := ki.1.1.cell
      have cN := ki.1.2.cell
      push_cast at cK cN
      have HKI1 := hid ki
      have HK1 := hid hK
      have hD1 := hD
      clear ki hK
      gi_wp2
      rw [roundsIn_succ]
      gi_wp2
      have ki2 : KI w1 Wq.heap.size (1 + (r : Int)) 0 (Wq.alloc (.cells #[.int .i64 0] 3)) := ⟨⟨Boxed.new Wq 3 (.int .i64 ((0 : Nat) : Int)), HKI1.out.1.2.alloc _⟩, HKI1.out.2.alloc HKI1.out.2.size _⟩
      have hd2 : (Wq.alloc (.cells #[.int .i64 0] 3)).heap[D1]? = some (.deferred (some [])) := by rw [Below.heap_alloc _ _ _ (Array.getElem?_eq_some_iff.1 HK1.out).1]; exact HK1.out
      have hsX2 : (Wq.alloc (.cells #[.int .i64 0] 3)).heap.size = Wq.heap.size + 1 := by simp
      obtain ⟨X2, hX2⟩ : ∃ X, Wq.alloc (.cells #[.int .i64 0] 3) = X := ⟨_, rfl⟩
      rw [hX2] at ki2 hsX2 hd2 ⊢
      clear hX2
      have hDs : D1 < Wq.heap.size := (Array.getElem?_eq_some_iff.1 HK1.out).1
      have hWs : w1.heap.size ≤ Wq.heap.size := HKI1.out.2.size
      refine wpIn_rangeFunc_ownH hro h1 (gf := 47) (lb := #[.pointer (some ⟨Bs, 0, none⟩)]) rfl trivial (enters_of Try.func47 (by kernel_rfl) rfl)
        (values_stops Fence.wide _ trivial hro (by omega) Bs w1.heap.size cap1 A1 ns (by have := HNS.out.2.1; omega) X2 HS.out.2.1 (by omega) (by rw [HNS.out.2.1]; exact (ki2.2.cell (p := ⟨Bs, 0, none⟩) HS.out.2.1).trans HBX.out.2.2) (by rw [HNS.out.2.1]; exact HN1.out.1.below ki2.2) (by rw [HNS.out.2.1]; exact HN1.out.2.1)) belowK_t (belowK_b (by omega)) (Below.refl _ _) (fun _ => rfl)
        (fun pre W => (KI w1 Wq.heap.size (1 + (r : Int)) pre.length W ∧ pre.length < 1 + r) ∧ W.heap[D1]? = some (.deferred (some [])))
        (fun c' pre W => (((c' = .exit 2 ∧ pre.length = 1 + r) ∧ KI w1 Wq.heap.size (1 + (r : Int)) (1 + r) W) ∨ (c' = .ret ∧ Off ns pre)) ∧ W.heap[D1]? = some (.deferred (some [])))
        (OwnFrom.and (OwnFrom.and (ki_own _ (by omega)) (ownFrom_pure _ (fun pre : List Int => pre.length < 1 + r))) (own_def (by omega)))
        (fun c' => OwnFrom.and (OwnFrom.or (OwnFrom.and (ownFrom_pure _ (fun pre : List Int => c' = .exit 2 ∧ pre.length = 1 + r)) (ki_own (fun _ => 1 + r) (by omega))) (ownFrom_pure _ (fun pre : List Int => c' = .ret ∧ Off ns pre))) (own_def (by omega)))
        ⟨⟨ki2, (by show 0 < 1 + r; omega)⟩, hd2⟩
        (fun x a' _ => a' = { tmps := #[P z, .slice Aw m cw, .int .i64 st, undef, .pointer (some ⟨w.heap.size, 0, none⟩), undef, .pointer (some ⟨w.heap.size + 1, 0, none⟩), .func (.func 47) #[] #[.pointer (some ⟨Bs, 0, none⟩)], .pointer (some ⟨w1.heap.size, 0, none⟩), .int .i64 1, .pointer (some ⟨Wq.heap.size, 0, none⟩), .int .i64 x, P z, .func (.func 47) #[] #[.pointer (some ⟨Bs, 0, none⟩)], .func (.func 47) #[] #[.pointer (some ⟨Bs, 0, none⟩)], .bool false, .slice Aw m cw, .int .i64 (m : Int), .int .i64 (m : Int), .bool true, .int .i64 st, .int .i64 (m : Int), .int .i64 (r : Int), .int .i64 (1 + (r : Int)), .int .i64 1, .bool true, .int .i64 0, .int .i64 1, .func (.func 47) #[] #[.pointer (some ⟨Bs, 0, none⟩)], .int .i64 x, undef, undef, undef, undef, undef, undef, undef, undef, undef, undef, undef, undef, undef, undef, undef, undef, undef, undef, .int .i64 (1 + (r : Int)), .int .i64 (1 + (r : Int)), .bool false], defers := [] })
        (fun _ _ _ _ _ _ hs _ _ => hs)
        ?assign2 ?body2 ?done2 ?stop2
      case assign2 =>
        rintro l pre x W K hI hK
        gi_wp2
        exact hK _ _ (KeepsFrom.refl _ _) (Below.refl _ _) hI rfl
      case body2 =>
        rintro l pre x a' W _ _ ⟨⟨ki, hl⟩, hd⟩ rfl hlt
        obtain ⟨k, hk⟩ : ∃ k, k = pre.length := ⟨_, rfl⟩
        rw [← hk] at ki hl hlt
        have hkm : k < m := by have := HNS.out.2.1; omega
        have hrd : Rd W w.heap.size 3 Aw m (ltc want) := (HW.out.below HB1.out).below (ki.2.mono (by have := HS.out.2.2; omega))
        obtain ⟨y, hy⟩ : ∃ y, want[k]? = some y := ⟨want[k]'(by have := HNS.out.2.2; omega), List.getElem?_eq_getElem _⟩
        have hny : ns[k]? = some y.n := by rw [HNS.out.1, List.getElem?_map, hy]; rfl
        obtain ⟨g, off, rfl, _, c0, _, _⟩ := ltAt hrd hy
        have cK := ki.1.1.cell
        have fK := ki.1.1.frozen
        have cN := ki.1.2.cell
        have cW : W.cell? ⟨w.heap.size, 0, none⟩ = some (.slice (some ⟨g, off, none⟩) m cw) := (ki.2.cell (p := ⟨w.heap.size, 0, none⟩) (by show w.heap.size < _; have := HS.out.2.2; omega)).trans cW1
        have fR : W.frozen? ⟨w.heap.size + 1, 0, none⟩ = false := ((show Blk w1 _ 4 #[_] from HBX.out.2.1).later ki.2).frozen 0
        have cR : W.cell? ⟨w.heap.size + 1, 0, none⟩ = some (.bool false) := ((show Blk w1 _ 4 #[_] from HBX.out.2.1).later ki.2).cell 0
        have hki : (k : Int) < (m : Int) := by omega
        have hk0 : (0 : Int) ≤ (k : Int) := Int.natCast_nonneg _
        have hk5 : (k : Int) < 512 := by omega
        have hdg : decide ((m : Int) ≤ (k : Int)) = false := by simp; omega
        have hdg2 : decide (m ≤ k) = false := by simp; omega
        have KIH := hid ki
        have HNY := hid hny
        have HK := hid hk
        have HL := hid hl
        clear ki hny hy hrd hk hl
        by_cases hx : x = y.n
        · subst hx
          have hxe : (y.n != y.n) = false := by simp
          have kc := KIH.out.count (by have := (Array.getElem?_eq_some_iff.1 HBX.out.2.1).1; omega) (k + 1)
          have KC := hid kc
          have he : (pre ++ [y.n]).length = k + 1 := by rw [List.length_append, ← HK.out]; rfl
          have HE := hid he
          have cK2 := kc.1.1.cell
          have cN2 := kc.1.2.cell
          push_cast at cK2 cN2
          clear kc he
          by_cases hlast : k = r
          · have hle : (decide ((k : Int) + 1 = 1 + (r : Int))) = true := by simp; omega
            have hle2 : (k : Int) + 1 = 1 + (r : Int) := by omega
            have HL9 := hid hlast
            clear hlast hle
            gi_wp2
            have e2 : k + 1 = 1 + r := by have := HL9.out; omega
            have hkc := KC.out
            push_cast at hkc
            rw [hle2, e2] at hkc
            exact ⟨(KeepsOthers.setCell _ _ _).from _, ⟨.inl ⟨⟨rfl, by rw [HE.out]; exact e2⟩, hkc⟩, (KeepsOthers.setCell _ _ _).same D1 _ hd rfl⟩⟩
          · have hle : ¬ (k : Int) + 1 = 1 + (r : Int) := by omega
            have HL9 := hid hlast
            clear hlast
            gi_wp2
            refine ⟨(KeepsOthers.setCell _ _ _).from _, (Below.refl _ W).setCell (p := ⟨Wq.heap.size, 0, none⟩) (by show _ ≤ Wq.heap.size; omega) _, ⟨⟨by rw [HE.out]; exact KC.out, by rw [HE.out]; have := HL9.out; have := HL.out; omega⟩, (KeepsOthers.setCell _ _ _).same D1 _ hd rfl⟩⟩
        · have hxe : (x != y.n) = true := by simpa using hx
          gi_wp2
          refine ⟨(KeepsOthers.setCell _ _ _).from _, ⟨.inr ⟨rfl, pre, x, rfl, fun e9 => ?_⟩, (KeepsOthers.setCell _ _ _).same D1 _ hd rfl⟩⟩
          rw [← HK.out, HNY.out] at e9
          exact hx (Option.some.inj e9).symm
      case done2 =>
        rintro D ys W hD rfl ⟨⟨ki, hl⟩, hd⟩ hK
        exfalso
        have := HNS.out.2.1
        omega
      case stop2 =>
        rintro D2 c' pre Wr hD ⟨k, hk, rfl⟩ h hK
        obtain ⟨h, hK1⟩ := h
        rcases h with ⟨⟨rfl, hl⟩, ki⟩ | ⟨rfl, ho⟩
        rotate_left
        · exact (off_not ho).elim
        have cK := ki.1.1.cell
        have cN := ki.1.2.cell
        push_cast at cK cN
        have fR : Wr.frozen? ⟨w.heap.size + 1, 0, none⟩ = false := ((show Blk w1 _ 4 #[_] from HBX.out.2.1).later ki.2).frozen 0
        have cR : Wr.cell? ⟨w.heap.size + 1, 0, none⟩ = some (.bool false) := ((show Blk w1 _ 4 #[_] from HBX.out.2.1).later ki.2).cell 0
        have HKI2 := hid ki
        have HK2 := hid hK
        have HK1b := hid hK1
        clear ki hK hK1
        gi_wp2
        rw [roundsIn_succ]
        gi_wp2
        have hK2s := ((KeepsOthers.setCell Wr ⟨w.heap.size + 1, 0, none⟩ (.bool true))).same D2 _ HK2.out rfl
        have hK1s := ((KeepsOthers.setCell Wr ⟨w.heap.size + 1, 0, none⟩ (.bool true))).same D1 _ HK1b.out rfl
        have hne : D1 ≠ D2 := by omega
        have hK1p : ((Wr.setCell ⟨w.heap.size + 1, 0, none⟩ (.bool true)).putObj D2 (.deferred none)).heap[D1]? = some (.deferred (some [])) := by rw [World.putObj_heap_other hne]; exact hK1s
        refine ⟨by simp, .inl ⟨_, _, rfl, run_takeDeferred hK2s, ⟨by simp, .inl ⟨_, _, rfl, run_takeDeferred hK1p, ?_⟩⟩⟩⟩
        have hbx : Boxed (Wr.setCell ⟨w.heap.size + 1, 0, none⟩ (.bool true)) (w.heap.size + 1) 4 (.bool true) := Boxed.set (W := Wr) (v := .bool false) _ ((show Blk w1 _ 4 #[_] from HBX.out.2.1).later HKI2.out.2)
        have c1 := cell_kept hbx.cell (grownBy_putObj' _ D2 (.deferred none)) (fun r e => by cases e; exact ⟨_, hK2s, rfl⟩)
        have c2 := cell_kept c1 (grownBy_putObj' _ D1 (.deferred none)) (fun r e => by cases e; exact ⟨_, hK1p, rfl⟩)
        refine ⟨_, ?_, rfl, below_putD (below_putD ((HB1.out.trans (HKI2.out.2.mono (by have := HS.out.2.2; omega))).setCell (p := ⟨w.heap.size + 1, 0, none⟩) (by simp) _) (by omega) hK2s) (by omega) hK1p⟩
        simp [results, Try.results24, Try.f24, go_sem, c2]
end Go.Proofs.Ytigedoonhmaghaa
