/- Links: All, and its iterator, where a variable of the caller's own is written meanwhile. -/
import Derived.Test.YtigedoonhmaghaaFa
namespace Go.Proofs.Ytigedoonhmaghaa
open Go.RowKit Go.Lg Go.Shelf
variable {F : Nat}
set_option linter.unusedVariables false
set_option linter.unusedSimpArgs false
attribute [local go_sem] Oper.semAt_some

/-- What lies below n is as it was, but the block K. -/
structure Bb (n K : Nat) (w w' : World) : Prop where
  os : w'.os = w.os
  tape : w'.tape = w.tape
  output : w'.output = w.output
  size : w.heap.size ≤ w'.heap.size
  block : ∀ k, k < n → k ≠ K → w'.heap[k]? = w.heap[k]?
theorem Bb.refl (n K : Nat) (w : World) : Bb n K w w := ⟨rfl, rfl, rfl, Nat.le_refl _, fun _ _ _ => rfl⟩
theorem Bb.trans {n K : Nat} {a b c : World} (h : Bb n K a b) (k : Bb n K b c) : Bb n K a c := ⟨k.os.trans h.os, k.tape.trans h.tape, k.output.trans h.output, Nat.le_trans h.size k.size, fun i h1 h2 => (k.block i h1 h2).trans (h.block i h1 h2)⟩
theorem Bb.of_below {n K : Nat} {w w' : World} (h : Below n w w') : Bb n K w w' := ⟨h.os, h.tape, h.output, h.size, fun k hk _ => h.block k hk⟩
theorem Bb.setK {n K : Nat} {w w' : World} (h : Bb n K w w') (v : Value) : Bb n K w (w'.setCell ⟨K, 0, none⟩ v) :=
  h.trans ⟨rfl, rfl, rfl, by simp [World.setCell], fun k _ hk => Below.heap_setCell w' ⟨K, 0, none⟩ v k hk⟩
theorem bb_t {n K : Nat} {A B C : World} (h : Bb n K A B) (k : Bb n K B C) : Bb n K A C := h.trans k
theorem bb_b {n K : Nat} {w : World} (hn : n ≤ w.heap.size) (W : World) (l : Nat) (o o' : Obj) (hl : w.heap.size ≤ l) (h : W.heap[l]? = some o) (h1 : o.isCells = false) (h2 : o.isWalk = false) : Bb n K W (W.putObj l o') := Bb.of_below (belowK_b hn W l o o' hl h h1 h2)
theorem rd_bb {n K : Nat} {w w' : World} {sz m : Nat} {A : Option Addr} {xs : List Value} (h : Rd w n sz A m xs) (hA : ∀ b off, A = some ⟨b, off, none⟩ → b ≠ K) (hb : Bb n K w w') : Rd w' n sz A m xs := by
  refine ⟨h.1, fun hm => ?_⟩
  obtain ⟨b, off, e, hlt, hc⟩ := h.2 hm
  exact ⟨b, off, e, hlt, fun j u hu => (World.cell?_of_block (hb.block b hlt (hA b off e))).trans (hc j u hu)⟩
/-- The iterator that All tells. -/
def GivesB (ns : List Int) (w : World) (e : Ending) (w' : World) : Prop :=
  ∃ Bs A cap, e = .returned (.func (.func 47) #[] #[.pointer (some ⟨Bs, 0, none⟩)]) ∧ w.heap.size ≤ Bs ∧ Bs < w'.heap.size ∧ w'.cell? ⟨Bs, 0, none⟩ = some (.slice A ns.length cap) ∧ Rd w' w'.heap.size 1 A ns.length (nums ns) ∧ ns.length ≤ cap ∧ cap ≤ maxLen ∧ Below w.heap.size w w' ∧ ∀ b off, A = some ⟨b, off, none⟩ → w.heap.size ≤ b
set_option maxHeartbeats 4000000 in
set_option maxRecDepth 100000 in
/-- Behind Flight, whatever it tells. -/
theorem all26b (pv : Value) (ks : List Lt) (w : World) (hk5 : ks.length ≤ 512) (hF : Calls Try.prog 21 #[pv] w fun e w' => ∃ v ls', e = .returned v ∧ w'.ownsRow w.heap.size 31 3 v ls'.length (ltc ls') ∧ ls'.map Lt.k = ks.map Lt.k ∧ (∀ x ∈ ls', ∃ A c, x.v = .slice A x.b.length c) ∧ Below w.heap.size w w') :
    Calls Try.prog 26 #[pv] w (GivesB ((ks.map Lt.k).map (·.1)) w) := by
  obtain ⟨H0, hH0⟩ : ∃ H0, H0 = w.heap.size := ⟨_, rfl⟩
  have HH := hid hH0
  have HF := hid hF
  clear hF hH0
  go_enter Try.func26, Try.ntmps26
  go_wp2_with (go_at_call 21; refine stop_ (fun Ps hPs => ?_))
  refine hPs ?_
  clear hPs Ps
  refine HF.out.mono ?_
  rintro e w2 ⟨v2, ls', rfl, ho2, hm2, hone, hb2⟩
  have hl : ls'.length = ks.length := by have := congrArg List.length hm2; simpa using this
  obtain ⟨A, c, rfl, hc1, hc2⟩ := owned_slice ho2
  obtain ⟨m, hm⟩ : ∃ m, m = ls'.length := ⟨_, rfl⟩
  have HM := hid hm
  have hm5 : m ≤ 512 := by omega
  rw [← hm] at ho2 hc1 ⊢
  rw [← HH.out] at ho2 hb2
  have HO := hid ho2
  have HB := hid hb2
  have H1 := hid hone
  have HK := hid hm2
  clear ho2 hb2 hone hm hl hm2 hk5
  go_wp2_with fail
  go_loopg [3, 5, 9] m (fun gg v b x9 wr => ∃ k : Nat, k ≤ m ∧ gg = m - k ∧ x9 = .int .i64 k ∧ Hid (wr.ownsRow H0 3 1 v k (nums ((ls'.map (·.n)).take k))) ∧ Hid (wr.ownsRow H0 31 3 (.slice A m c) m (ltc ls')) ∧ Hid (Below H0 w wr))
  case atStart => exact ⟨0, by omega, rfl, rfl, hid (World.ownsRow_nil _ _ _ _), HO, HB⟩
  case round =>
    obtain ⟨k, hk, rfl, rfl, HN, HOr, HBr⟩ := hrel
    by_cases hlt : k < m
    · obtain ⟨x, hx⟩ : ∃ x, ls'[k]? = some x := ⟨ls'[k]'(by rw [← HM.out]; exact hlt), List.getElem?_eq_getElem _⟩
      obtain ⟨g, off, rfl, hg, c0, c1, c2⟩ := ltAt (Rd.of_own HOr.out) hx
      obtain ⟨Ax, cx, hv⟩ := H1.out x (List.mem_of_getElem? hx)
      obtain ⟨xn, xt, xv, xb⟩ := x
      simp only at c0 c1 c2 hv
      subst hv
      have hki : (k : Int) < (m : Int) := by omega
      have hk0 : (0 : Int) ≤ (k : Int) := Int.natCast_nonneg _
      have hk5 : (k : Int) < 512 := by omega
      have hs : H0 ≤ wr.heap.size := by rw [HH.out]; exact HBr.out.size
      have hbX := (Below.refl wr.heap.size wr).alloc (Nat.le_refl _) (.cells #[.int .i64 xn, .int .i64 xt, .slice Ax xb.length cx] 31)
      have kx := Blk.new wr 31 #[.int .i64 xn, .int .i64 xt, .slice Ax xb.length cx]
      obtain ⟨X, hX⟩ : ∃ X, X = wr.alloc (.cells #[.int .i64 xn, .int .i64 xt, .slice Ax xb.length cx] 31) := ⟨_, rfl⟩
      rw [← hX] at hbX kx
      have HX := hid hx
      have HNX := hid (owned_later HN.out hbX)
      have HOX := hid (owned_later HOr.out hbX)
      have HBX := hid (HBr.out.trans (hbX.mono hs))
      have HS := hid (show H0 ≤ X.heap.size from Nat.le_trans hs hbX.size)
      clear hx hs hbX kx
      go_wp2_with (at_builtin; refine stop_ (fun Ps hPs => ?_))
      refine hPs ?_
      clear hPs Ps
      rw [← hX]
      have hsz : wr.heap.size + 1 = X.heap.size := by rw [hX]; simp
      rw [hsz]
      clear hX hsz
      refine wpList_app1 T65 (.tmp 13) (.tmp 16) rfl rfl HNX.out rfl (cs := #[.int .i64 xn]) rfl rfl (by simp [Value.oneCell']) (by omega) HS.out fun v1 w4 hown1 hg1 hat1 => ?_
      have hb1 := below_append HBX.out HNX.out hg1 HS.out
      have ho1 := owned_gb HOX.out hg1 (fun g h1 h2 => ne_by_type HOX.out HNX.out (by decide) g h1 h2.symm)
      have HN1 := hid hown1
      have HB1 := hid hb1
      have HO1 := hid ho1
      clear hown1 hb1 hg1 hat1 ho1
      go_wp2_with fail
      go_roundg (m - (k + 1))
      case measure => omega
      case rel =>
        refine ⟨k + 1, by omega, rfl, by go_num, hid ?_, HO1, HB1⟩
        rw [take_succ_get? (show (ls'.map (·.n))[k]? = some xn by rw [List.getElem?_map, HX.out]; rfl), nums_snoc]
        exact HN1.out
    · obtain rfl : k = m := by omega
      have hki : ¬ (k : Int) < (k : Int) := by omega
      obtain ⟨A3, c3, rfl, hd1, hd2⟩ := owned_slice HN.out
      go_wp2_with (go_at_call 41; refine stop_ (fun Ps hPs => ?_))
      refine hPs ?_
      clear hPs Ps
      refine (values41 _ _ _ wr).mono ?_
      rintro e w4 ⟨rfl, rfl⟩
      go_wp2_with fail
      go_ret
      have hnn : (ls'.map (·.n)).take k = (ks.map Lt.k).map (·.1) := by
        rw [← HK.out, List.take_of_length_le (by have := HM.out; simp; omega)]
        simp [Lt.k]
      have hnl : ((ks.map Lt.k).map (·.1)).length = k := by
        have := HN.out.1
        rw [nums_length, hnn] at this
        omega
      have hN := HN.out
      rw [hnn] at hN
      have hs : H0 ≤ wr.heap.size := by rw [HH.out]; exact HBr.out.size
      refine ⟨wr.heap.size, A3, c3, rfl, by rw [← HH.out]; exact hs, by simp, ?_, ?_, by rw [hnl]; exact hd1, hd2, by rw [← HH.out]; exact HBr.out.alloc hs _, fun b off e9 => by rw [← HH.out]; exact (hN.lt b (by rw [e9]; rfl)).1⟩
      · rw [hnl]
        exact (Blk.new wr 65 #[.slice A3 k c3]).cell 0
      · rw [hnl]
        have := (Rd.of_own hN).alloc (Nat.le_refl _) (.cells #[.slice A3 k c3] 65)
        exact this.more (by simp)
theorem all26b_of {B z : Nat} {last : Int} {sv : Value} {ls : List Lt} {w : World} (h : LX F false w B z last sv ls) : Calls Try.prog 26 #[P z] w (GivesB ((ls.map Lt.k).map (·.1)) w) :=
  all26b _ ls w h.le ((flight21 h).mono fun e w' ⟨v, ls', he, ho, hf, hb⟩ => ⟨v, ls', he, ho, by rw [hf.keys, List.take_of_length_le (Nat.le_refl _)], fun x hx => by
    obtain ⟨A, c, e, _, _⟩ := owned_slice (hf.own x hx).own
    exact ⟨A, c, e⟩, hb⟩)
set_option maxRecDepth 100000 in
set_option maxHeartbeats 2000000 in
theorem values47b_in (F : Fence) (n : Nat) (hf : F.fn 47) (hro : F.round = none) (hn : 1 ≤ n) (l Bs n₀ cap : Nat) (A : Option Addr) (ns : List Int) (hl : ns.length ≤ 512) (hBn : Bs < n₀) (K : Nat) (hBK : Bs ≠ K) (hAK : ∀ b off, A = some ⟨b, off, none⟩ → b ≠ K) (J Jx : List Int → World → Prop)
    (hY : ∀ pre x W, J pre W → pre.length < ns.length → YieldAt F (n - 1) Try.prog l (enc1 x) W fun e W' =>
      (e = .returned (.bool true) ∧ J (pre ++ [x]) W' ∧ Bb n₀ K W W') ∨ (e = .returned (.bool false) ∧ Jx (pre ++ [x]) W'))
    (W : World) (hBs : W.cell? ⟨Bs, 0, none⟩ = some (.slice A ns.length cap)) (hos : Rd W n₀ 1 A ns.length (nums ns)) (hlc : ns.length ≤ cap) (h0 : J [] W) :
    CallsIn F n Try.prog 47 #[.func (.yield l) #[] #[], .pointer (some ⟨Bs, 0, none⟩)] W fun e W' => (∃ v, e = .returned v) ∧
      ((∃ ys, ys = ns ∧ J ys W') ∨ (∃ pre, (∃ k, k ≤ ns.length ∧ pre = ns.take k) ∧ Jx pre W')) := by
  refine callsIn_of_wp Try.func47 rfl hf ?_ hro
  obtain ⟨len, hlen⟩ : ∃ len, len = ns.length := ⟨_, rfl⟩
  have HLN := hid hlen
  rw [← hlen] at hl hBs hos hlc hY
  clear hlen
  simp only [Try.ntmps47, List.size_toArray, List.length_cons, List.length_nil, Nat.reduceAdd, Nat.reduceSub, Array.replicate_succ, Array.replicate_zero, List.push_toArray, List.append_toArray, List.nil_append, List.cons_append]
  gi_wp2
  gi_loopw [4, 7] (fun _ i wr => ∃ k : Nat, k ≤ len ∧ i = .int .i64 k ∧ J (ns.take k) wr ∧ Bb n₀ K W wr)
    (fun _ i _ => len - (intOf i).toNat)
  case atStart => exact ⟨0, by omega, rfl, h0, Bb.refl _ _ _⟩
  case round =>
    obtain ⟨k, hk, rfl, hJs, hnx⟩ := hrel
    by_cases hlt : k < len
    · obtain ⟨x, hx⟩ : ∃ x, ns[k]? = some x := ⟨ns[k]'(by rw [← HLN.out]; exact hlt), List.getElem?_eq_getElem _⟩
      obtain ⟨b, off, e, hb, hc⟩ := (rd_bb hos hAK hnx).2 (by omega)
      subst e
      have c0 := hc k _ (nums_get hx)
      have hki : (k : Int) < (len : Int) := by omega
      have hk0 : (0 : Int) ≤ (k : Int) := Int.natCast_nonneg _
      obtain ⟨fn, tmps, assign, body, hy, hR⟩ := hY _ x wr hJs (by rw [List.length_take]; omega)
      dsimp only [enc1] at hy
      have HX := hid hx
      clear hx hc
      gi_wp2
      refine hR.mono ?_
      rintro e W3 (⟨rfl, hJ3, hk3⟩ | ⟨rfl, hJx3⟩)
      · gi_wp2
        go_roundw
        case rel => exact ⟨k + 1, by omega, by go_num, by rw [take_succ_get? HX.out]; exact hJ3, hnx.trans hk3⟩
        case measure => simp [intOf]; omega
      · gi_wp2
        refine bodyPost_ret (results_none rfl _ _ _) rfl ?_
        exact ⟨⟨_, rfl⟩, .inr ⟨_, ⟨k + 1, by have := HLN.out; omega, by rw [take_succ_get? HX.out]⟩, hJx3⟩⟩
    · obtain rfl : k = len := by omega
      have hki : ¬ (k : Int) < (k : Int) := by omega
      gi_wp2
      go_end0
      exact ⟨⟨_, rfl⟩, .inl (by rw [List.take_of_length_le (by have := HLN.out; omega)] at hJs; exact hJs)⟩
theorem values_stopsb (F : Fence) (n : Nat) (hf : F.fn 47) (hro : F.round = none) (hn : 1 ≤ n) (Bs n₀ cap : Nat) (A : Option Addr) (ns : List Int) (hl : ns.length ≤ 512) (w : World) (hBn : Bs < n₀) (K : Nat) (hBK : Bs ≠ K) (hAK : ∀ b off, A = some ⟨b, off, none⟩ → b ≠ K) (hn₀ : n₀ ≤ w.heap.size)
    (hc : w.cell? ⟨Bs, 0, none⟩ = some (.slice A ns.length cap)) (hos : Rd w n₀ 1 A ns.length (nums ns)) (hlc : ns.length ≤ cap) :
    SeqStopsK F n Try.prog 47 #[.pointer (some ⟨Bs, 0, none⟩)] enc1 (Bb n₀ K) (fun ys => ys = ns) (fun pre => ∃ k, k ≤ ns.length ∧ pre = ns.take k) ns.length w := fun l J Jx W hW _ _ hY h0 =>
  values47b_in F n hf hro hn l Bs n₀ cap A ns hl hBn K hBK hAK J Jx hY W ((hW.cell (p := ⟨Bs, 0, none⟩) (by show Bs < _; omega)).trans hc) (hos.below (hW.mono hn₀)) hlc h0
end Go.Proofs.Ytigedoonhmaghaa
