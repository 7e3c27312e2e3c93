/- A primary answers without waiting for the other site, as many times as its leash allows: of any acts. No condition. (part 36) -/
import Derived.Laws.Pointers
import Derived.Shelf.RegionOpenPlain
import Derived.Deep.DrawnRows
import Derived.Lib.SliceRun
import Derived.Test.YtbpnbcjgkbpmgaaGreatMBi
namespace Go.Proofs.YtbpnbcjgkbpmgaaGreat.Lk
open Go.RowKit Go.Lg
variable {F : Nat → Prop}
set_option linter.unusedVariables false
set_option linter.unusedSimpArgs false
def Says (b : Bool) (w : World) (e : Ending) (w' : World) : Prop := e = .returned (.bool b) ∧ w' = w
set_option maxHeartbeats 1000000 in
set_option maxRecDepth 100000 in
theorem none27 {B z : Nat} {last : Int} {sv : Value} {ls : List Lt} {w : World} (h : LX F false w B z last sv ls) : Calls Tryz.prog 47 #[P z] w (Says false w) := by
  have hb : Blk w z 113 #[.bool true, .int .i64 last, sv] := h.blk
  have c0 : w.cell? ⟨z, 0, none⟩ = some (.bool true) := hb.cell 0
  clear h hb
  go_enter Tryz.func47, Tryz.ntmps47
  go_wp2_with fail
  go_ret
  exact ⟨rfl, rfl⟩
def New (F : Nat → Prop) (rf : Bool) (w : World) (e : Ending) (w' : World) : Prop := ∃ z, e = .returned (P z) ∧ LX F rf w' w.heap.size z 0 (.slice none 0 0) [] ∧ Below w.heap.size w w' ∧ z < w'.heap.size
set_option maxHeartbeats 1000000 in
set_option maxRecDepth 100000 in
theorem new9 (w : World) (hF : ∀ g, F g → g < w.heap.size) : Calls Tryz.prog 40 #[] w (New F false w) := by
  go_enter Tryz.func40, Tryz.ntmps40
  go_wp2_with fail
  go_ret
  exact ⟨_, rfl, ⟨Nat.le_refl _, Blk.new w 113 #[.bool true, .int .i64 0, .slice none 0 0], World.ownsRow_nil _ _ _ _, by simp, fun x hx => absurd hx List.not_mem_nil, fun g hg => by have := hF g hg; simp; omega, fun x hx => absurd hx List.not_mem_nil⟩, (Below.refl _ _).alloc (Nat.le_refl _) _, by simp⟩
set_option maxHeartbeats 1000000 in
set_option maxRecDepth 100000 in
theorem clone38 (A : Option Addr) (n c : Nat) (l : List UInt8) (w : World) (h : Rd w w.heap.size 1 A n (bts l)) (hn : n ≤ 140737488355000) : Calls Tryz.prog 85 #[.slice A n c] w (Fresh w l) := by
  have hl := h.1
  rw [bts_length, Nat.mul_one] at hl
  cases A with
  | none =>
    have hn0 : n = 0 := by
      rcases Nat.eq_zero_or_pos n with h0 | h0
      · exact h0
      · obtain ⟨b, off, h1, _⟩ := h.2 h0
        cases h1
    subst hn0
    have ho : l = [] := List.length_eq_zero_iff.1 hl
    subst ho
    clear h hl
    have q := fun w => Lib.run_eql_slice_nil (P := Tryz.prog) w 80 5 none 0 c 0 0 Tryz.underlying80
    go_enter Tryz.func85, Tryz.ntmps85
    go_wp2_with fail
    go_ret
    exact ⟨_, rfl, World.ownsRow_nil _ _ _ _, Below.refl _ _⟩
  | some a =>
    have q := fun w => Lib.run_eql_slice_nil (P := Tryz.prog) w 80 5 (some a) n c 0 0 Tryz.underlying80
    have HL := hid hl
    clear hl
    go_enter Tryz.func85, Tryz.ntmps85
    go_wp2_with (at_builtin; refine stop_ (fun Ps hPs => ?_))
    refine hPs ?_
    clear hPs Ps
    refine wpList_app T22 (.tmp 5) (.tmp 6) rfl rfl (World.ownsRow_lit w #[] 0 (Nat.le_refl _) (Nat.zero_le _) rfl) rfl (h.alloc (Nat.le_refl _) _) rfl (bts_one l) (by omega) (by simp) fun v1 w1 hown hg hat => ?_
    have hb : Below w.heap.size w w1 := ((Below.refl _ _).alloc (Nat.le_refl _) _).grown hg (by simp) (by intro k hk; simp [Value.ownBlock] at hk; omega)
    have HO := hid hown
    clear hown hg hat
    go_wp2_with fail
    go_ret
    exact ⟨v1, rfl, by rw [HL.out]; simpa using HO.out, hb⟩
def NewL (ls : List Lt) (w : World) (e : Ending) (w' : World) : Prop := ∃ v, e = .returned v ∧ w'.ownsRow w.heap.size 102 3 v ls.length (ltc ls) ∧ Below w.heap.size w w'
set_option maxHeartbeats 1000000 in
set_option maxRecDepth 100000 in
theorem clone37 (A : Option Addr) (c : Nat) (ls : List Lt) (w : World) (h : Rd w w.heap.size 3 A ls.length (ltc ls)) (h1 : ∀ u ∈ ltc ls, u.oneCell' = true) (hn : ls.length ≤ 512) : Calls Tryz.prog 144 #[.slice A ls.length c] w (NewL ls w) := by
  obtain ⟨n, hN⟩ : ∃ n, n = ls.length := ⟨_, rfl⟩
  rw [← hN] at h hn ⊢
  cases A with
  | none =>
    have hn0 : n = 0 := by
      rcases Nat.eq_zero_or_pos n with h0 | h0
      · exact h0
      · obtain ⟨b, off, h1, _⟩ := h.2 h0
        cases h1
    subst hn0
    have ho : ls = [] := List.length_eq_zero_iff.1 hN.symm
    subst ho
    clear h hN
    have q := fun w => Lib.run_eql_slice_nil (P := Tryz.prog) w 111 102 none 0 c 0 0 Tryz.underlying111
    go_enter Tryz.func144, Tryz.ntmps144
    go_wp2_with fail
    go_ret
    exact ⟨_, rfl, World.ownsRow_nil _ _ _ _, Below.refl _ _⟩
  | some a =>
    have q := fun w => Lib.run_eql_slice_nil (P := Tryz.prog) w 111 102 (some a) n c 0 0 Tryz.underlying111
    have HN := hid hN
    clear hN
    go_enter Tryz.func144, Tryz.ntmps144
    go_wp2_with (at_builtin; refine stop_ (fun Ps hPs => ?_))
    refine hPs ?_
    clear hPs Ps
    refine wpList_app T37 (.tmp 5) (.tmp 6) rfl rfl (World.ownsRow_lit w #[] 0 (Nat.le_refl _) (Nat.zero_le _) rfl) rfl (h.alloc (Nat.le_refl _) _) rfl h1 (by omega) (by simp) fun v1 w1 hown hg hat => ?_
    have hb : Below w.heap.size w w1 := ((Below.refl _ _).alloc (Nat.le_refl _) _).grown hg (by simp) (by intro k hk; simp [Value.ownBlock] at hk; omega)
    have HO := hid hown
    clear hown hg hat
    go_wp2_with fail
    go_ret
    exact ⟨v1, rfl, by rw [← HN.out]; simpa using HO.out, hb⟩
end Go.Proofs.YtbpnbcjgkbpmgaaGreat.Lk
namespace Go.Proofs.YtbpnbcjgkbpmgaaGreat.Lk
open Go.RowKit Go.Lg
variable {F : Nat → Prop}
set_option linter.unusedVariables false
set_option linter.unusedSimpArgs false
def fxi (n : Int) (ls : List Lt) : Int := match fx n (ls.map Lt.k) with | none => -1 | some i => (i : Int)
theorem fx_no {n : Int} {ls : List Lt} (h : ∀ (j : Nat) (x : Lt), ls[j]? = some x → x.n ≠ n) : fx n (ls.map Lt.k) = none := by
  rw [fx, List.findIdx?_eq_none_iff]
  intro k hk
  obtain ⟨x, hx, rfl⟩ := List.mem_map.1 hk
  obtain ⟨j, hj⟩ := List.mem_iff_getElem?.1 hx
  exact beq_false_of_ne (h j x hj)
theorem fx_at {n : Int} {ls : List Lt} {i : Nat} {x : Lt} (hx : ls[i]? = some x) (hn : x.n = n) (h : ∀ (j : Nat) (y : Lt), j < i → ls[j]? = some y → y.n ≠ n) : fx n (ls.map Lt.k) = some i := by
  rw [fx, List.findIdx?_eq_some_iff_getElem]
  obtain ⟨hi, he⟩ := List.getElem?_eq_some_iff.1 hx
  refine ⟨by simpa using hi, ?_, fun j hj => ?_⟩
  · simp only [List.getElem_map, he]
    simpa [Lt.k] using hn
  · have := h j (ls[j]'(by omega)) hj (List.getElem?_eq_getElem _)
    simpa [Lt.k] using this
theorem same43 (x : Lt) (n : Int) (b : Nat) (w : World) (hc : w.cell? ⟨b, 0, none⟩ = some (.int .i64 n)) : Calls Tryz.prog 84 #[.agg #[.int .i64 x.n, .int .i64 x.to, x.v], P b] w fun e w' => e = .returned (.bool (x.n == n)) ∧ Below w.heap.size w w' := by
  obtain ⟨xn, xt, xv, xb⟩ := x
  have hb := (Below.refl w.heap.size w).alloc (Nat.le_refl _) (.cells #[.int .i64 xn, .int .i64 xt, xv] 102)
  have k0 : (w.alloc (.cells #[.int .i64 xn, .int .i64 xt, xv] 102)).cell? ⟨w.heap.size, 0, none⟩ = some (.int .i64 xn) := (Blk.new w 102 #[.int .i64 xn, .int .i64 xt, xv]).cell 0
  have k1 : (w.alloc (.cells #[.int .i64 xn, .int .i64 xt, xv] 102)).cell? ⟨b, 0, none⟩ = some (.int .i64 n) := (World.cell?_alloc_lt w _ _ (World.block_lt_of_cell? w _ hc)).trans hc
  go_enter Tryz.func84, Tryz.ntmps84
  go_wp2_with fail
  go_ret
  exact ⟨rfl, hb⟩
theorem ltAt {w : World} {B n : Nat} {A : Option Addr} {ls : List Lt} {j : Nat} {x : Lt} (h : Rd w B 3 A n (ltc ls)) (hx : ls[j]? = some x) :
    ∃ b off, A = some ⟨b, off, none⟩ ∧ b < B ∧ w.cell? ⟨b, off + j * 3, none⟩ = some (.int .i64 x.n) ∧ w.cell? ⟨b, off + j * 3 + 1, none⟩ = some (.int .i64 x.to) ∧ w.cell? ⟨b, off + j * 3 + 2, none⟩ = some x.v := by
  have hj := (List.getElem?_eq_some_iff.1 hx).1
  have hl := h.1
  rw [ltc_length] at hl
  obtain ⟨b, off, e, hb, hc⟩ := h.2 (by omega)
  obtain ⟨g1, g2, g3⟩ := ltc_get ls j x hx
  exact ⟨b, off, e, hb, hc _ _ g1, by rw [Nat.add_assoc]; exact hc _ _ g2, by rw [Nat.add_assoc]; exact hc _ _ g3⟩
def Place (n : Int) (ls : List Lt) (w : World) (e : Ending) (w' : World) : Prop := e = .returned (.int .i64 (fxi n ls)) ∧ Below w.heap.size w w'
theorem fxi_at {n : Int} {ls : List Lt} {i : Nat} {x : Lt} (hx : ls[i]? = some x) (hn : x.n = n) (h : ∀ (j : Nat) (y : Lt), j < i → ls[j]? = some y → y.n ≠ n) : fxi n ls = i := by simp only [fxi, fx_at hx hn h]
theorem fxi_no {n : Int} {ls : List Lt} (h : ∀ (j : Nat) (x : Lt), ls[j]? = some x → x.n ≠ n) : fxi n ls = -1 := by simp only [fxi, fx_no h]
theorem more_ {n : Int} {ls : List Lt} {k : Nat} {x : Lt} (hx : ls[k]? = some x) (hn : x.n ≠ n) (h : ∀ (j : Nat) (y : Lt), j < k → ls[j]? = some y → y.n ≠ n) : ∀ (j : Nat) (y : Lt), j < k + 1 → ls[j]? = some y → y.n ≠ n := by
  intro j y hj hy
  rcases Nat.lt_or_ge j k with h1 | h1
  · exact h j y h1 hy
  · obtain rfl : j = k := by omega
    rw [hx] at hy
    exact Option.some.inj hy ▸ hn
set_option maxHeartbeats 2000000 in
set_option maxRecDepth 100000 in
theorem index42 (A : Option Addr) (c b : Nat) (n : Int) (ls : List Lt) (w : World) (h : Rd w w.heap.size 3 A ls.length (ltc ls)) (hle : ls.length ≤ 512) (hn : w.cell? ⟨b, 0, none⟩ = some (.int .i64 n)) :
    Calls Tryz.prog 83 #[.slice A ls.length c, .func (.func 84) #[] #[P b]] w (Place n ls w) := by
  have hbl : b < w.heap.size := World.block_lt_of_cell? w _ hn
  obtain ⟨m, hm⟩ : ∃ m, m = ls.length := ⟨_, rfl⟩
  rw [← hm] at h hle ⊢
  have HM := hid hm
  clear hm
  go_enter Tryz.func83, Tryz.ntmps83
  go_wp2_with fail
  go_loopg [5, 8] m (fun g _ i wr => ∃ k : Nat, k ≤ m ∧ g = m - k ∧ i = .int .i64 k ∧ Hid (Below w.heap.size w wr) ∧ Hid (∀ (j : Nat) (y : Lt), j < k → ls[j]? = some y → y.n ≠ n))
  case atStart => exact ⟨0, by omega, rfl, rfl, hid (Below.refl _ _), hid fun j y hj => absurd hj (by omega)⟩
  case round =>
    obtain ⟨k, hk, rfl, rfl, BW, A0⟩ := hrel
    by_cases hlt : k < m
    · obtain ⟨x, hx⟩ : ∃ x, ls[k]? = some x := ⟨ls[k]'(by rw [← HM.out]; exact hlt), List.getElem?_eq_getElem _⟩
      obtain ⟨g, off, rfl, hg, c0, c1, c2⟩ := ltAt (h.below BW.out) hx
      have hcl := same43 x n b wr ((BW.out.cell (p := ⟨b, 0, none⟩) hbl).trans hn)
      obtain ⟨xn, xt, xv, xb⟩ := x
      have hki : (k : Int) < (m : Int) := by omega
      have HX := hid hx
      have HR := hid h
      clear hx h hn
      by_cases he : xn = n
      · have hq : (xn == n) = true := by simpa using he
        simp only [hq] at hcl
        have HE := hid he
        have HCL := hid hcl
        clear he hq hcl
        go_wp2_with fail
        refine HCL.out.mono ?_
        rintro e w2 ⟨rfl, hb2⟩
        go_wp2_with fail
        go_ret
        refine ⟨?_, BW.out.trans (hb2.mono BW.out.size)⟩
        rw [fxi_at HX.out HE.out A0.out]
        rfl
      · have hq : (xn == n) = false := beq_false_of_ne he
        simp only [hq] at hcl
        have HE := hid he
        have HCL := hid hcl
        clear he hq hcl
        go_wp2_with fail
        refine HCL.out.mono ?_
        rintro e w2 ⟨rfl, hb2⟩
        go_wp2_with fail
        go_roundg (m - (k + 1))
        case measure => omega
        case rel => exact ⟨k + 1, by omega, rfl, by go_num, hid (BW.out.trans (hb2.mono BW.out.size)), hid (more_ HX.out HE.out A0.out)⟩
    · obtain rfl : k = m := by omega
      go_wp2_with fail
      go_ret
      refine ⟨?_, BW.out⟩
      rw [fxi_no (fun j x hx => A0.out j x (by have := (List.getElem?_eq_some_iff.1 hx).1; have := HM.out; omega) hx)]
      rfl
set_option maxHeartbeats 2000000 in
set_option maxRecDepth 100000 in
theorem find29 {B z : Nat} {last : Int} {sv : Value} {ls : List Lt} {w : World} (h : LX F false w B z last sv ls) (n : Int) : Calls Tryz.prog 48 #[P z, .int .i64 n] w (Place n ls w) := by
  obtain ⟨A, c, rfl, hc1, hc2⟩ := owned_slice h.own
  have hb := (Below.refl w.heap.size w).alloc (Nat.le_refl _) (.cells #[.int .i64 n] 3)
  have kb : Blk (w.alloc (.cells #[.int .i64 n] 3)) z 113 #[.bool true, .int .i64 last, .slice A ls.length c] := (h.later hb).blk
  have k0 : (w.alloc (.cells #[.int .i64 n] 3)).cell? ⟨z, 2, none⟩ = some (.slice A ls.length c) := kb.cell 2
  have hi := index42 A c w.heap.size n ls (w.alloc (.cells #[.int .i64 n] 3)) (Rd.of_own (h.later hb).own) h.le ((Blk.new w 3 #[.int .i64 n]).cell 0)
  have HI := hid hi
  have HB := hid hb
  clear h hi kb hb
  go_enter Tryz.func48, Tryz.ntmps48
  go_wp2_with (go_at_call 83; refine HI.out.mono ?_; rintro e w2 ⟨rfl, hb2⟩)
  go_ret
  exact ⟨rfl, HB.out.trans (hb2.mono HB.out.size)⟩
end Go.Proofs.YtbpnbcjgkbpmgaaGreat.Lk
namespace Go.Proofs.YtbpnbcjgkbpmgaaGreat.Lk
open Go.RowKit Go.Lg
variable {F : Nat → Prop}
set_option linter.unusedVariables false
set_option linter.unusedSimpArgs false
attribute [local go_sem ↓] Go.wp_at_zero Go.wp_at_succ
theorem send_eq {rf : Bool} {B z : Nat} {sv : Value} {r e last' : Int} {ks' : List Key} {w w' : World} {en : Ending} (he : en = .returned (two r e)) (hl : Left F rf B z sv last' ks' w w') : Send F rf B z sv r e last' ks' w en w' := ⟨he, hl⟩
theorem rd_z {rf : Bool} {B z : Nat} {last : Int} {sv : Value} {ls : List Lt} {w : World} (h : LX F rf w B z last sv ls) {g off : Nat} {x : Int} (hc : w.cell? ⟨g, off, none⟩ = some (.int .u8 x)) : g ≠ z := by
  rintro rfl
  obtain ⟨A, c, rfl, _, _⟩ := owned_slice h.own
  rw [h.blk.cell off] at hc
  have hs : (ocs rf last (.slice A ls.length c)).size = 3 := by cases rf <;> rfl
  have ho : off < 3 := by rw [← hs]; exact (Array.getElem?_eq_some_iff.1 hc).1
  obtain rfl | rfl | rfl : off = 0 ∨ off = 1 ∨ off = 2 := by omega
  all_goals cases rf <;> simp [ocs] at hc
theorem rd_setN {rf : Bool} {B z : Nat} {last : Int} {sv : Value} {ls : List Lt} {w : World} (h : LX F rf w B z last sv ls) {A : Option Addr} {n i : Nat} {b : List UInt8} (hr : Rd w w.heap.size 1 A n (bts b)) (x : Value) :
    Rd (w.setCell ⟨z, i, none⟩ x) (w.setCell ⟨z, i, none⟩ x).heap.size 1 A n (bts b) := by
  refine ⟨hr.1, fun hn => ?_⟩
  obtain ⟨g, off, rfl, hg, hcl⟩ := hr.2 hn
  have hl := hr.1
  rw [bts_length, Nat.mul_one] at hl
  have hne : g ≠ z := by
    have h0 := hcl 0 _ (bts_get b 0 (by omega))
    exact rd_z h h0
  refine ⟨g, off, rfl, by simpa [World.setCell] using hg, fun j u hu => ?_⟩
  rw [World.cell?_setCell_other _ _ _ _ (fun e => hne (by injection e with e1 e2; exact e1.symm))]
  exact hcl j u hu
theorem put_done {rf : Bool} {B z : Nat} {last to : Int} {sv : Value} {ls : List Lt} {w W w2 w3 : World} {o : Obj} {A2 A3 : Option Addr} {c2 c3 : Nat} {b : List UInt8} (hN : LX F rf W B z last sv ls ∧ w.grownBy W (some z)) (hl : ls.length < 512 ∧ b.length ≤ 1000000000) (ht : to = 0 ∨ to = 1)
    (ho2 : w2.ownsRow W.heap.size 5 1 (.slice A2 b.length c2) b.length (bts b)) (hb2 : Below W.heap.size W w2)
    (hv3 : w3.ownsRow B 102 3 (.slice A3 (ls.length + 1) c3) (ls.length + 1) (ltc ls ++ [.int .i64 last, .int .i64 to, .slice A2 b.length c2])) (hg3 : (w2.alloc o).grownBy w3 sv.ownBlock)
    (hat3 : (Value.slice A3 (ls.length + 1) c3).ownBlock = sv.ownBlock ∨ (Value.slice A3 (ls.length + 1) c3).ownBlock = some (w2.alloc o).heap.size) :
    Left F rf B z sv last (ls.map Lt.k ++ [(last, to, b)]) w (w3.setCell ⟨z, ixL rf, none⟩ (.slice A3 (ls.length + 1) c3)) := by
  have hbX : Below W.heap.size W (w2.alloc o) := hb2.alloc hb2.size o
  refine Left.trans (Two.of_z hN.2) (fun g hg => .inl hg) (left_append (x := ⟨last, to, .slice A2 b.length c2, b⟩) hN.1 hl.1 hbX ⟨owned_less (ho2.alloc o) hN.1.leB, hl.2, ht⟩ (fun g e hFg => by have := (ho2.lt g e).1; have := hN.1.hF g hFg; omega) hv3 hg3 ?_)
  intro g hg
  rcases hat3 with h1 | h1
  · exact .inl (h1 ▸ hg)
  · rw [h1] at hg
    injection hg with hg
    refine .inr ?_
    rw [← hg]
    exact hbX.size
set_option maxHeartbeats 4000000 in
set_option maxRecDepth 100000 in
theorem put28_ok {B z : Nat} {last : Int} {sv : Value} {ls : List Lt} {w : World} (h : LX F false w B z last sv ls) (hlt : ls.length < 512) (h0 : 0 ≤ last) (h1 : last ≤ 4611686018427387904)
    (to : Int) (ht : to = 0 ∨ to = 1) (A : Option Addr) (n c : Nat) (b : List UInt8) (hr : Rd w w.heap.size 1 A n (bts b)) (h40 : b.length ≤ 1000000000) :
    Calls Tryz.prog 49 #[P z, .int .i64 to, .slice A n c] w (Send F false B z sv (last + 1) 0 (last + 1) (ls.map Lt.k ++ [(last + 1, to, b)]) w) := by
  have hnb : n = b.length := by have := hr.1; rw [bts_length] at this; omega
  obtain ⟨As, cs, rfl, hc1, hc2⟩ := owned_slice h.own
  have kz : Blk w z 113 #[.bool true, .int .i64 last, .slice As ls.length cs] := h.blk
  have z1 : w.cell? ⟨z, 1, none⟩ = some (.int .i64 last) := kz.cell 1
  have z2 : w.cell? ⟨z, 2, none⟩ = some (.slice As ls.length cs) := kz.cell 2
  have f1 := kz.frozen 1
  have hrW := rd_setN h hr (i := 1) (.int .i64 (last + 1))
  have hNW : LX F false (w.setCell ⟨z, 1, none⟩ (.int .i64 (last + 1))) B z (last + 1) (.slice As ls.length cs) ls ∧ w.grownBy (w.setCell ⟨z, 1, none⟩ (.int .i64 (last + 1))) (some z) := h.setN (last + 1)
  obtain ⟨W, hW⟩ : ∃ W, W = w.setCell ⟨z, 1, none⟩ (.int .i64 (last + 1)) := ⟨_, rfl⟩
  rw [← hW] at hrW hNW
  have kW : Blk W z 113 #[.bool true, .int .i64 (last + 1), .slice As ls.length cs] := hNW.1.blk
  have y1 : W.cell? ⟨z, 1, none⟩ = some (.int .i64 (last + 1)) := kW.cell 1
  have y2 : W.cell? ⟨z, 2, none⟩ = some (.slice As ls.length cs) := kW.cell 2
  have q5 : (ls.length : Int) < 512 := by omega
  have H0 := hid hNW
  have HA := hid (clone38 A n c b W.drew hrW.drew (by omega))
  have HL := hid (And.intro hlt h40)
  have HT := hid ht
  clear h hr hrW hNW kz kW hlt h40 hnb ht
  go_enter Tryz.func49, Tryz.ntmps49
  go_wp2_with fail
  rw [← hW]
  clear hW z1 z2 f1
  go_region_law (first
    | (go_simp; (with_reducible refine HA.out.mono ?_); rintro e2 w2 ⟨v2, rfl, ho2, hb2⟩; obtain ⟨A2, c2, rfl, g2, g3⟩ := owned_slice ho2; have hq2 := below_src hb2; have kz2 := H0.out.1.blk.later hq2; have x1 : w2.cell? ⟨z, 1, none⟩ = some (.int .i64 (last + 1)) := kz2.cell 1; have x2 : w2.cell? ⟨z, 2, none⟩ = some (.slice As ls.length cs) := kz2.cell 2; have zl := kz2.lt; have x2a : (w2.alloc (.cells #[.int .i64 (last + 1), .int .i64 to, .slice A2 b.length c2] 102)).cell? ⟨z, 2, none⟩ = some (.slice As ls.length cs) := (World.cell?_alloc_lt w2 _ _ zl).trans x2)
    | (refine step_app T37 (.tmp 25) (.tmp 34) rfl rfl ((H0.out.1.later hq2).own.alloc _) rfl (Rd.lit w2 #[.int .i64 (last + 1), .int .i64 to, .slice A2 b.length c2] 102 (0, 0) 1 rfl) rfl (by simp [Value.oneCell']) (by have := HL.out.1; omega) (by have := (H0.out.1.later hq2).leB; simp; omega) ?_; intro v3 w3 hv3 hg3 hat3; obtain ⟨A3, c3, rfl, hd1, hd2⟩ := owned_slice hv3; have kz3 : Blk w3 z 113 #[.bool true, .int .i64 (last + 1), .slice As ls.length cs] := Blk.gb (((H0.out.1.later hq2).blk).alloc _) hg3 (fun e => H0.out.1.ne z e.symm rfl); have z1 : w3.cell? ⟨z, 1, none⟩ = some (.int .i64 (last + 1)) := kz3.cell 1; have z3 : w3.cell? ⟨z, 2, none⟩ = some (.slice As ls.length cs) := kz3.cell 2; have f3 := kz3.frozen 2))
  all_goals
    have HP := hid (put_done H0.out HL.out HT.out ho2 hq2 hv3 hg3 hat3)
    clear ho2 hv3 hg3 hat3 hb2 hq2 kz2 kz3
    go_wp2_with fail
    refine bodyPost_ret (results_tmp2 rfl _ _ _) rfl ?_
    exact send_eq rfl HP.out
set_option maxHeartbeats 4000000 in
set_option maxRecDepth 100000 in
theorem put28_long {B z : Nat} {last : Int} {sv : Value} {ls : List Lt} {w : World} (h : LX F false w B z last sv ls) (hlt : ¬ ls.length < 512)
    (to : Int) (A : Option Addr) (n c : Nat) :
    Calls Tryz.prog 49 #[P z, .int .i64 to, .slice A n c] w (Send F false B z sv 0 3 last (ls.map Lt.k) w) := by
  obtain ⟨As, cs, rfl, hc1, hc2⟩ := owned_slice h.own
  have kz : Blk w z 113 #[.bool true, .int .i64 last, .slice As ls.length cs] := h.blk
  have z2 : w.cell? ⟨z, 2, none⟩ = some (.slice As ls.length cs) := kz.cell 2
  have q5 : (512 : Int) ≤ (ls.length : Int) := by omega
  have H := hid (Left.same h (Below.refl _ _))
  clear h kz hlt
  go_enter Tryz.func49, Tryz.ntmps49
  go_wp2_with fail
  refine bodyPost_ret (results_tmp2 rfl _ _ _) rfl ?_
  exact send_eq rfl H.out
end Go.Proofs.YtbpnbcjgkbpmgaaGreat.Lk
namespace Go.Proofs.YtbpnbcjgkbpmgaaGreat.Lk
open Go.RowKit Go.Lg
variable {F : Nat → Prop}
set_option linter.unusedVariables false
set_option linter.unusedSimpArgs false
attribute [local go_sem ↓] Go.wp_at_zero Go.wp_at_succ
def sE (to : Int) (ks : List Key) : Int := if to ≠ 0 ∧ to ≠ 1 then 2 else if ks.length < 512 then 0 else 3
def sR (last to : Int) (ks : List Key) : Int := if sE to ks = 0 then last + 1 else 0
def sL (last to : Int) (ks : List Key) : Int := if sE to ks = 0 then last + 1 else last
def sK (last to : Int) (b : List UInt8) (ks : List Key) : List Key := if sE to ks = 0 then ks ++ [(last + 1, to, b)] else ks
def Sends (F : Nat → Prop) (rf : Bool) (B z : Nat) (sv : Value) (last to : Int) (b : List UInt8) (ks : List Key) (w : World) (e : Ending) (w' : World) : Prop := Send F rf B z sv (sR last to ks) (sE to ks) (sL last to ks) (sK last to b ks) w e w'
section
variable {rf : Bool} {B z : Nat} {sv : Value} {last to r e : Int} {b : List UInt8} {ks : List Key} {w w' : World} {en : Ending}
theorem sends_bad (h : to ≠ 0 ∧ to ≠ 1) (k : Send F rf B z sv 0 2 last ks w en w') : Sends F rf B z sv last to b ks w en w' := by
  simp only [Sends, sR, sL, sK, sE, if_pos h]
  exact k
theorem sends_long (h : to = 0 ∨ to = 1) (h2 : ¬ ks.length < 512) (k : Send F rf B z sv 0 3 last ks w en w') : Sends F rf B z sv last to b ks w en w' := by
  have h' : ¬(to ≠ 0 ∧ to ≠ 1) := by omega
  simp only [Sends, sR, sL, sK, sE, if_neg h', if_neg h2]
  exact k
theorem sends_ok (h : to = 0 ∨ to = 1) (h2 : ks.length < 512) (k : Send F rf B z sv (last + 1) 0 (last + 1) (ks ++ [(last + 1, to, b)]) w en w') : Sends F rf B z sv last to b ks w en w' := by
  have h' : ¬(to ≠ 0 ∧ to ≠ 1) := by omega
  simp only [Sends, sR, sL, sK, sE, if_neg h', if_pos h2]
  exact k
end
set_option maxHeartbeats 2000000 in
set_option maxRecDepth 100000 in
theorem send10 {B z : Nat} {last : Int} {sv : Value} {ls : List Lt} {w : World} (h : LX F false w B z last sv ls) (h0 : 0 ≤ last) (h1 : last ≤ 4611686018427387904)
    (to : Int) (A : Option Addr) (n c : Nat) (b : List UInt8) (hr : Rd w w.heap.size 1 A n (bts b)) (h40 : b.length ≤ 1000000000) :
    Calls Tryz.prog 82 #[P z, .int .i64 to, .slice A n c] w (Sends F false B z sv last to b (ls.map Lt.k) w) := by
  have hn := none27 h
  have HN := hid hn
  have HS := hid (Left.same h (Below.refl _ _))
  clear hn
  by_cases ht : to = 0 ∨ to = 1
  · have hp : Calls Tryz.prog 49 #[P z, .int .i64 to, .slice A n c] w (Sends F false B z sv last to b (ls.map Lt.k) w) := by
      by_cases hlt : ls.length < 512
      · exact (put28_ok h hlt h0 h1 to ht A n c b hr h40).mono fun e w' k => sends_ok ht (by simpa using hlt) k
      · exact (put28_long h hlt to A n c).mono fun e w' k => sends_long ht (by simpa using hlt) k
    have HP := hid hp
    have q0 : (to != 0 && to != 1) = false := by rcases ht with rfl | rfl <;> rfl
    clear h hp hr h40
    rcases ht with rfl | rfl
    all_goals
      go_enter Tryz.func82, Tryz.ntmps82
      go_wp2_with (go_at_call 47; refine HN.out.mono ?_; rintro e w1 ⟨rfl, rfl⟩)
      refine HP.out.mono ?_
      rintro e w2 ⟨rfl, hl⟩
      have HL := hid hl
      clear hl
      simp only [two]
      go_wp2_with fail
      refine bodyPost_ret (results_tmp2 rfl _ _ _) rfl ?_
      exact ⟨rfl, HL.out⟩
  · have hb : to ≠ 0 ∧ to ≠ 1 := by omega
    have q0 : (to != 0) = true := by simpa using hb.1
    have q1 : (to != 1) = true := by simpa using hb.2
    have HB := hid hb
    clear h hr h40 hb ht
    go_enter Tryz.func82, Tryz.ntmps82
    go_wp2_with (go_at_call 47; refine HN.out.mono ?_; rintro e w1 ⟨rfl, rfl⟩)
    refine bodyPost_ret (results_tmp2 rfl _ _ _) rfl ?_
    exact sends_bad HB.out (send_eq rfl HS.out)
end Go.Proofs.YtbpnbcjgkbpmgaaGreat.Lk
namespace Go.Proofs.YtbpnbcjgkbpmgaaGreat.Lk
open Go.RowKit Go.Lg
variable {F : Nat → Prop}
set_option linter.unusedVariables false
set_option linter.unusedSimpArgs false
def setL (xs : List Value) : Nat → List Value → List Value
  | _, [] => xs
  | o, v :: r => setL (xs.set o v) (o + 1) r
theorem setL_eq : ∀ (vs : List Value) (xs : List Value) (o : Nat), o + vs.length ≤ xs.length → setL xs o vs = xs.take o ++ vs ++ xs.drop (o + vs.length)
  | [], xs, o, h => by simp [setL]
  | v :: r, xs, o, h => by
    simp only [List.length_cons] at h
    rw [setL, setL_eq r (xs.set o v) (o + 1) (by simp; omega)]
    have ho : o < xs.length := by omega
    rw [List.take_add_one, List.getElem?_set_self ho, List.take_set_of_le (Nat.le_refl _), List.drop_set_of_lt (by omega)]
    simp [Nat.add_assoc, Nat.add_comm 1]
theorem own_setCells {base g n cap sz : Nat} {e : TypeId} : ∀ (vs : List Value) (o : Nat) (w : World) (xs : List Value), w.ownsRow base e sz (.slice (some ⟨g, 0, none⟩) n cap) n xs →
    (w.setCells g o vs).ownsRow base e sz (.slice (some ⟨g, 0, none⟩) n cap) n (setL xs o vs) ∧ w.grownBy (w.setCells g o vs) (some g)
  | [], o, w, xs, h => ⟨h, World.grownBy.refl w _⟩
  | v :: r, o, w, xs, h => by
    have h1 := h.stored o v
    have h2 := own_setCells r (o + 1) (w.setCell ⟨g, o, none⟩ v) (xs.set o v) h1.1
    exact ⟨h2.1, gb_trans h1.2 h2.2⟩
def z3 : List Value := [.int .i64 0, .int .i64 0, .slice none 0 0]
theorem run_clear_one {P : Program} (w : World) (t e ty : TypeId) (ht : P.underlying t = some (.slice e)) (hv : ∀ w, (zeroValue e).run P w = .ok (.agg #[.int .i64 0, .int .i64 0, .slice none 0 0]) w) (b o c : Nat)
    (hc : ∀ j, j < 3 → (w.cell? ⟨b, o + j, none⟩).isSome = true) (hf : ∀ j, j < 3 → w.frozen? ⟨b, o + j, none⟩ = false) :
    (Builtin.clear_ #[t] ty #[.slice (some ⟨b, o, none⟩) 1 c]).run P w = .ok (.tuple #[]) (w.setCells b o z3) := by
  have hst := run_storeCells_cells (P := P) b o z3 0 w hc hf (by intro v hv'; simp [z3] at hv'; rcases hv' with rfl | rfl <;> rfl)
  simp only [Nat.add_zero] at hst
  have hz : (Builtin.zeroCells #[.int .i64 0, .int .i64 0, .slice none 0 0] 1).toList = z3 := by simp only [Builtin.zeroCells, Array.toList_map, Array.toList_range]; rfl
  simp [Builtin.clear_, run_underlying ht, hv, hz, hst, Value.cells]
theorem del_row {ls : List Lt} {i n : Nat} (hn : ls.length = n) (hi : i < n) : (setL (setL (ltc ls) (i * 3) (ltc (ls.drop (i + 1)))) ((n - 1) * 3) z3).take ((n - 1) * 3) = ltc (ls.eraseIdx i) := by
  have h1 : (ltc (ls.drop (i + 1))).length = (n - (i + 1)) * 3 := by rw [ltc_length, List.length_drop, hn]
  have h2 : (ltc ls).length = n * 3 := by rw [ltc_length, hn]
  have e1 : setL (ltc ls) (i * 3) (ltc (ls.drop (i + 1))) = ltc (ls.take i) ++ ltc (ls.drop (i + 1)) ++ (ltc ls).drop ((n - 1) * 3) := by
    rw [setL_eq _ _ _ (by omega), ltc_take, h1]
    congr 2
    omega
  have h3 : (ltc (ls.take i) ++ ltc (ls.drop (i + 1))).length = (n - 1) * 3 := by rw [List.length_append, h1, ltc_length, List.length_take, hn]; omega
  rw [setL_eq _ _ _ (by rw [e1, List.length_append, h3, List.length_drop, h2]; simp [z3]; omega), List.append_assoc, List.take_append_of_le_length (by rw [List.length_take, e1, List.length_append, h3]; omega), List.take_take, Nat.min_self, e1, List.take_append_of_le_length (by omega), List.take_of_length_le (by omega), ← ltc_app, List.eraseIdx_eq_take_drop_succ]
set_option maxHeartbeats 4000000 in
set_option maxRecDepth 100000 in
theorem delete44 {B g cap : Nat} {ls : List Lt} {w : World} (i : Nat) (hi : i < ls.length) (hle : ls.length ≤ 512) (h : w.ownsRow B 102 3 (.slice (some ⟨g, 0, none⟩) ls.length cap) ls.length (ltc ls)) (h1 : ∀ u ∈ ltc ls, u.oneCell' = true) :
    Calls Tryz.prog 86 #[.slice (some ⟨g, 0, none⟩) ls.length cap, .int .i64 i, .int .i64 (i + 1)] w fun e w' => e = .returned (.slice (some ⟨g, 0, none⟩) (ls.length - 1) cap) ∧
      w'.ownsRow B 102 3 (.slice (some ⟨g, 0, none⟩) (ls.length - 1) cap) (ls.length - 1) (ltc (ls.eraseIdx i)) ∧ w.grownBy w' (some g) := by
  obtain ⟨n, hn⟩ : ∃ n, n = ls.length := ⟨_, rfl⟩
  rw [← hn] at h hi hle ⊢
  obtain ⟨hcap, hmax⟩ := owned_cap h
  obtain ⟨i0, z0, hi0, hz, hs1, hs2, hs3⟩ := T37.hi
  have hv : ∀ w, (zeroValue 102).run Tryz.prog w = .ok (.agg #[.int .i64 0, .int .i64 0, .slice none 0 0]) w := Tryz.zeroValue102
  obtain ⟨news, hnews⟩ : ∃ news, news = ltc (ls.drop (i + 1)) := ⟨_, rfl⟩
  have hlen : news.length = (n - (i + 1)) * 3 := by rw [hnews, ltc_length, List.length_drop, hn]
  have hrd := Rd.of_own h
  obtain ⟨A, hA, hsrc⟩ : ∃ A : Addr, (if cap = i + 1 then some (⟨g, 0, none⟩ : Addr) else some ⟨g, (i + 1) * 3, none⟩) = some A ∧ Hid (∀ t u, news[t]? = some u → w.drew.cell? (A.add t) = some u) := by
    by_cases hc : cap = i + 1
    · refine ⟨⟨g, 0, none⟩, by simp [hc], fun t u hu => ?_⟩
      have h0 : news.length = 0 := by rw [hlen]; omega
      rw [List.length_eq_zero_iff.1 h0] at hu
      simp at hu
    · refine ⟨⟨g, (i + 1) * 3, none⟩, by simp [hc], fun t u hu => ?_⟩
      have ht := (List.getElem?_eq_some_iff.1 hu).1
      have hp := hrd.2 (by omega)
      obtain ⟨g', off', e, _, hcl⟩ := hp
      injection e with e
      injection e with e1 e2
      subst e1 e2
      rw [Addr.add_lit]
      have := hcl ((i + 1) * 3 + t) u (by rw [hnews, ← ltc_drop, List.getElem?_drop] at hu; exact hu)
      rw [Nat.zero_add] at this
      exact this
  have s2 : Hid (∀ u ∈ news, u.oneCell' = true) := by
    intro u hu
    rw [hnews, ← ltc_drop] at hu
    exact h1 u (List.mem_of_mem_drop hu)
  have hcellAt : ∀ k, k < n * 3 → (w.cell? ⟨g, k, none⟩).isSome = true := by
    intro k hk
    rw [h.cellAt k hk, List.getElem?_eq_getElem (by rw [h.1]; exact hk)]
    rfl
  have s3 : Hid (∀ t, t < news.length → (w.drew.cell? ⟨g, 0 + i * 3 + t, none⟩).isSome = true ∧ w.drew.frozen? ⟨g, 0 + i * 3 + t, none⟩ = false) := by
    intro t ht
    rw [hlen] at ht
    rw [Nat.zero_add]
    exact ⟨hcellAt _ (by omega), h.frozenAt _⟩
  have HW1 := own_setCells news (i * 3) w.drew (ltc ls) h
  obtain ⟨W1, hW1⟩ : ∃ W1, W1 = w.drew.setCells g (0 + i * 3) news := ⟨_, rfl⟩
  rw [Nat.zero_add] at hW1
  rw [← hW1] at HW1
  have hcl : ∀ ty c, (Builtin.clear_ #[111] ty #[.slice (some ⟨g, (n - 1) * 3, none⟩) 1 c]).run Tryz.prog W1 = .ok (.tuple #[]) (W1.setCells g ((n - 1) * 3) z3) := by
    intro ty c
    refine run_clear_one W1 111 102 ty Tryz.underlying111 hv g ((n - 1) * 3) c (fun j hj => ?_) (fun j hj => HW1.1.frozenAt _)
    rw [HW1.1.cellAt _ (by omega), List.getElem?_eq_getElem (by rw [HW1.1.1]; omega)]
    rfl
  have HW2 := own_setCells z3 ((n - 1) * 3) W1 _ HW1.1
  have HE := hid (And.intro (show (W1.setCells g ((n - 1) * 3) z3).ownsRow B 102 3 (.slice (some ⟨g, 0, none⟩) (n - 1) cap) (n - 1) (ltc (ls.eraseIdx i)) by
      have := owned_prefix HW2.1 (show n - 1 ≤ n by omega)
      rw [hnews, del_row hn.symm hi] at this
      exact this) (gb_trans (show w.grownBy W1 (some g) from ⟨HW1.2.os, HW1.2.tape, HW1.2.output, HW1.2.size, HW1.2.block⟩) HW2.2))
  have hW : Hid (W1 = w.drew.setCells g (0 + i * 3) news) := by rw [Nat.zero_add]; exact hW1
  have HN := hid hn
  have Hlen := hid hlen
  obtain ⟨m, hm⟩ : ∃ m, m = n - 1 := ⟨_, rfl⟩
  rw [← hm] at hcl
  have HM := hid hm
  rw [← hm] at HE
  clear hm
  have hic : i ≤ cap := by omega
  have hjc : i + 1 ≤ cap := by omega
  have hne : ¬ n = i := by omega
  have hb1 : (0 : Int) ≤ (i : Int) + 1 := by omega
  have hb2 : (i : Int) + 1 ≤ (n : Int) := by omega
  clear h h1 hrd hcellAt HW1 HW2 hW1 hnews hn hlen hz hs2 hs3
  go_enter Tryz.func86, Tryz.ntmps86
  go_wp2_with fail
  go_region_law (refine step_append_room rfl (.tmp 22) (.tmp 25) 111 rfl 102 i0 3 Tryz.underlying111 hi0 hs1 g 0 i cap (by simp [Act.eval, Act.put]) A (n - (i + 1)) (cap - (i + 1)) news (by simp [Act.eval, Act.put]) Hlen.out hsrc.out s2.out (by omega) s3.out ?_; rw [← hW.out])
  rw [show i + (n - (i + 1)) = m by have := HM.out; omega]
  have hm1 : (m : Int) ≤ (n : Int) := by have := HM.out; omega
  have hm2 : ¬ cap = m := by have := HM.out; omega
  have hm3 : n - m = 1 := by have := HM.out; omega
  have hm4 : (n : Int) ≤ (cap : Int) := by omega
  have hm5 : m ≤ n := by omega
  go_wp2_with fail
  go_ret
  rw [← HM.out]
  exact ⟨rfl, HE.out⟩
end Go.Proofs.YtbpnbcjgkbpmgaaGreat.Lk
