/- The walks through the statements' own helpers: copies, comparisons. -/
import Derived.Test.YthihhmmpkbdmnaaRows
import Derived.Test.YthihhmmpkbdmnaaBase
namespace Go.Proofs.Ythihhmmpkbdmnaa
open Go.RowKit Go.Lg

theorem Try.info5 : (Try.prog.info? 5).map (fun i => (i.zero, i.size, i.bytes)) = some (some (.int .u8 0), 1, 1) := by kernel_rfl
theorem T22 : SlT Try.prog 22 5 1 1 := SlT.mk' _ Try.underlying22 Try.info5 rfl (by decide) (by decide)

/-- A new list of bytes, in memory of the call's own. -/
def Fresh (w : World) (l : List UInt8) (e : Ending) (w' : World) : Prop :=
  ∃ v, e = .returned v ∧ w'.ownsRow w.heap.size 5 1 v l.length (bts l) ∧ Below w.heap.size w w'

set_option maxHeartbeats 400000 in
theorem copy_any (A : Option Addr) (n c : Nat) (l : List UInt8) (w : World) (h : Rd w w.heap.size 1 A n (bts l)) (hn : n ≤ 140737488355000) :
    Calls Try.prog 23 #[.slice A n c] w (Fresh w l) := by
  have hl := h.1
  rw [bts_length, Nat.mul_one] at hl
  have hl' := hid hl
  clear hl
  go_enter Try.func23, Try.ntmps23
  go_wp2_with (at_builtin; refine stop_ (fun Ps hPs => ?_))
  refine hPs ?_
  clear hPs Ps
  refine wpList_app T22 (.tmp 3) (.tmp 4) rfl rfl (World.ownsRow_lit w #[] 0 (Nat.le_refl _) (Nat.zero_le _) rfl) rfl (h.alloc (Nat.le_refl _) _) rfl (bts_one l) (by omega) (by simp) fun v1 w1 hown hg hat => ?_
  have hb : Below w.heap.size w w1 := ((Below.refl _ _).alloc (Nat.le_refl _) _).grown hg (by simp) (by intro k hk; simp [Value.ownBlock] at hk; omega)
  go_wp2_with fail
  go_ret
  exact ⟨v1, rfl, by rw [hl'.out]; simpa using hown, hb⟩

def spare : List UInt8 := [201, 202, 203]
def lent (l : List UInt8) : List UInt8 := l ++ spare

set_option maxHeartbeats 400000 in
theorem lent_any (A : Option Addr) (n c : Nat) (l : List UInt8) (w : World) (h : Rd w w.heap.size 1 A n (bts l)) (hn : n ≤ 140737488354000) :
    Calls Try.prog 13 #[.slice A n c] w (Fresh w (lent l)) := by
  have hl := h.1
  rw [bts_length, Nat.mul_one] at hl
  obtain ⟨B, hB⟩ : ∃ B, B = w.heap.size := ⟨_, rfl⟩
  have hB' := hid hB
  clear hB
  go_enter Try.func13, Try.ntmps13
  go_wp2_with (go_at_call 23; refine (copy_any A n c l _ h (by omega)).mono ?_; rintro e w1 ⟨v1, rfl, hown, hb⟩)
  rw [← hB'.out] at hown hb
  have hln : l.length ≤ 140737488354000 := by omega
  clear hl
  go_loopg [3, 4] 3 (fun k v i wr => ∃ j : Nat, j ≤ 3 ∧ k = 3 - j ∧ i = .int .i64 j ∧ wr.ownsRow B 5 1 v (l.length + j) (bts (l ++ spare.take j)) ∧ Below B w wr)
  case atStart => exact ⟨0, by omega, rfl, rfl, by simpa using hown, hb⟩
  case round =>
    obtain ⟨j, hj, rfl, rfl, hown, hb⟩ := hrel
    have hs := hb.size
    rw [← hB'.out] at hs
    by_cases hlt : j < 3
    · obtain rfl | rfl | rfl : j = 0 ∨ j = 1 ∨ j = 2 := by omega
      all_goals
        go_wp2_with (at_builtin; refine stop_ (fun Ps hPs => ?_))
        refine hPs ?_
        clear hPs Ps
        refine wpList_app1 T22 (.tmp 11) (.tmp 15) rfl rfl hown rfl rfl rfl (by simp [Value.oneCell']) (by omega) hs fun v1 w1 hown1 hg hat => ?_
        have hb1 := below_append hb hown hg hs
        clear hown hb hg hat
        go_wp2_with fail
      · go_roundg 2
        case measure => omega
        case rel => exact ⟨1, by omega, by omega, rfl, by simpa [bts, spare] using hown1, hb1⟩
      · go_roundg 1
        case measure => omega
        case rel => exact ⟨2, by omega, by omega, rfl, by simpa [bts, spare] using hown1, hb1⟩
      · go_roundg 0
        case measure => omega
        case rel => exact ⟨3, by omega, by omega, rfl, by simpa [bts, spare] using hown1, hb1⟩
    · obtain rfl : j = 3 := by omega
      go_wp2_with fail
      go_ret
      exact ⟨u3, rfl, by rw [← hB'.out]; simpa [lent, spare] using hown, by rw [← hB'.out]; exact hb⟩

theorem below_of_drew {w : World} (d : Nat) : Below w.heap.size w (w.drewN d) := below_drewN (Below.refl _ _) d

set_option maxHeartbeats 400000 in
theorem same_any (A A' : Option Addr) (n c n' c' B B' : Nat) (l l' : List UInt8) (w : World) (h : Rd w B 1 A n (bts l)) (h' : Rd w B' 1 A' n' (bts l')) (hn : n ≤ 9223372036854775807) (hn' : n' ≤ 9223372036854775807) :
    Calls Try.prog 16 #[.slice A n c, .slice A' n' c'] w fun e w' => e = .returned (.bool (decide (l = l'))) ∧ ∃ d, w' = w.drewN d := by
  have hl := h.1
  rw [bts_length, Nat.mul_one] at hl
  have hl' := h'.1
  rw [bts_length, Nat.mul_one] at hl'
  by_cases hne : n = n'
  · subst hne
    have hbeq : ((n : Int) != (n : Int)) = false := by simp
    have HL := hid hl
    have HL' := hid hl'
    clear hl hl'
    go_enter Try.func16, Try.ntmps16
    go_wp2_with fail
    go_loopg [5] n (fun k i wr => ∃ j : Nat, j ≤ n ∧ k = n - j ∧ i = .int .i64 j ∧ l.take j = l'.take j ∧ ∃ d, wr = w.drewN d)
    case atStart => exact ⟨0, by omega, rfl, rfl, by simp, 0, rfl⟩
    case round =>
      obtain ⟨j, hj, rfl, rfl, htk, d, rfl⟩ := hrel
      have HT := hid htk
      clear htk
      by_cases hlt : j < n
      · obtain ⟨b, off, x, rfl, hb, hx, hc⟩ := h.byte hlt
        obtain ⟨b', off', x', rfl, hb', hx', hc'⟩ := h'.byte hlt
        have HX := hid hx
        have HX' := hid hx'
        clear hx hx' h h'
        by_cases hxx : x = x'
        · subst hxx
          have ht : ((x.toNat : Int) != (x.toNat : Int)) = false := by simp
          go_wp2_with fail
          go_quiet (fail)
          go_wp2_with fail
          go_roundg (n - (j + 1))
          case measure => omega
          case rel => exact ⟨j + 1, by omega, rfl, by go_num, by rw [take_succ_get? HX.out, take_succ_get? HX'.out, HT.out], _, rfl⟩
        · have ht : ((x.toNat : Int) != (x'.toNat : Int)) = true := by
            simp only [bne_iff_ne, ne_eq]; intro he; exact hxx (UInt8.toNat_inj.1 (by omega))
          go_wp2_with fail
          go_quiet (fail)
          go_wp2_with fail
          go_ret
          refine ⟨?_, _, World.drewN_drewN _ _ _⟩
          have : l ≠ l' := by
            rintro rfl
            have h1 := HX.out
            rw [HX'.out] at h1
            exact hxx (Option.some.inj h1).symm
          simp [this]
      · obtain rfl : j = n := by omega
        go_wp2_with fail
        go_ret
        refine ⟨?_, _, rfl⟩
        have : l = l' := by
          have h1 := HT.out
          rwa [List.take_of_length_le (by have := HL.out; omega), List.take_of_length_le (by have := HL'.out; omega)] at h1
        simp [this]
  · have hbne : ((n : Int) != (n' : Int)) = true := by simp; omega
    have : decide (l = l') = false := by
      rw [decide_eq_false_iff_not]; rintro rfl; omega
    rw [this]
    clear this h h' hl hl'
    go_enter Try.func16, Try.ntmps16
    go_wp2_with fail
    go_ret
    exact ⟨rfl, 0, rfl⟩
set_option maxHeartbeats 400000 in
theorem kept_any (A A' : Option Addr) (n c n' c' : Nat) (l l' : List UInt8) (w : World) (h : Rd w w.heap.size 1 A n (bts l)) (h' : Rd w w.heap.size 1 A' n' (bts l')) (hn : n ≤ 9223372036854775807) (hn' : n' ≤ 140737488354000) :
    Calls Try.prog 20 #[.slice A n c, .slice A' n' c'] w fun e w' => e = .returned (.bool (decide (l = lent l'))) ∧ Below w.heap.size w w' := by
  go_enter Try.func20, Try.ntmps20
  go_wp2_with fail
  refine (lent_any A' n' c' l' w h' hn').mono ?_
  rintro e w1 ⟨v1, rfl, hown, hb⟩
  obtain ⟨A1, c1, rfl, h1, h2⟩ := owned_slice hown
  have hr := Rd.of_own hown
  have hlen : (lent l').length ≤ n' + 3 := by
    have hz := h'.1
    rw [bts_length, Nat.mul_one] at hz
    simp [lent, spare, hz]
  go_wp2_with fail
  refine (same_any _ _ _ _ _ _ _ _ l (lent l') w1 (h.below hb) hr hn (by omega)).mono ?_
  rintro e w2 ⟨rfl, d, rfl⟩
  go_wp2_with fail
  go_ret
  exact ⟨rfl, below_drewN hb d⟩
def flip (c : UInt8) : UInt8 := UInt8.ofNat (255 - c.toNat)
theorem flip_toNat (c : UInt8) : ((flip c).toNat : Int) = 255 - (c.toNat : Int) := by
  have := c.toNat_lt
  unfold flip
  rw [UInt8.toNat_ofNat_of_lt' (by simp only [UInt8.size]; omega)]
  omega

theorem xor_u8 (x : UInt8) : bits .xor .u8 IntKind.u8.max (x.toNat : Int) = ((flip x).toNat : Int) := by
  have h1 : ∀ a : Fin 256, bits .xor .u8 IntKind.u8.max ((a.val : Nat) : Int) = 255 - ((a.val : Nat) : Int) := by decide +kernel
  rw [flip_toNat]
  exact h1 ⟨x.toNat, x.toNat_lt⟩

theorem split_at {α : Type} {l : List α} {j : Nat} {x : α} (h : l[j]? = some x) : ∃ a b, l = a ++ x :: b ∧ a.length = j := by
  obtain ⟨hj, rfl⟩ := List.getElem?_eq_some_iff.1 h
  exact ⟨l.take j, l.drop (j + 1), by rw [← List.drop_eq_getElem_cons hj, List.take_append_drop], by simp; omega⟩

theorem set_step {α : Type} (f : α → α) {l : List α} {j : Nat} {x : α} (h : l[j]? = some x) : ((l.map f).take j ++ l.drop j).set j (f x) = (l.map f).take (j + 1) ++ l.drop (j + 1) := by
  obtain ⟨a, b, rfl, rfl⟩ := split_at h
  have e1 : List.take a.length (List.map f (a ++ x :: b)) = a.map f := by simp
  have e2 : List.take (a.length + 1) (List.map f (a ++ x :: b)) = a.map f ++ [f x] := by
    rw [List.map_append, List.map_cons, List.take_append, List.take_of_length_le (by simp)]; simp
  have e3 : List.drop (a.length + 1) (a ++ x :: b) = b := by rw [List.drop_append]; simp
  rw [e1, e2, e3, List.drop_left]
  simp

theorem bts_set (l : List UInt8) (j : Nat) (c : UInt8) : (bts l).set j (.int .u8 (c.toNat : Int)) = bts (l.set j c) := by simp [bts, List.map_set]

set_option maxHeartbeats 400000 in
set_option maxRecDepth 100000 in
theorem over_any (base g n cap : Nat) (l : List UInt8) (w : World) (h : w.ownsRow base 5 1 (.slice (some ⟨g, 0, none⟩) n cap) n (bts l)) :
    Calls Try.prog 38 #[.slice (some ⟨g, 0, none⟩) n cap] w fun e w' => e = .returned (.tuple #[]) ∧ w'.ownsRow base 5 1 (.slice (some ⟨g, 0, none⟩) n cap) n (bts (l.map flip)) ∧ w.grownBy w' (some g) := by
  have hl := h.1
  rw [bts_length, Nat.mul_one] at hl
  obtain ⟨hnc, hcm⟩ := owned_cap h
  have HL := hid hl
  unfold maxLen at hcm
  clear hl
  go_enter Try.func38, Try.ntmps38
  go_wp2_with fail
  go_loopg [3] n (fun k i wr => ∃ j : Nat, j ≤ n ∧ k = n - j ∧ i = .int .i64 j ∧ wr.ownsRow base 5 1 (.slice (some ⟨g, 0, none⟩) n cap) n (bts ((l.map flip).take j ++ l.drop j)) ∧ w.grownBy wr (some g))
  case atStart => exact ⟨0, by omega, rfl, rfl, by simpa using h, World.grownBy.refl _ _⟩
  case round =>
    obtain ⟨j, hj, rfl, rfl, hown, hg⟩ := hrel
    by_cases hlt : j < n
    · have hx : l[j]? = some (l[j]'(by have := HL.out; omega)) := List.getElem?_eq_getElem _
      obtain ⟨x, hxx⟩ : ∃ x, x = l[j]'(by have := HL.out; omega) := ⟨_, rfl⟩
      rw [← hxx] at hx
      have hc : wr.cell? ⟨g, j, none⟩ = some (.int .u8 (x.toNat : Int)) := by
        rw [hown.cellAt j (by omega)]
        have : ((l.map flip).take j ++ l.drop j)[j]? = some x := by
          rw [List.getElem?_append_right (by simp; omega), List.length_take, List.length_map, Nat.min_eq_left (by have := HL.out; omega), Nat.sub_self, List.getElem?_drop]
          simpa using hx
        simp only [bts, List.getElem?_map, this, Option.map_some]
      have hf := hown.frozenAt j
      have hst := fun u => hown.stored j u
      have HO := hid hown
      have HS := hid hst
      have HXX := hid hx
      have hx2 := x.toNat_lt
      clear hown hst hx hxx h
      have HXor := hid (xor_u8 x)
      go_wp2_with fail
      go_roundg (n - (j + 1))
      case measure => omega
      case rel =>
        rw [HXor.out]
        refine ⟨j + 1, by omega, rfl, by go_num, ?_, gb_trans hg (HS.out _).2⟩
        have := (HS.out (.int .u8 ((flip x).toNat : Int))).1
        rwa [bts_set, set_step flip HXX.out] at this
    · obtain rfl : j = n := by omega
      have hown' : wr.ownsRow base 5 1 (.slice (some ⟨g, 0, none⟩) j cap) j (bts (l.map flip)) := by
        have h1 : (l.map flip).take j ++ l.drop j = l.map flip := by
          rw [List.take_of_length_le (by simp; exact Nat.le_of_eq HL.out), List.drop_eq_nil_of_le (Nat.le_of_eq HL.out), List.append_nil]
        rwa [h1] at hown
      clear hown hlt h
      obtain ⟨w2, hw2⟩ : ∃ w2, w2 = wr := ⟨_, rfl⟩
      rw [← hw2] at hown' hg ⊢
      clear hw2
      have HO := hid hown'
      clear hown'
      go_wp2_with fail
      go_loopg [0] (cap - j) (fun k v wr => ∃ m : Nat, j + m ≤ cap ∧ k = cap - (j + m) ∧ v = .slice (some ⟨g, 0, none⟩) (j + m) cap ∧ wr.ownsRow base 5 1 (.slice (some ⟨g, 0, none⟩) (j + m) cap) (j + m) (bts (l.map flip ++ List.replicate m 99)) ∧ w.grownBy wr (some g))
      case atStart => exact ⟨0, by omega, rfl, rfl, by simpa using HO.out, hg⟩
      case round =>
        obtain ⟨m, hm, rfl, rfl, hown, hg⟩ := hrel
        by_cases hlt : j + m < cap
        · go_wp2_with (at_builtin; refine stop_ (fun Ps hPs => ?_))
          refine hPs ?_
          clear hPs Ps
          refine wpList_app1_fits T22 (.tmp 24) (.tmp 25) rfl rfl hown rfl rfl rfl (by simp [Value.oneCell']) (by omega) fun w1 hown1 hg1 => ?_
          have hg2 := gb_trans hg hg1
          clear hown hg hg1
          go_wp2_with fail
          go_roundg (cap - (j + (m + 1)))
          case measure => omega
          case rel => exact ⟨m + 1, by omega, rfl, by first | rfl | (rw [Nat.add_assoc]), by rw [List.replicate_succ', ← List.append_assoc, bts_append]; exact hown1, hg2⟩
        · have hpre := owned_prefix (n := j) hown (by omega)
          rw [Nat.mul_one, bts_take, List.take_left' (by simp; exact HL.out)] at hpre
          have HP := hid hpre
          clear hpre hown
          go_wp2_with fail
          go_end0
          exact ⟨rfl, HP.out, hg⟩

theorem owned_form0 {w : World} {base : Nat} {e : TypeId} {sz n : Nat} {v : Value} {xs : List Value} (h : w.ownsRow base e sz v n xs) : v = .slice none 0 0 ∧ n = 0 ∨ ∃ g cap, v = .slice (some ⟨g, 0, none⟩) n cap := by
  rcases h.2 with h0 | ⟨g, cap, cur, hv, _⟩
  · exact .inl h0
  · exact .inr ⟨g, cap, hv⟩

set_option maxHeartbeats 400000 in
set_option maxRecDepth 100000 in
theorem over_all (base n : Nat) (v : Value) (l : List UInt8) (w : World) (h : w.ownsRow base 5 1 v n (bts l)) :
    Calls Try.prog 38 #[v] w fun e w' => e = .returned (.tuple #[]) ∧ w'.ownsRow base 5 1 v n (bts (l.map flip)) ∧ w.grownBy w' v.ownBlock := by
  rcases owned_form0 h with ⟨rfl, rfl⟩ | ⟨g, cap, rfl⟩
  · have hl : l = [] := by have := h.1; rw [bts_length] at this; exact List.eq_nil_of_length_eq_zero (by omega)
    subst hl
    go_enter Try.func38, Try.ntmps38
    go_wp2_with fail
    refine wp_loop_once ?_
    go_wp2_with fail
    refine wp_loop_once ?_
    go_wp2_with fail
    go_end0
    exact ⟨rfl, World.ownsRow_nil _ _ _ _, World.grownBy.refl _ _⟩
  · exact over_any base g n cap l w h
end Go.Proofs.Ythihhmmpkbdmnaa
