/- Any page is checked and written as the document says: the walk. -/
import Derived.Test.YtcfopaphpjmopaaLv
import Derived.Test.YtcfopaphpjmopaaApart
import Derived.Test.YtcfopaphpjmopaaLaw1
namespace Go.Proofs.Ytcfopaphpjmopaa
open Go.RowKit Go.Lg
set_option linter.unusedVariables false
set_option linter.unusedSimpArgs false

def Wrote (r : List UInt8) (k : Int) (w : World) (e : Ending) (w' : World) : Prop := ∃ v, e = .returned (.tuple #[v, .int .i64 k]) ∧ w'.ownsRow w.heap.size 5 1 v r.length (bts r) ∧ Below w.heap.size w w'
def bytesOf (p : Pg) : List UInt8 := if Ok p then encP p else []
theorem wrote14 (p : Pg) (w : World) : Calls Try.prog 14 #[p.v] w (Wrote (bytesOf p) (err p) w) := by
  by_cases h : Ok p
  · refine (encode14_ok h w).mono ?_
    rintro e w' ⟨v, rfl, ho, hb⟩
    exact ⟨v, by rw [err, if_pos h], by rw [bytesOf, if_pos h]; exact ho, hb⟩
  · refine (encode14_no h w).mono ?_
    rintro e w' ⟨rfl, hb⟩
    exact ⟨.slice none 0 0, by rw [err, if_neg h], by rw [bytesOf, if_neg h]; exact World.ownsRow_nil w' w.heap.size 5 1, hb⟩
theorem wrote15 (p : Pg) (w : World) : Calls Try.prog 15 #[p.v] w (Wrote (bytesOf p) (err p) w) := by
  by_cases h : Ok p
  · refine (encode15_ok h w).mono ?_
    rintro e w' ⟨v, rfl, ho, hb⟩
    exact ⟨v, by rw [err, if_pos h], by rw [bytesOf, if_pos h]; exact ho, hb⟩
  · refine (encode15_no h w).mono ?_
    rintro e w' ⟨rfl, hb⟩
    exact ⟨.slice none 0 0, by rw [err, if_neg h], by rw [bytesOf, if_neg h]; exact World.ownsRow_nil w' w.heap.size 5 1, hb⟩
theorem bytesOf_le (p : Pg) : (bytesOf p).length ≤ 60 := by
  unfold bytesOf
  split
  · exact Nat.le_trans (encN_le _) (by simp [nums])
  · simp
theorem drewN_below {w w' : World} {d : Nat} (h : w' = w.drewN d) : Below w.heap.size w w' := by
  subst h
  exact below_drewN (Below.refl _ _) d
theorem pairs2 {a b : Value} {R : Value → Value → Prop} (h1 : R a b) : [a, b].Pairwise R := by simp [h1]
theorem rows2 {Q : Value → List UInt8 → Prop} {a b : Value} {la lb : List UInt8} (h1 : Q a la) (h2 : Q b lb) :
    ∀ (i : Nat) v l, [a, b][i]? = some v → [la, lb][i]? = some l → Q v l := by
  intro i v l hv hl
  match i, hv, hl with
  | 0, hv, hl => simp at hv hl; subst hv hl; exact h1
  | 1, hv, hl => simp at hv hl; subst hv hl; exact h2
  | i + 2, hv, _ => simp at hv
theorem outne2 {V : World} {B n n' : Nat} {a b : Value} {xs ys : List Value} (h1 : V.ownsRow B 5 1 a n xs) (h2 : V.ownsRow B 5 1 b n' ys) : ∀ (q off : Nat), (some ⟨V.heap.size, 0, none⟩ : Option Addr) = some ⟨q, off, none⟩ → ∀ v, v ∈ [a, b] → v.ownBlock ≠ some q := by
  intro q off hq v hv hv2
  simp at hq hv
  rcases hv with rfl | rfl
  · have := (h1.lt q hv2).2; omega
  · have := (h2.lt q hv2).2; omega
theorem apart2 {V : World} {B m : Nat} {a b : Value} {r : List UInt8} (h1 : V.ownsRow B 5 1 a m (bts r)) (h2 : V.ownsRow B 5 1 b m (bts r)) (hm : r.length = m) (h60 : m ≤ 60) (hB : B ≤ V.heap.size) (hp : ∀ g, a.ownBlock = some g → b.ownBlock ≠ some g) :
    Calls Try.prog 19 #[.slice (some ⟨V.heap.size, 0, none⟩) 2 2] (V.alloc (.cells #[a, b] 31)) fun e w' => e = .returned (.bool true) ∧ Below B V w' := by
  have hp2 : ∀ g, b.ownBlock = some g → a.ownBlock ≠ some g := fun g hg hg' => hp g hg' hg
  refine (apart_any B 2 2 _ [a, b] [r, r] _ (Rd.lit0 (sz := 1) V _ 31 2 rfl) (by omega) rfl ?_ (rows2 (by rw [hm]; exact h1.alloc _) (by rw [hm]; exact h2.alloc _)) (apart_of_pairs (pairs2 hp)) (outne2 h1 h2) (by simp; omega)).mono ?_
  · intro l hl
    simp at hl
    subst hl
    omega
  · rintro e w' ⟨rfl, hb⟩
    exact ⟨rfl, ((Below.refl B V).alloc hB _).trans hb⟩
set_option maxHeartbeats 16000000 in
set_option maxRecDepth 100000 in
theorem calls4 (p : Pg) (nd : Int) (w : World) : Calls Try.prog 4 #[p.v, .int .i64 nd] w (Yes w) := by
  obtain ⟨g, hg⟩ : ∃ g, firstP nd = g := ⟨_, rfl⟩
  have h8 := first8 nd
  have h13 := first13 nd
  rw [hg] at h8 h13
  clear hg
  obtain ⟨⟨f1, f2, f3, f4, f5, f6⟩, kf⟩ := g
  have h14 := wrote14 p
  have h14b := wrote14 p
  have h15 := wrote15 p
  have h16 := check18 p
  have h17 := check37 p
  have HR := hid (bytesOf_le p)
  obtain ⟨r, hr⟩ : ∃ r, bytesOf p = r := ⟨_, rfl⟩
  obtain ⟨k, hk⟩ : ∃ k, err p = k := ⟨_, rfl⟩
  rw [hr] at h14 h14b h15 HR
  rw [hk] at h14 h14b h15 h16 h17
  clear hr hk
  obtain ⟨a1, a2, a3, a4, a5, a6⟩ := p
  have hs := same12_yes ⟨f1, f2, f3, f4, f5, f6⟩
  have hl := lives12
  go_enter Try.func4, Try.ntmps4
  go_wp2_with (go_at_call 8; refine stop_ (fun Ps hPs => ?_))
  refine hPs ?_
  clear hPs Ps
  have kp := Blk.new w 25 #[.int .i64 a1, .int .u8 a2, .int .i64 a3, .int .u8 a4, .int .i64 a5, .int .i64 a6]
  have hb := (Below.refl w.heap.size w).alloc (Nat.le_refl _) (.cells #[.int .i64 a1, .int .u8 a2, .int .i64 a3, .int .u8 a4, .int .i64 a5, .int .i64 a6] 25)
  have lep := Nat.le_refl w.heap.size
  generalize hW : World.alloc w _ = w1 at *
  clear hW
  refine (h8 _).mono ?_
  clear h8
  rintro e w2 ⟨rfl, hbn⟩
  have kp := kp.later hbn
  have hb := bl_trans hb hbn hb.size
  clear hbn
  go_wp2_with (go_at_call 13; refine stop_ (fun Ps hPs => ?_))
  refine hPs ?_
  clear hPs Ps
  have ka := Blk.new w2 25 #[.int .i64 f1, .int .u8 f2, .int .i64 f3, .int .u8 f4, .int .i64 f5, .int .i64 f6]
  have npa : w.heap.size ≠ w2.heap.size := Nat.ne_of_lt kp.lt
  have kp := kp.alloc (.cells #[.int .i64 f1, .int .u8 f2, .int .i64 f3, .int .u8 f4, .int .i64 f5, .int .i64 f6] 25)
  have lea := hb.size
  have hb := hb.alloc hb.size (.cells #[.int .i64 f1, .int .u8 f2, .int .i64 f3, .int .u8 f4, .int .i64 f5, .int .i64 f6] 25)
  generalize hBa : w2.heap.size = ba at *
  clear hBa
  generalize hW : World.alloc w2 _ = w3 at *
  clear hW
  refine (h13 _).mono ?_
  clear h13
  rintro e w4 ⟨rfl, hbn⟩
  have kp := kp.later hbn
  have ka := ka.later hbn
  have hb := bl_trans hb hbn hb.size
  clear hbn
  have jp := kp.alloc (.cells #[.int .i64 f1, .int .u8 f2, .int .i64 f3, .int .u8 f4, .int .i64 f5, .int .i64 f6] 25)
  obtain ⟨⟨pc0, pc1, pc2, pc3, pc4, pc5⟩, pf0, pf1, pf2, pf3, pf4, pf5⟩ := page_cells jp
  clear jp
  go_wp2_with (go_at_call 14; refine stop_ (fun Ps hPs => ?_))
  refine hPs ?_
  clear hPs Ps
  clear pc0 pf0 pc1 pf1 pc2 pf2 pc3 pf3 pc4 pf4 pc5 pf5
  have kb := Blk.new w4 25 #[.int .i64 f1, .int .u8 f2, .int .i64 f3, .int .u8 f4, .int .i64 f5, .int .i64 f6]
  have npb : w.heap.size ≠ w4.heap.size := Nat.ne_of_lt kp.lt
  have kp := kp.alloc (.cells #[.int .i64 f1, .int .u8 f2, .int .i64 f3, .int .u8 f4, .int .i64 f5, .int .i64 f6] 25)
  have nab : ba ≠ w4.heap.size := Nat.ne_of_lt ka.lt
  have ka := ka.alloc (.cells #[.int .i64 f1, .int .u8 f2, .int .i64 f3, .int .u8 f4, .int .i64 f5, .int .i64 f6] 25)
  have leb := hb.size
  have hb := hb.alloc hb.size (.cells #[.int .i64 f1, .int .u8 f2, .int .i64 f3, .int .u8 f4, .int .i64 f5, .int .i64 f6] 25)
  generalize hBb : w4.heap.size = bb at *
  clear hBb
  generalize hW : World.alloc w4 _ = w5 at *
  clear hW
  obtain ⟨B4, hB4⟩ : ∃ B, B = w5.heap.size := ⟨_, rfl⟩
  have lp4 : w.heap.size < B4 := by rw [hB4]; exact kp.lt
  have la4 : ba < B4 := by rw [hB4]; exact ka.lt
  have lb4 : bb < B4 := by rw [hB4]; exact kb.lt
  refine (h14 _).mono ?_
  clear h14
  rintro e w6 ⟨v1, rfl, ho1, hbn⟩
  have kp := kp.later hbn
  have ka := ka.later hbn
  have kb := kb.later hbn
  have hs1 := hbn.size
  have hb := bl_trans hb hbn hb.size
  clear hbn
  obtain ⟨⟨pc0, pc1, pc2, pc3, pc4, pc5⟩, pf0, pf1, pf2, pf3, pf4, pf5⟩ := page_cells kp
  rw [← hB4] at ho1 hs1
  clear hB4
  obtain ⟨wm1, hm1⟩ : ∃ m, m = w6.heap.size := ⟨_, rfl⟩
  have hlt1 : ∀ g, v1.ownBlock = some g → g < wm1 := by intro g hg; rw [hm1]; exact (ho1.lt g hg).2
  have hm1' : wm1 ≤ w6.heap.size := by omega
  go_wp2_with (go_at_call 14; refine stop_ (fun Ps hPs => ?_))
  refine hPs ?_
  clear hPs Ps
  clear pc0 pf0 pc1 pf1 pc2 pf2 pc3 pf3 pc4 pf4 pc5 pf5
  refine (h14b _).mono ?_
  clear h14b
  rintro e w7 ⟨v2, rfl, ho2, hbn⟩
  have kp := kp.later hbn
  have ka := ka.later hbn
  have kb := kb.later hbn
  have ho1 := owned_later ho1 hbn
  have hs2 := hbn.size
  have hb := bl_trans hb hbn hb.size
  clear hbn
  obtain ⟨⟨pc0, pc1, pc2, pc3, pc4, pc5⟩, pf0, pf1, pf2, pf3, pf4, pf5⟩ := page_cells kp
  have hge2 : ∀ g, v2.ownBlock = some g → wm1 ≤ g := by intro g hg; have := (ho2.lt g hg).1; omega
  have ho2 := owned_less ho2 (show B4 ≤ _ by omega)
  go_wp2_with (go_at_call 15; refine stop_ (fun Ps hPs => ?_))
  refine hPs ?_
  clear hPs Ps
  clear pc0 pf0 pc1 pf1 pc2 pf2 pc3 pf3 pc4 pf4 pc5 pf5
  refine (h15 _).mono ?_
  clear h15
  rintro e w8 ⟨v3, rfl, ho3, hbn⟩
  have kp := kp.later hbn
  have ka := ka.later hbn
  have kb := kb.later hbn
  have ho1 := owned_later ho1 hbn
  have ho2 := owned_later ho2 hbn
  have hs3 := hbn.size
  have hb := bl_trans hb hbn hb.size
  clear hbn
  have HP : Hid (∀ g, v1.ownBlock = some g → v2.ownBlock ≠ some g) := hid (fun g hg hg2 => by have := hlt1 g hg; have := hge2 g hg2; omega)
  have hB3 := hs3
  clear hlt1 hge2 hm1
  obtain ⟨A1, c1, rfl, q1, q2⟩ := owned_slice ho1
  obtain ⟨A2, c2, rfl, q3, q4⟩ := owned_slice ho2
  obtain ⟨A3, c3, rfl, q5, q6⟩ := owned_slice ho3
  obtain ⟨m, hm⟩ : ∃ m, r.length = m := ⟨_, rfl⟩
  rw [hm] at ho1 ho2 ho3 HR HP ⊢
  have hr60 := HR.out
  have HM60 := hid hr60
  have hmz : m ≤ 9223372036854775807 := by omega
  have hmr := hid hm
  clear hm
  go_wp2_with fail
  obtain ⟨⟨pc0, pc1, pc2, pc3, pc4, pc5⟩, pf0, pf1, pf2, pf3, pf4, pf5⟩ := page_cells kp
  obtain ⟨⟨ac0, ac1, ac2, ac3, ac4, ac5⟩, af0, af1, af2, af3, af4, af5⟩ := page_cells ka
  obtain ⟨⟨bc0, bc1, bc2, bc3, bc4, bc5⟩, bf0, bf1, bf2, bf3, bf4, bf5⟩ := page_cells kb
  have hB : B4 ≤ w8.heap.size := by omega
  go_region_held3 (fun w' => (w'.cell? ⟨w.heap.size, 0, none⟩ = some (Value.int .i64 a1) ∧ w'.cell? ⟨w.heap.size, 1, none⟩ = some (Value.int .u8 a2) ∧ w'.cell? ⟨w.heap.size, 2, none⟩ = some (Value.int .i64 a3) ∧ w'.cell? ⟨w.heap.size, 3, none⟩ = some (Value.int .u8 a4) ∧ w'.cell? ⟨w.heap.size, 4, none⟩ = some (Value.int .i64 a5) ∧ w'.cell? ⟨w.heap.size, 5, none⟩ = some (Value.int .i64 a6)) ∧ (w'.cell? ⟨ba, 0, none⟩ = some (Value.int .i64 f1) ∧ w'.cell? ⟨ba, 1, none⟩ = some (Value.int .u8 f2) ∧ w'.cell? ⟨ba, 2, none⟩ = some (Value.int .i64 f3) ∧ w'.cell? ⟨ba, 3, none⟩ = some (Value.int .u8 f4) ∧ w'.cell? ⟨ba, 4, none⟩ = some (Value.int .i64 f5) ∧ w'.cell? ⟨ba, 5, none⟩ = some (Value.int .i64 f6)) ∧ (w'.cell? ⟨bb, 0, none⟩ = some (Value.int .i64 f1) ∧ w'.cell? ⟨bb, 1, none⟩ = some (Value.int .u8 f2) ∧ w'.cell? ⟨bb, 2, none⟩ = some (Value.int .i64 f3) ∧ w'.cell? ⟨bb, 3, none⟩ = some (Value.int .u8 f4) ∧ w'.cell? ⟨bb, 4, none⟩ = some (Value.int .i64 f5) ∧ w'.cell? ⟨bb, 5, none⟩ = some (Value.int .i64 f6))) (first | (with_reducible exact ⟨⟨pc0, pc1, pc2, pc3, pc4, pc5⟩, ⟨ac0, ac1, ac2, ac3, ac4, ac5⟩, ⟨bc0, bc1, bc2, bc3, bc4, bc5⟩⟩) | (with_reducible exact ⟨(page_cells (kp.alloc _)).1, (page_cells (ka.alloc _)).1, (page_cells (kb.alloc _)).1⟩) | exact ⟨⟨pc0, pc1, pc2, pc3, pc4, pc5⟩, ⟨ac0, ac1, ac2, ac3, ac4, ac5⟩, ⟨bc0, bc1, bc2, bc3, bc4, bc5⟩⟩)
    (first
      | (go_at_call 12; refine (hl _).mono ?_; rintro e v9 ⟨rfl, hq0⟩; have hq1 := below_src hq0; have kp := kp.later hq1; obtain ⟨⟨pc0, pc1, pc2, pc3, pc4, pc5⟩, _⟩ := page_cells kp; have ka := ka.later hq1; obtain ⟨⟨ac0, ac1, ac2, ac3, ac4, ac5⟩, _⟩ := page_cells ka; have kb := kb.later hq1; obtain ⟨⟨bc0, bc1, bc2, bc3, bc4, bc5⟩, _⟩ := page_cells kb; have ho1 := owned_later ho1 hq1; have ho2 := owned_later ho2 hq1; have ho3 := owned_later ho3 hq1; have hb := bl_trans hb hq1 hb.size; have hB := Nat.le_trans hB hq1.size)
      | (go_at_call 16; refine (h16 _).mono ?_; rintro e v9 ⟨rfl, hq1⟩; have kp := kp.later hq1; obtain ⟨⟨pc0, pc1, pc2, pc3, pc4, pc5⟩, _⟩ := page_cells kp; have ka := ka.later hq1; obtain ⟨⟨ac0, ac1, ac2, ac3, ac4, ac5⟩, _⟩ := page_cells ka; have kb := kb.later hq1; obtain ⟨⟨bc0, bc1, bc2, bc3, bc4, bc5⟩, _⟩ := page_cells kb; have ho1 := owned_later ho1 hq1; have ho2 := owned_later ho2 hq1; have ho3 := owned_later ho3 hq1; have hb := bl_trans hb hq1 hb.size; have hB := Nat.le_trans hB hq1.size)
      | (go_at_call 17; refine (h17 _).mono ?_; rintro e v9 ⟨rfl, hq1⟩; have kp := kp.later hq1; obtain ⟨⟨pc0, pc1, pc2, pc3, pc4, pc5⟩, _⟩ := page_cells kp; have ka := ka.later hq1; obtain ⟨⟨ac0, ac1, ac2, ac3, ac4, ac5⟩, _⟩ := page_cells ka; have kb := kb.later hq1; obtain ⟨⟨bc0, bc1, bc2, bc3, bc4, bc5⟩, _⟩ := page_cells kb; have ho1 := owned_later ho1 hq1; have ho2 := owned_later ho2 hq1; have ho3 := owned_later ho3 hq1; have hb := bl_trans hb hq1 hb.size; have hB := Nat.le_trans hB hq1.size)
      | (go_at_call 9; refine (hs _).mono ?_; rintro e v9 ⟨rfl, hq1⟩; have kp := kp.later hq1; obtain ⟨⟨pc0, pc1, pc2, pc3, pc4, pc5⟩, _⟩ := page_cells kp; have ka := ka.later hq1; obtain ⟨⟨ac0, ac1, ac2, ac3, ac4, ac5⟩, _⟩ := page_cells ka; have kb := kb.later hq1; obtain ⟨⟨bc0, bc1, bc2, bc3, bc4, bc5⟩, _⟩ := page_cells kb; have ho1 := owned_later ho1 hq1; have ho2 := owned_later ho2 hq1; have ho3 := owned_later ho3 hq1; have hb := bl_trans hb hq1 hb.size; have hB := Nat.le_trans hB hq1.size)
      | (go_at_call 18; refine (same_self A1 A3 m c1 m c3 _ _ r _ (Rd.of_own ho1) (Rd.of_own ho3) hmz hmz).mono ?_; rintro e v9 ⟨rfl, d, hd⟩; have hq1 := drewN_below hd; clear hd; have kp := kp.later hq1; obtain ⟨⟨pc0, pc1, pc2, pc3, pc4, pc5⟩, _⟩ := page_cells kp; have ka := ka.later hq1; obtain ⟨⟨ac0, ac1, ac2, ac3, ac4, ac5⟩, _⟩ := page_cells ka; have kb := kb.later hq1; obtain ⟨⟨bc0, bc1, bc2, bc3, bc4, bc5⟩, _⟩ := page_cells kb; have ho1 := owned_later ho1 hq1; have ho2 := owned_later ho2 hq1; have ho3 := owned_later ho3 hq1; have hb := bl_trans hb hq1 hb.size; have hB := Nat.le_trans hB hq1.size)
      | (go_at_call 19; refine (apart2 ho1 ho2 hmr.out HM60.out hB HP.out).mono ?_; rintro e v9 ⟨rfl, hq1⟩; have kp := kp.below hq1 lp4; have ka := ka.below hq1 la4; have kb := kb.below hq1 lb4; obtain ⟨⟨pc0, pc1, pc2, pc3, pc4, pc5⟩, _⟩ := page_cells kp; obtain ⟨⟨ac0, ac1, ac2, ac3, ac4, ac5⟩, _⟩ := page_cells ka; obtain ⟨⟨bc0, bc1, bc2, bc3, bc4, bc5⟩, _⟩ := page_cells kb; have hb := hb.trans (hq1.mono (Nat.le_of_lt lp4))))
  all_goals
    go_wp2_with fail
    go_ret
    exact ⟨rfl, hb⟩
end Go.Proofs.Ytcfopaphpjmopaa
