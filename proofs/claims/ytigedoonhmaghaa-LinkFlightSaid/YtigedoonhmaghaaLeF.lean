/- Links: Send, of the program and of the document. -/
import Derived.Test.YtigedoonhmaghaaLdF
namespace Go.Proofs.Ytigedoonhmaghaa
open Go.RowKit Go.Lg
variable {F : Nat}
set_option linter.unusedVariables false
set_option linter.unusedSimpArgs false
attribute [local go_sem ↓] Go.wp_at_zero Go.wp_at_succ

/-! ### What Send does -/
def sE (to : Int) (ks : List Key) : Int := if to ≠ 0 ∧ to ≠ 1 then 2 else if ks.length < 512 then 0 else 3
def sR (last to : Int) (ks : List Key) : Int := if sE to ks = 0 then last + 1 else 0
def sL (last to : Int) (ks : List Key) : Int := if sE to ks = 0 then last + 1 else last
def sK (last to : Int) (b : List UInt8) (ks : List Key) : List Key := if sE to ks = 0 then ks ++ [(last + 1, to, b)] else ks
def Sends (F : Nat) (rf : Bool) (B z : Nat) (sv : Value) (last to : Int) (b : List UInt8) (ks : List Key) (w : World) (e : Ending) (w' : World) : Prop := Send F rf B z sv (sR last to ks) (sE to ks) (sL last to ks) (sK last to b ks) w e w'
section
variable {rf : Bool} {B z : Nat} {sv : Value} {last to r e : Int} {b : List UInt8} {ks : List Key} {w w' : World} {en : Ending}
theorem sends_bad (h : to ≠ 0 ∧ to ≠ 1) (k : Send F rf B z sv 0 2 last ks w en w') : Sends F rf B z sv last to b ks w en w' := by
  simp only [Sends, sR, sL, sK, sE, if_pos h]
  exact k
theorem sends_long (h : to = 0 ∨ to = 1) (h2 : ¬ ks.length < 512) (k : Send F rf B z sv 0 3 last ks w en w') : Sends F rf B z sv last to b ks w en w' := by
  have h' : ¬(to ≠ 0 ∧ to ≠ 1) := by omega
  simp only [Sends, sR, sL, sK, sE, if_neg h', if_neg h2]
  exact k
theorem sends_ok (h : to = 0 ∨ to = 1) (h2 : ks.length < 512) (k : Send F rf B z sv (last + 1) 0 (last + 1) (ks ++ [(last + 1, to, b)]) w en w') : Sends F rf B z sv last to b ks w en w' := by
  have h' : ¬(to ≠ 0 ∧ to ≠ 1) := by omega
  simp only [Sends, sR, sL, sK, sE, if_neg h', if_pos h2]
  exact k
end
set_option maxHeartbeats 2000000 in
set_option maxRecDepth 100000 in
theorem send10 {B z : Nat} {last : Int} {sv : Value} {ls : List Lt} {w : World} (h : LX F false w B z last sv ls) (h0 : 0 ≤ last) (h1 : last ≤ 4611686018427387904)
    (to : Int) (A : Option Addr) (n c : Nat) (b : List UInt8) (hr : Rd w w.heap.size 1 A n (bts b)) (h40 : b.length ≤ 40) :
    Calls Try.prog 10 #[P z, .int .i64 to, .slice A n c] w (Sends F false B z sv last to b (ls.map Lt.k) w) := by
  have hn := none27 h
  have HN := hid hn
  have HS := hid (Left.same h (Below.refl _ _))
  clear hn
  by_cases ht : to = 0 ∨ to = 1
  · have hp : Calls Try.prog 28 #[P z, .int .i64 to, .slice A n c] w (Sends F false B z sv last to b (ls.map Lt.k) w) := by
      by_cases hlt : ls.length < 512
      · exact (put28_ok h hlt h0 h1 to ht A n c b hr h40).mono fun e w' k => sends_ok ht (by simpa using hlt) k
      · exact (put28_long h hlt to A n c).mono fun e w' k => sends_long ht (by simpa using hlt) k
    have HP := hid hp
    have q0 : (to != 0 && to != 1) = false := by rcases ht with rfl | rfl <;> rfl
    clear h hp hr h40
    rcases ht with rfl | rfl
    all_goals
      go_enter Try.func10, Try.ntmps10
      go_wp2_with (go_at_call 27; refine HN.out.mono ?_; rintro e w1 ⟨rfl, rfl⟩)
      refine HP.out.mono ?_
      rintro e w2 ⟨rfl, hl⟩
      have HL := hid hl
      clear hl
      simp only [two]
      go_wp2_with fail
      refine bodyPost_ret (results_tmp2 rfl _ _ _) rfl ?_
      exact ⟨rfl, HL.out⟩
  · have hb : to ≠ 0 ∧ to ≠ 1 := by omega
    have q0 : (to != 0) = true := by simpa using hb.1
    have q1 : (to != 1) = true := by simpa using hb.2
    have HB := hid hb
    clear h hr h40 hb ht
    go_enter Try.func10, Try.ntmps10
    go_wp2_with (go_at_call 27; refine HN.out.mono ?_; rintro e w1 ⟨rfl, rfl⟩)
    refine bodyPost_ret (results_tmp2 rfl _ _ _) rfl ?_
    exact sends_bad HB.out (send_eq rfl HS.out)
set_option maxHeartbeats 4000000 in
set_option maxRecDepth 100000 in
theorem ref33_ok {B z : Nat} {last : Int} {sv : Value} {ls : List Lt} {w : World} (h : LX F true w B z last sv ls) (hlt : ls.length < 512) (h0 : 0 ≤ last) (h1 : last ≤ 4611686018427387904)
    (to : Int) (ht : to = 0 ∨ to = 1) (A : Option Addr) (n c : Nat) (b : List UInt8) (hr : Rd w w.heap.size 1 A n (bts b)) (h40 : b.length ≤ 40) :
    Calls Try.prog 33 #[P z, .int .i64 to, .slice A n c] w (Send F true B z sv (last + 1) 0 (last + 1) (ls.map Lt.k ++ [(last + 1, to, b)]) w) := by
  have hnb : n = b.length := by have := hr.1; rw [bts_length] at this; omega
  obtain ⟨As, cs, rfl, hc1, hc2⟩ := owned_slice h.own
  have kz : Blk w z 63 #[.bool true, .slice As ls.length cs, .int .i64 last] := h.blk
  have z1 : w.cell? ⟨z, 2, none⟩ = some (.int .i64 last) := kz.cell 2
  have z2 : w.cell? ⟨z, 1, none⟩ = some (.slice As ls.length cs) := kz.cell 1
  have f1 := kz.frozen 2
  have hrW := rd_setN h hr (i := 2) (.int .i64 (last + 1))
  have hNW : LX F true (w.setCell ⟨z, 2, none⟩ (.int .i64 (last + 1))) B z (last + 1) (.slice As ls.length cs) ls ∧ w.grownBy (w.setCell ⟨z, 2, none⟩ (.int .i64 (last + 1))) (some z) := h.setN (last + 1)
  obtain ⟨W, hW⟩ : ∃ W, W = w.setCell ⟨z, 2, none⟩ (.int .i64 (last + 1)) := ⟨_, rfl⟩
  rw [← hW] at hrW hNW
  have kW : Blk W z 63 #[.bool true, .slice As ls.length cs, .int .i64 (last + 1)] := hNW.1.blk
  have y1 : W.cell? ⟨z, 2, none⟩ = some (.int .i64 (last + 1)) := kW.cell 2
  have y2 : W.cell? ⟨z, 1, none⟩ = some (.slice As ls.length cs) := kW.cell 1
  have q5 : (ls.length : Int) < 512 := by omega
  have H0 := hid hNW
  have HA := hid (own40 A n c b W.drew hrW.drew (by omega))
  have HL := hid (And.intro hlt h40)
  have hn := none39 h
  have HN := hid hn
  clear hn
  clear h hr hrW hNW kz kW hlt h40 hnb
  rcases ht with rfl | rfl
  · go_enter Try.func33, Try.ntmps33
    go_wp2_with (go_at_call 39; refine HN.out.mono ?_; rintro e w1 ⟨rfl, rfl⟩)
    rw [← hW]
    clear hW z1 z2 f1
    go_region_law (first
      | (go_simp; (with_reducible refine HA.out.mono ?_); rintro e2 w2 ⟨v2, rfl, ho2, hb2⟩; obtain ⟨A2, c2, rfl, g2, g3⟩ := owned_slice ho2; have hq2 := below_src hb2; have kz2 := H0.out.1.blk.later hq2; have x1 : w2.cell? ⟨z, 2, none⟩ = some (.int .i64 (last + 1)) := kz2.cell 2; have x2 : w2.cell? ⟨z, 1, none⟩ = some (.slice As ls.length cs) := kz2.cell 1; have zl := kz2.lt; have x2a : (w2.alloc (.cells #[.int .i64 (last + 1), .int .i64 0, .slice A2 b.length c2] 31)).cell? ⟨z, 1, none⟩ = some (.slice As ls.length cs) := (World.cell?_alloc_lt w2 _ _ zl).trans x2)
      | (refine step_app T37 (.tmp 36) (.tmp 45) rfl rfl ((H0.out.1.later hq2).own.alloc _) rfl (Rd.lit w2 #[.int .i64 (last + 1), .int .i64 0, .slice A2 b.length c2] 31 (0, 0) 1 rfl) rfl (by simp [Value.oneCell']) (by have := HL.out.1; omega) (by have := (H0.out.1.later hq2).leB; simp; omega) ?_; intro v3 w3 hv3 hg3 hat3; obtain ⟨A3, c3, rfl, hd1, hd2⟩ := owned_slice hv3; have kz3 : Blk w3 z 63 #[.bool true, .slice As ls.length cs, .int .i64 (last + 1)] := Blk.gb (((H0.out.1.later hq2).blk).alloc _) hg3 (fun e => H0.out.1.ne z e.symm rfl); have z1 : w3.cell? ⟨z, 2, none⟩ = some (.int .i64 (last + 1)) := kz3.cell 2; have z3 : w3.cell? ⟨z, 1, none⟩ = some (.slice As ls.length cs) := kz3.cell 1; have f3 := kz3.frozen 1))
    all_goals
      have HP := hid (put_done H0.out HL.out (by first | exact .inl rfl | exact .inr rfl) ho2 hq2 hv3 hg3 hat3)
      clear ho2 hv3 hg3 hat3 hb2 hq2 kz2 kz3
      go_wp2_with fail
      refine bodyPost_ret (results_tmp2 rfl _ _ _) rfl ?_
      exact send_eq rfl HP.out
  · go_enter Try.func33, Try.ntmps33
    go_wp2_with (go_at_call 39; refine HN.out.mono ?_; rintro e w1 ⟨rfl, rfl⟩)
    rw [← hW]
    clear hW z1 z2 f1
    go_region_law (first
      | (go_simp; (with_reducible refine HA.out.mono ?_); rintro e2 w2 ⟨v2, rfl, ho2, hb2⟩; obtain ⟨A2, c2, rfl, g2, g3⟩ := owned_slice ho2; have hq2 := below_src hb2; have kz2 := H0.out.1.blk.later hq2; have x1 : w2.cell? ⟨z, 2, none⟩ = some (.int .i64 (last + 1)) := kz2.cell 2; have x2 : w2.cell? ⟨z, 1, none⟩ = some (.slice As ls.length cs) := kz2.cell 1; have zl := kz2.lt; have x2a : (w2.alloc (.cells #[.int .i64 (last + 1), .int .i64 1, .slice A2 b.length c2] 31)).cell? ⟨z, 1, none⟩ = some (.slice As ls.length cs) := (World.cell?_alloc_lt w2 _ _ zl).trans x2)
      | (refine step_app T37 (.tmp 36) (.tmp 45) rfl rfl ((H0.out.1.later hq2).own.alloc _) rfl (Rd.lit w2 #[.int .i64 (last + 1), .int .i64 1, .slice A2 b.length c2] 31 (0, 0) 1 rfl) rfl (by simp [Value.oneCell']) (by have := HL.out.1; omega) (by have := (H0.out.1.later hq2).leB; simp; omega) ?_; intro v3 w3 hv3 hg3 hat3; obtain ⟨A3, c3, rfl, hd1, hd2⟩ := owned_slice hv3; have kz3 : Blk w3 z 63 #[.bool true, .slice As ls.length cs, .int .i64 (last + 1)] := Blk.gb (((H0.out.1.later hq2).blk).alloc _) hg3 (fun e => H0.out.1.ne z e.symm rfl); have z1 : w3.cell? ⟨z, 2, none⟩ = some (.int .i64 (last + 1)) := kz3.cell 2; have z3 : w3.cell? ⟨z, 1, none⟩ = some (.slice As ls.length cs) := kz3.cell 1; have f3 := kz3.frozen 1))
    all_goals
      have HP := hid (put_done H0.out HL.out (by first | exact .inl rfl | exact .inr rfl) ho2 hq2 hv3 hg3 hat3)
      clear ho2 hv3 hg3 hat3 hb2 hq2 kz2 kz3
      go_wp2_with fail
      refine bodyPost_ret (results_tmp2 rfl _ _ _) rfl ?_
      exact send_eq rfl HP.out
set_option maxHeartbeats 2000000 in
set_option maxRecDepth 100000 in
theorem send33 {B z : Nat} {last : Int} {sv : Value} {ls : List Lt} {w : World} (h : LX F true w B z last sv ls) (h0 : 0 ≤ last) (h1 : last ≤ 4611686018427387904)
    (to : Int) (A : Option Addr) (n c : Nat) (b : List UInt8) (hr : Rd w w.heap.size 1 A n (bts b)) (h40 : b.length ≤ 40) :
    Calls Try.prog 33 #[P z, .int .i64 to, .slice A n c] w (Sends F true B z sv last to b (ls.map Lt.k) w) := by
  have HN := hid (none39 h)
  have HS := hid (Left.same h (Below.refl _ _))
  by_cases ht : to = 0 ∨ to = 1
  · by_cases hlt : ls.length < 512
    · exact (ref33_ok h hlt h0 h1 to ht A n c b hr h40).mono fun e w' k => sends_ok ht (by simpa using hlt) k
    · obtain ⟨As, cs, rfl, hc1, hc2⟩ := owned_slice h.own
      have kz : Blk w z 63 #[.bool true, .slice As ls.length cs, .int .i64 last] := h.blk
      have z2 : w.cell? ⟨z, 1, none⟩ = some (.slice As ls.length cs) := kz.cell 1
      have q5 : (512 : Int) ≤ (ls.length : Int) := by omega
      have HX := hid (And.intro ht (show ¬ (ls.map Lt.k).length < 512 by simpa using hlt))
      clear h kz hlt hr h40
      rcases ht with rfl | rfl
      all_goals
        go_enter Try.func33, Try.ntmps33
        go_wp2_with (go_at_call 39; refine HN.out.mono ?_; rintro e w1 ⟨rfl, rfl⟩)
        refine bodyPost_ret (results_tmp2 rfl _ _ _) rfl ?_
        exact sends_long (by first | exact .inl rfl | exact .inr rfl) HX.out.2 (send_eq rfl HS.out)
  · have hb : to ≠ 0 ∧ to ≠ 1 := by omega
    have q0 : (to != 0) = true := by simpa using hb.1
    have q1 : (to != 1) = true := by simpa using hb.2
    have HB := hid hb
    clear h hr h40 hb ht
    go_enter Try.func33, Try.ntmps33
    go_wp2_with (go_at_call 39; refine HN.out.mono ?_; rintro e w1 ⟨rfl, rfl⟩)
    refine bodyPost_ret (results_tmp2 rfl _ _ _) rfl ?_
    exact sends_bad HB.out (send_eq rfl HS.out)
end Go.Proofs.Ytigedoonhmaghaa
