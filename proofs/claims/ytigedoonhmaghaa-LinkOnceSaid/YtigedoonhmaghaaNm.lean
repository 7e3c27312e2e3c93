/- LinkNames: the walk. -/
import Derived.Test.YtigedoonhmaghaaLm
namespace Go.Proofs.Ytigedoonhmaghaa
open Go.RowKit Go.Lg
set_option linter.unusedVariables false
set_option linter.unusedSimpArgs false

/-- The letters behind k sends. -/
def seqK (k : Nat) : List Key := (List.range k).map fun (j : Nat) => ((j : Int) + 1, (j : Int).tmod 2, [])
theorem seqK_length (k : Nat) : (seqK k).length = k := by simp [seqK]
theorem seqK_succ (k : Nat) : seqK (k + 1) = seqK k ++ [((k : Int) + 1, (k : Int).tmod 2, [])] := by simp [seqK, List.range_succ]
theorem tm2 (k : Nat) : (k : Int).tmod 2 = 0 ∨ (k : Int).tmod 2 = 1 := by
  rw [Int.tmod_eq_emod_of_nonneg (Int.natCast_nonneg k)]
  omega
theorem sE_seq {k : Nat} (hk : k < 512) : sE ((k : Int).tmod 2) (seqK k) = 0 := by
  have h' : ¬((k : Int).tmod 2 ≠ 0 ∧ (k : Int).tmod 2 ≠ 1) := by rcases tm2 k with h | h <;> simp [h]
  simp only [sE, if_neg h', seqK_length, if_pos hk]
/-- What is in flight of the program's link, whose it is, what it has given. -/
def Has (B z : Nat) (last : Int) (ks : List Key) (w w' : World) : Prop := ∃ sv ls, LX false w' B z last sv ls ∧ ls.map Lt.k = ks ∧ Below B w w'
theorem Has.left {B z : Nat} {last last' : Int} {sv : Value} {ls : List Lt} {ks' : List Key} {w w1 w' : World} (h : LX false w1 B z last sv ls) (hb : Below B w w1) (hl : Left false B z sv last' ks' w1 w') : Has B z last' ks' w w' := by
  obtain ⟨sv', ls', h0, h1, h2, _⟩ := hl
  exact ⟨sv', ls', h1, h0, hb.trans (h.low h2)⟩
theorem sends_err {rf : Bool} {B z : Nat} {sv : Value} {last to e : Int} {b : List UInt8} {ks : List Key} {w w' : World} {en : Ending} (he : sE to ks = e) (hne : e ≠ 0) (h : Sends rf B z sv last to b ks w en w') : Send rf B z sv 0 e last ks w en w' := by
  have h0 : ¬ sE to ks = 0 := by rw [he]; exact hne
  simp only [Sends, sR, sL, sK, if_neg h0] at h
  rw [he] at h
  exact h
theorem sends_good {rf : Bool} {B z : Nat} {sv : Value} {last to : Int} {b : List UInt8} {ks : List Key} {w w' : World} {en : Ending} (he : sE to ks = 0) (h : Sends rf B z sv last to b ks w en w') : Send rf B z sv (last + 1) 0 (last + 1) (ks ++ [(last + 1, to, b)]) w en w' := by
  simpa only [Sends, sR, sL, sK, he, if_true] using h
theorem twices_err {rf : Bool} {B z : Nat} {sv : Value} {last n e : Int} {ks : List Key} {w w' : World} {en : Ending} (he : tE n ks = e) (hne : e ≠ 0) (h : Twices rf B z sv last n ks w en w') : Send rf B z sv 0 e last ks w en w' := by
  have h0 : ¬ tE n ks = 0 := by rw [he]; exact hne
  simp only [Twices, tR, tL, tK, if_neg h0] at h
  rw [he] at h
  exact h
def ksA : List Key := (seqK 512).eraseIdx 0
def ksB : List Key := ksA ++ [(513, 0, [])]
def ksC : List Key := ksB.eraseIdx 0
set_option maxHeartbeats 8000000 in
set_option maxRecDepth 100000 in
theorem names3 (w : World) : Calls Try.prog 3 #[] w fun e w' => e = .returned (.bool true) ∧ Below w.heap.size w w' := by
  obtain ⟨B, hB⟩ : ∃ B, B = w.heap.size := ⟨_, rfl⟩
  have HB := hid hB
  rw [← hB]
  clear hB
  go_enter Try.func3, Try.ntmps3
  go_wp2_with (go_at_call 8; refine stop_ (fun Ps hPs => ?_))
  refine hPs ?_
  clear hPs Ps
  refine (lives8 w).mono ?_
  rintro e w0 ⟨rfl, hb0⟩
  rw [← HB.out] at hb0
  have hsz := hb0.size
  rw [← HB.out] at hsz
  have L0 := hid hb0
  have S0 := hid hsz
  clear hb0 hsz
  go_wp2_with (go_at_call 9; refine stop_ (fun Ps hPs => ?_))
  refine hPs ?_
  clear hPs Ps
  refine (new9 w0).mono ?_
  rintro e w1 ⟨z, rfl, h1, hb1, hz1⟩
  have H1 := hid (show Has B z 0 (seqK 0) w w1 from ⟨_, _, ⟨Nat.le_trans S0.out h1.hB, h1.blk, owned_less h1.own S0.out, h1.le, fun x hx => absurd hx List.not_mem_nil⟩, rfl, L0.out.trans (hb1.mono S0.out)⟩)
  clear h1 hb1 hz1
  go_wp2_with fail
  go_loopg [2, 3, 4] 512 (fun g i n e wr => ∃ k : Nat, k ≤ 512 ∧ g = 512 - k ∧ i = .int .i64 k ∧ Hid (Has B z k (seqK k) w wr))
  case atStart => exact ⟨0, by omega, rfl, rfl, H1⟩
  case round =>
    clear H1
    obtain ⟨k, hk, rfl, rfl, HH⟩ := hrel
    obtain ⟨sv, ls, hx, hks, hb⟩ := HH.out
    clear HH
    have h40 : ([] : List UInt8).length ≤ 40 := by decide
    by_cases hlt : k < 512
    · have hs := send10 hx (by omega) (by omega) ((k : Int).tmod 2) none 0 0 [] Rd.nil_ h40
      rw [hks] at hs
      have HS := hid hs
      have HX := hid hx
      have HBb := hid hb
      have hm : wrap64 ((k : Int).tmod 2) = (k : Int).tmod 2 := by rcases tm2 k with h | h <;> rw [h] <;> decide +kernel
      have hki : (k : Int) < 512 := by omega
      clear hs hx hb hks h40
      go_wp2_with (go_at_call 10; refine stop_ (fun Ps hPs => ?_))
      refine hPs ?_
      clear hPs Ps hm
      refine HS.out.mono ?_
      rintro e w2 ⟨rfl, hl⟩
      rw [show sL (k : Int) ((k : Int).tmod 2) (seqK k) = (k : Int) + 1 by simp only [sL, sE_seq hlt, if_true], show sK (k : Int) ((k : Int).tmod 2) [] (seqK k) = seqK (k + 1) by simp only [sK, sE_seq hlt, if_true, seqK_succ]] at hl
      rw [show sR (k : Int) ((k : Int).tmod 2) (seqK k) = (k : Int) + 1 by simp only [sR, sE_seq hlt, if_true], sE_seq hlt]
      have HH := hid (Has.left HX.out HBb.out hl)
      clear hl
      simp only [two]
      go_wp2_with fail
      go_roundg (512 - (k + 1))
      case measure => omega
      case rel => exact ⟨k + 1, by omega, rfl, by go_num, HH⟩
    · obtain rfl : k = 512 := by omega
      have hki : ¬ ((512 : Nat) : Int) < 512 := by decide
      have hs := (send10 hx (by decide) (by decide) 0 none 0 0 [] Rd.nil_ h40).mono (fun e w' h => sends_err (e := 3) (by rw [hks]; kernel_rfl) (by decide) h)
      rw [hks] at hs
      have HS := hid hs
      have HX := hid hx
      have HBb := hid hb
      clear hs hx hb hks
      go_wp2_with (go_at_call 10; refine stop_ (fun Ps hPs => ?_))
      refine hPs ?_
      clear hPs Ps
      refine HS.out.mono ?_
      rintro e w2 ⟨rfl, hl⟩
      obtain ⟨sv2, ls2, hx2, hks2, hb2⟩ := Has.left HX.out HBb.out hl
      clear hl HX HBb HS
      simp only [two]
      have hs := (twice11 hx2 (by decide) (by decide) 7).mono (fun e w' h => twices_err (e := 3) (by rw [hks2]; kernel_rfl) (by decide) h)
      rw [hks2] at hs
      have HS := hid hs
      have HX := hid hx2
      have HBb := hid hb2
      clear hs hx2 hb2 hks2
      go_wp2_with (go_at_call 11; refine stop_ (fun Ps hPs => ?_))
      refine hPs ?_
      clear hPs Ps
      refine HS.out.mono ?_
      rintro e w3 ⟨rfl, hl⟩
      obtain ⟨sv3, ls3, hx3, hks3, hb3⟩ := Has.left HX.out HBb.out hl
      clear hl HX HBb HS
      simp only [two]
      have hs := (send10 hx3 (by decide) (by decide) 2 none 0 0 [] Rd.nil_ h40).mono (fun e w' h => sends_err (e := 2) (by rw [hks3]; kernel_rfl) (by decide) h)
      rw [hks3] at hs
      have HS := hid hs
      have HX := hid hx3
      have HBb := hid hb3
      clear hs hx3 hb3 hks3
      go_wp2_with (go_at_call 10; refine stop_ (fun Ps hPs => ?_))
      refine hPs ?_
      clear hPs Ps
      refine HS.out.mono ?_
      rintro e w4 ⟨rfl, hl⟩
      obtain ⟨sv4, ls4, hx4, hks4, hb4⟩ := Has.left HX.out HBb.out hl
      clear hl HX HBb HS
      simp only [two]
      have hs := deliver12 hx4 1
      rw [hks4] at hs
      have HS := hid hs
      have HX := hid hx4
      have HBb := hid hb4
      clear hs hx4 hb4 hks4
      go_wp2_with (go_at_call 12; refine stop_ (fun Ps hPs => ?_))
      refine hPs ?_
      clear hPs Ps
      refine HS.out.mono ?_
      rintro e w5 ⟨x5, hk5, rfl, hl, ho5, _⟩
      rw [show dE 1 (seqK 512) = 0 by kernel_rfl]
      rw [show dX 1 (seqK 512) = (1, 0, []) by kernel_rfl] at hk5
      rw [show dK 1 (seqK 512) = ksA by kernel_rfl] at hl
      obtain ⟨sv5, ls5, hx5, hks5, hb5⟩ := Has.left HX.out HBb.out hl
      obtain ⟨xn, xt, xv, xb⟩ := x5
      injection hk5 with e1 e2
      injection e2 with e2 e3
      simp only at e1 e2 e3
      subst e1 e2 e3
      obtain ⟨A5, c5, e9, _, _⟩ := owned_slice ho5
      simp only at e9
      subst e9
      clear hl HX HBb HS ho5
      simp only [lv]
      -- the letter's variable
      have hbX := (Below.refl w5.heap.size w5).alloc (Nat.le_refl _) (.cells #[.int .i64 1, .int .i64 0, .slice A5 ([] : List UInt8).length c5] 31)
      have kx := Blk.new w5 31 #[.int .i64 1, .int .i64 0, .slice A5 ([] : List UInt8).length c5]
      obtain ⟨X5, hX5⟩ : ∃ X5, X5 = w5.alloc (.cells #[.int .i64 1, .int .i64 0, .slice A5 ([] : List UInt8).length c5] 31) := ⟨_, rfl⟩
      rw [← hX5] at hbX kx
      have hx6 := hx5.later hbX
      have hb6 := hb5.trans (hbX.mono hx5.leB)
      have hs := deliver12 hx6 1
      rw [hks5] at hs
      have HS := hid hs
      have HX := hid hx6
      have HBb := hid hb6
      have HK := hid kx
      have HR := hid (show w5.heap.size ≠ z ∧ ∀ g, sv5.ownBlock = some g → g < w5.heap.size from ⟨fun e => by have := hx5.blk.lt; omega, fun g hg => (hx5.own.lt g hg).2⟩)
      clear hs hx5 hb5 hks5 hx6 hb6 hbX kx
      simp only [List.length_nil] at hX5
      go_wp2_with (go_at_call 12; refine stop_ (fun Ps hPs => ?_))
      refine hPs ?_
      clear hPs Ps
      rw [← hX5]
      clear hX5
      refine HS.out.mono ?_
      rintro e w6 ⟨x6, hk6, rfl, hl, ho6, _⟩
      rw [show dE 1 ksA = 4 by kernel_rfl]
      rw [show dX 1 ksA = (0, 0, []) by kernel_rfl] at hk6
      rw [show dK 1 ksA = ksA by kernel_rfl] at hl
      obtain ⟨sv6, ls6, hks6, hx6, hT6, hat6⟩ := hl
      have hb6 := HBb.out.trans (HX.out.low hT6)
      have hK6 := blk_two HK.out hT6 HR.out.1 (fun b hb e => by have := HR.out.2 b hb; omega)
      have hR6 : ∀ g, sv6.ownBlock = some g → g ≠ w5.heap.size := fun g hg e => by
        rcases hat6 g hg with h1 | h1
        · have := HR.out.2 g h1; omega
        · have := HK.out.lt; omega
      obtain ⟨xn6, xt6, xv6, xb6⟩ := x6
      injection hk6 with e1 e2
      injection e2 with e2 e3
      simp only at e1 e2 e3
      subst e1 e2 e3
      obtain ⟨A6, c6, e9, _, _⟩ := owned_slice ho6
      simp only at e9
      subst e9
      simp only [lv]
      have hbX := (Below.refl w6.heap.size w6).alloc (Nat.le_refl _) (.cells #[.int .i64 0, .int .i64 0, .slice A6 ([] : List UInt8).length c6] 31)
      obtain ⟨X6, hX6⟩ : ∃ X6, X6 = w6.alloc (.cells #[.int .i64 0, .int .i64 0, .slice A6 ([] : List UInt8).length c6] 31) := ⟨_, rfl⟩
      rw [← hX6] at hbX
      have hx7 := hx6.later hbX
      have hb7 := hb6.trans (hbX.mono hx6.leB)
      have hK7 := hK6.later hbX
      have hs := (send10 hx7 (by decide) (by decide) 0 none 0 0 [] Rd.nil_ h40).mono (fun e w' h => sends_good (by rw [hks6]; kernel_rfl) h)
      rw [hks6] at hs
      have HS' := hid hs
      have HX' := hid hx7
      have HB' := hid hb7
      have HK' := hid hK7
      have HR' := hid hR6
      clear hs hx7 hb7 hK7 hR6 hx6 hks6 hT6 hat6 hb6 hK6 hbX ho6 HX HBb HS HK
      simp only [List.length_nil] at hX6
      go_wp2_with (go_at_call 10; refine stop_ (fun Ps hPs => ?_))
      refine hPs ?_
      clear hPs Ps
      rw [← hX6]
      clear hX6
      refine HS'.out.mono ?_
      rintro e w7 ⟨rfl, hl⟩
      obtain ⟨sv7, ls7, hks7, hx7, hT7, hat7⟩ := hl
      have hks7' : ls7.map Lt.k = ksB := hks7
      have hb7 := HB'.out.trans (HX'.out.low hT7)
      have hK7 := blk_two HK'.out hT7 HR.out.1 (fun b hb e => HR'.out b hb e)
      have b0 : w7.cell? ⟨w5.heap.size, 0, none⟩ = some (.int .i64 1) := hK7.cell 0
      have b1 : w7.cell? ⟨w5.heap.size, 1, none⟩ = some (.int .i64 0) := hK7.cell 1
      have hd := drop13 hx7 2
      rw [hks7'] at hd
      unfold Drops at hd
      rw [show dE 2 ksB = 0 by kernel_rfl, show dK 2 ksB = ksC by kernel_rfl] at hd
      have HD := hid hd
      have HX7 := hid hx7
      have HB7 := hid hb7
      clear hd hx7 hb7 hK7 hT7 hat7 hks7 hks7' HX' HB' HK' HR' HS'
      simp only [two]
      go_wp2_with (go_at_call 13; refine stop_ (fun Ps hPs => ?_))
      refine hPs ?_
      clear hPs Ps
      refine HD.out.mono ?_
      rintro e w8 ⟨rfl, hl⟩
      obtain ⟨sv8, ls8, hks8, hx8, hT8, hat8⟩ := hl
      have hd := drop13 hx8 2
      rw [hks8] at hd
      unfold Drops at hd
      rw [show dE 2 ksC = 4 by kernel_rfl] at hd
      have HD8 := hid hd
      have HX8 := hid hx8
      have HB8 := hid (HB7.out.trans (HX7.out.low hT8))
      clear hd hx8 hT8 hat8 hks8 HD HX7 HB7 b0 b1
      go_wp2_with (go_at_call 13; refine stop_ (fun Ps hPs => ?_))
      refine hPs ?_
      clear hPs Ps
      refine HD8.out.mono ?_
      rintro e w9 ⟨rfl, hl⟩
      have HB9 := hid (HB8.out.trans (HX8.out.low hl.two))
      clear hl
      go_wp2_with fail
      go_ret
      exact ⟨rfl, HB9.out⟩
end Go.Proofs.Ytigedoonhmaghaa
