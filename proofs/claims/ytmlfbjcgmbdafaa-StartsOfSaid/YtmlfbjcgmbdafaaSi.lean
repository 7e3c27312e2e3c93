/- Starts: the worked examples. -/
import Derived.Test.YtmlfbjcgmbdafaaSh
import Derived.Test.YtmlfbjcgmbdafaaSf
namespace Go.Proofs.Ytmlfbjcgmbdafaa
open Go.RowKit Go.Lg
set_option linter.unusedVariables false
set_option linter.unusedSimpArgs false

theorem SS.own {w : World} {base c n : Nat} {A : Option Addr} {l : List (Int × Int)} (h : w.ownsRow base 58 2 (.slice A n c) n (sts l)) (hn : l.length = n) : SS w w.heap.size A n l := ⟨Rd.of_own h, hn⟩
theorem SS.later {w w' : World} {n : Nat} {A : Option Addr} {l : List (Int × Int)} (h : SS w w.heap.size A n l) (hb : Below w.heap.size w w') : SS w' w'.heap.size A n l := (h.keep hb).more hb.size
def Oft (L : List (Int × Int)) (n : Nat) (w : World) (e : Ending) (w' : World) : Prop := ∃ v, e = .returned v ∧ w'.ownsRow w.heap.size 58 2 v n (sts L) ∧ Below w.heap.size w w'
theorem of_lit (xs : List Int) (L : List (Int × Int)) (m n : Nat) (cs : Array Value) (hcs : cs.toList = ints xs) (hm : cs.size = m) (hm2 : m ≤ 1000) (hL : prs xs = L) (hn : L.length = n) (w : World) :
    Calls Try.prog 8 #[.slice (some ⟨w.heap.size, 0, none⟩) m m] (w.alloc (.cells cs 3)) (Oft L n w) := by
  have h := Rd.lit0 (sz := 1) w cs 3 m (by omega)
  rw [hcs] at h
  refine (of8 _ m m xs _ h hm2).mono ?_
  rintro e w' ⟨v, rfl, ho, hb⟩
  rw [hL, hn] at ho
  refine ⟨v, rfl, owned_less ho (by simp), ?_⟩
  exact bl_trans ((Below.refl w.heap.size w).alloc (Nat.le_refl _) _) hb (by simp)
def Yes (w : World) (e : Ending) (w' : World) : Prop := e = .returned (.bool true) ∧ Below w.heap.size w w'
theorem fork_lit {a b : List (Int × Int)} {ae be x : Int} (A A' : Option Addr) (n c n' c' : Nat) (w : World) (h : SS w w.heap.size A n a) (h' : SS w w.heap.size A' n' b) (hn : n ≤ 1000) (hn' : n' ≤ 1000) (ha : Sl.ok a ae) (hb : Sl.ok b be) (hf : Sl.Fork a ae b be x) :
    Calls Try.prog 10 #[.slice A n c, .int .i64 ae, .slice A' n' c', .int .i64 be] w fun e w' => e = .returned (.tuple #[.int .i64 x, .int .i64 0]) ∧ Below w.heap.size w w' := by
  refine (fork10 A A' n c n' c' a b ae be w h h' (by omega) (by omega)).mono ?_
  rintro e w' ⟨y, k, rfl, hk, hb9⟩
  obtain ⟨rfl, rfl⟩ := fk_one (.inl ⟨ha, hb, rfl, hf⟩) hk
  exact ⟨rfl, hb9⟩
theorem SS.none_ (w : World) (B : Nat) : SS w B none 0 [] := ⟨Rd.nil_, rfl⟩

set_option maxHeartbeats 16000000 in
set_option maxRecDepth 100000 in
theorem lives13 (w : World) : Calls Try.prog 13 #[] w (Yes w) := by
  go_enter Try.func13, Try.ntmps13
  go_wp2_with (go_at_call 8; refine stop_ (fun Ps hPs => ?_))
  refine hPs ?_
  clear hPs Ps
  refine (of_lit [1, 1, 3, 4] [(1, 1), (3, 4)] 4 2 #[.int .i64 1, .int .i64 1, .int .i64 3, .int .i64 4] rfl rfl (by decide) rfl rfl w).mono ?_
  rintro e w1 ⟨va, rfl, hoa, hbn⟩
  have hb := hbn
  clear hbn
  obtain ⟨Aa, ca, rfl, ga, ha⟩ := owned_slice hoa
  have sa := SS.own hoa rfl
  clear hoa ga ha
  go_wp2_with (go_at_call 8; refine stop_ (fun Ps hPs => ?_))
  refine hPs ?_
  clear hPs Ps
  refine (of_lit [1, 1, 2, 3] [(1, 1), (2, 3)] 4 2 #[.int .i64 1, .int .i64 1, .int .i64 2, .int .i64 3] rfl rfl (by decide) rfl rfl w1).mono ?_
  rintro e w2 ⟨vb, rfl, hob, hbn⟩
  have sa := sa.later hbn
  have hb := bl_trans hb hbn hb.size
  clear hbn
  obtain ⟨Ab, cb, rfl, gb, hb⟩ := owned_slice hob
  have sb := SS.own hob rfl
  clear hob gb hb
  go_wp2_with (go_at_call 10; refine stop_ (fun Ps hPs => ?_))
  refine hPs ?_
  clear hPs Ps
  have hf : Sl.Fork [(1, 1), (3, 4)] 5 [(1, 1), (2, 3)] 4 2 := ⟨by decide, by decide, by decide, by decide +kernel, fun y h1 h2 h3 => by
    rcases (show y = 3 ∨ y = 4 by omega) with rfl | rfl <;> decide +kernel⟩
  refine (fork_lit Aa Ab 2 ca 2 cb w2 sa sb (by decide) (by decide) (by decide +kernel) (by decide +kernel) hf).mono ?_
  rintro e w3 ⟨rfl, hbn⟩
  have sa := sa.later hbn
  have sb := sb.later hbn
  have hb := bl_trans hb hbn hb.size
  clear hbn
  clear hf
  go_wp2_with (go_at_call 8; refine stop_ (fun Ps hPs => ?_))
  refine hPs ?_
  clear hPs Ps
  refine (of_lit [1, 1, 3, 4] [(1, 1), (3, 4)] 4 2 #[.int .i64 1, .int .i64 1, .int .i64 3, .int .i64 4] rfl rfl (by decide) rfl rfl w3).mono ?_
  rintro e w4 ⟨vc, rfl, hoc, hbn⟩
  have sa := sa.later hbn
  have sb := sb.later hbn
  have hb := bl_trans hb hbn hb.size
  clear hbn
  obtain ⟨Ac, cc, rfl, gc, hc⟩ := owned_slice hoc
  have sc := SS.own hoc rfl
  clear hoc gc hc
  go_wp2_with (go_at_call 9; refine stop_ (fun Ps hPs => ?_))
  refine hPs ?_
  clear hPs Ps
  have hc : Calls Try.prog 9 #[.slice Ac 2 cc, .int .i64 5, .int .i64 4] w4 fun e w' => e = .returned (.tuple #[.int .i64 3, .int .i64 0]) ∧ Below w4.heap.size w4 w' := by
    have h9 := at9 Ac 2 cc [(1, 1), (3, 4)] 5 4 w4 sc (by decide)
    rw [show at_ [(1, 1), (3, 4)] 5 4 = (3, 0) from by decide +kernel] at h9
    exact h9
  refine (hc).mono ?_
  rintro e w5 ⟨rfl, hbn⟩
  have sa := sa.later hbn
  have sb := sb.later hbn
  have sc := sc.later hbn
  have hb := bl_trans hb hbn hb.size
  clear hbn
  clear hc
  go_wp2_with fail
  go_ret
  exact ⟨rfl, hb⟩

set_option maxHeartbeats 16000000 in
set_option maxRecDepth 100000 in
theorem names3 (w : World) : Calls Try.prog 3 #[] w (Yes w) := by
  go_enter Try.func3, Try.ntmps3
  go_wp2_with (go_at_call 8; refine stop_ (fun Ps hPs => ?_))
  refine hPs ?_
  clear hPs Ps
  refine (of_lit [1, 1, 3, 4] [(1, 1), (3, 4)] 4 2 #[.int .i64 1, .int .i64 1, .int .i64 3, .int .i64 4] rfl rfl (by decide) rfl rfl w).mono ?_
  rintro e w1 ⟨vx, rfl, hox, hbn⟩
  have hb := hbn
  clear hbn
  obtain ⟨Ax, cx, rfl, gx, hx⟩ := owned_slice hox
  have sx := SS.own hox rfl
  clear hox gx hx
  go_wp2_with (go_at_call 9; refine stop_ (fun Ps hPs => ?_))
  refine hPs ?_
  clear hPs Ps
  have hc : Calls Try.prog 9 #[.slice Ax 2 cx, .int .i64 5, .int .i64 0] w1 fun e w' => e = .returned (.tuple #[.int .i64 0, .int .i64 0]) ∧ Below w1.heap.size w1 w' := by
    have h9 := at9 Ax 2 cx [(1, 1), (3, 4)] 5 0 w1 sx (by decide)
    rw [show at_ [(1, 1), (3, 4)] 5 0 = (0, 0) from by decide +kernel] at h9
    exact h9
  refine (hc).mono ?_
  rintro e w2 ⟨rfl, hbn⟩
  have sx := sx.later hbn
  have hb := bl_trans hb hbn hb.size
  clear hbn
  clear hc
  go_wp2_with (go_at_call 9; refine stop_ (fun Ps hPs => ?_))
  refine hPs ?_
  clear hPs Ps
  have hc : Calls Try.prog 9 #[.slice Ax 2 cx, .int .i64 5, .int .i64 3] w2 fun e w' => e = .returned (.tuple #[.int .i64 1, .int .i64 0]) ∧ Below w2.heap.size w2 w' := by
    have h9 := at9 Ax 2 cx [(1, 1), (3, 4)] 5 3 w2 sx (by decide)
    rw [show at_ [(1, 1), (3, 4)] 5 3 = (1, 0) from by decide +kernel] at h9
    exact h9
  refine (hc).mono ?_
  rintro e w3 ⟨rfl, hbn⟩
  have sx := sx.later hbn
  have hb := bl_trans hb hbn hb.size
  clear hbn
  clear hc
  go_wp2_with (go_at_call 9; refine stop_ (fun Ps hPs => ?_))
  refine hPs ?_
  clear hPs Ps
  have hc : Calls Try.prog 9 #[.slice Ax 2 cx, .int .i64 5, .int .i64 6] w3 fun e w' => e = .returned (.tuple #[.int .i64 0, .int .i64 2]) ∧ Below w3.heap.size w3 w' := by
    have h9 := at9 Ax 2 cx [(1, 1), (3, 4)] 5 6 w3 sx (by decide)
    rw [show at_ [(1, 1), (3, 4)] 5 6 = (0, 2) from by decide +kernel] at h9
    exact h9
  refine (hc).mono ?_
  rintro e w4 ⟨rfl, hbn⟩
  have sx := sx.later hbn
  have hb := bl_trans hb hbn hb.size
  clear hbn
  clear hc
  go_wp2_with (go_at_call 8; refine stop_ (fun Ps hPs => ?_))
  refine hPs ?_
  clear hPs Ps
  refine (of_lit [1, 1] [(1, 1)] 2 1 #[.int .i64 1, .int .i64 1] rfl rfl (by decide) rfl rfl w4).mono ?_
  rintro e w5 ⟨va, rfl, hoa, hbn⟩
  have sx := sx.later hbn
  have hb := bl_trans hb hbn hb.size
  clear hbn
  obtain ⟨Aa, ca, rfl, ga, ha⟩ := owned_slice hoa
  have sa := SS.own hoa rfl
  clear hoa ga ha
  go_wp2_with (go_at_call 8; refine stop_ (fun Ps hPs => ?_))
  refine hPs ?_
  clear hPs Ps
  refine (of_lit [1, 1, 2, 5] [(1, 1), (2, 5)] 4 2 #[.int .i64 1, .int .i64 1, .int .i64 2, .int .i64 5] rfl rfl (by decide) rfl rfl w5).mono ?_
  rintro e w6 ⟨vb, rfl, hob, hbn⟩
  have sx := sx.later hbn
  have sa := sa.later hbn
  have hb := bl_trans hb hbn hb.size
  clear hbn
  obtain ⟨Ab, cb, rfl, gb, hb⟩ := owned_slice hob
  have sb := SS.own hob rfl
  clear hob gb hb
  go_wp2_with (go_at_call 10; refine stop_ (fun Ps hPs => ?_))
  refine hPs ?_
  clear hPs Ps
  have hf : Sl.Fork [(1, 1)] 7 [(1, 1), (2, 5)] 9 4 := ⟨by decide, by decide, by decide, by decide +kernel, fun y h1 h2 h3 => by
    rcases (show y = 5 ∨ y = 6 ∨ y = 7 by omega) with rfl | rfl | rfl <;> decide +kernel⟩
  refine (fork_lit Aa Ab 1 ca 2 cb w6 sa sb (by decide) (by decide) (by decide +kernel) (by decide +kernel) hf).mono ?_
  rintro e w7 ⟨rfl, hbn⟩
  have sx := sx.later hbn
  have sa := sa.later hbn
  have sb := sb.later hbn
  have hb := bl_trans hb hbn hb.size
  clear hbn
  clear hf
  go_wp2_with (go_at_call 8; refine stop_ (fun Ps hPs => ?_))
  refine hPs ?_
  clear hPs Ps
  refine (of_lit [1, 1] [(1, 1)] 2 1 #[.int .i64 1, .int .i64 1] rfl rfl (by decide) rfl rfl w7).mono ?_
  rintro e w8 ⟨vc, rfl, hoc, hbn⟩
  have sx := sx.later hbn
  have sa := sa.later hbn
  have sb := sb.later hbn
  have hb := bl_trans hb hbn hb.size
  clear hbn
  obtain ⟨Ac, cc, rfl, gc, hc⟩ := owned_slice hoc
  have sc := SS.own hoc rfl
  clear hoc gc hc
  go_wp2_with (go_at_call 10; refine stop_ (fun Ps hPs => ?_))
  refine hPs ?_
  clear hPs Ps
  have hf : Sl.Fork [(1, 1)] 7 [] 0 0 := ⟨by decide, by decide, by decide, by decide +kernel, fun y h1 h2 h3 => by
    omega⟩
  refine (fork_lit Ac none 1 cc 0 0 w8 sc (SS.none_ _ _) (by decide) (by decide) (by decide +kernel) (by decide +kernel) hf).mono ?_
  rintro e w9 ⟨rfl, hbn⟩
  have sx := sx.later hbn
  have sa := sa.later hbn
  have sb := sb.later hbn
  have sc := sc.later hbn
  have hb := bl_trans hb hbn hb.size
  clear hbn
  clear hf
  go_wp2_with (go_at_call 8; refine stop_ (fun Ps hPs => ?_))
  refine hPs ?_
  clear hPs Ps
  refine (of_lit [1, 2] [(1, 2)] 2 1 #[.int .i64 1, .int .i64 2] rfl rfl (by decide) rfl rfl w9).mono ?_
  rintro e w10 ⟨vd, rfl, hod, hbn⟩
  have sx := sx.later hbn
  have sa := sa.later hbn
  have sb := sb.later hbn
  have sc := sc.later hbn
  have hb := bl_trans hb hbn hb.size
  clear hbn
  obtain ⟨Ad, cd, rfl, gd, hd⟩ := owned_slice hod
  have sd := SS.own hod rfl
  clear hod gd hd
  go_wp2_with (go_at_call 11; refine stop_ (fun Ps hPs => ?_))
  refine hPs ?_
  clear hPs Ps
  have hc := check11 Ad 1 cd [(1, 2)] 3 w10 sd (by decide)
  rw [show Sl.chk [(1, 2)] 3 = 5 from by decide +kernel] at hc
  refine (hc).mono ?_
  rintro e w11 ⟨rfl, hbn⟩
  have sx := sx.later hbn
  have sa := sa.later hbn
  have sb := sb.later hbn
  have sc := sc.later hbn
  have sd := sd.later hbn
  have hb := bl_trans hb hbn hb.size
  clear hbn
  clear hc
  go_wp2_with (go_at_call 8; refine stop_ (fun Ps hPs => ?_))
  refine hPs ?_
  clear hPs Ps
  refine (of_lit [1, 1, 1, 3] [(1, 1), (1, 3)] 4 2 #[.int .i64 1, .int .i64 1, .int .i64 1, .int .i64 3] rfl rfl (by decide) rfl rfl w11).mono ?_
  rintro e w12 ⟨vf, rfl, hof, hbn⟩
  have sx := sx.later hbn
  have sa := sa.later hbn
  have sb := sb.later hbn
  have sc := sc.later hbn
  have sd := sd.later hbn
  have hb := bl_trans hb hbn hb.size
  clear hbn
  obtain ⟨Af, cf, rfl, gf, hf⟩ := owned_slice hof
  have sf := SS.own hof rfl
  clear hof gf hf
  go_wp2_with (go_at_call 11; refine stop_ (fun Ps hPs => ?_))
  refine hPs ?_
  clear hPs Ps
  have hc := check11 Af 2 cf [(1, 1), (1, 3)] 3 w12 sf (by decide)
  rw [show Sl.chk [(1, 1), (1, 3)] 3 = 5 from by decide +kernel] at hc
  refine (hc).mono ?_
  rintro e w13 ⟨rfl, hbn⟩
  have sx := sx.later hbn
  have sa := sa.later hbn
  have sb := sb.later hbn
  have sc := sc.later hbn
  have sd := sd.later hbn
  have sf := sf.later hbn
  have hb := bl_trans hb hbn hb.size
  clear hbn
  clear hc
  go_wp2_with (go_at_call 8; refine stop_ (fun Ps hPs => ?_))
  refine hPs ?_
  clear hPs Ps
  refine (of_lit [1, 1] [(1, 1)] 2 1 #[.int .i64 1, .int .i64 1] rfl rfl (by decide) rfl rfl w13).mono ?_
  rintro e w14 ⟨vk, rfl, hok, hbn⟩
  have sx := sx.later hbn
  have sa := sa.later hbn
  have sb := sb.later hbn
  have sc := sc.later hbn
  have sd := sd.later hbn
  have sf := sf.later hbn
  have hb := bl_trans hb hbn hb.size
  clear hbn
  obtain ⟨Ak, ck, rfl, gk, hk⟩ := owned_slice hok
  have sk := SS.own hok rfl
  clear hok gk hk
  go_wp2_with (go_at_call 11; refine stop_ (fun Ps hPs => ?_))
  refine hPs ?_
  clear hPs Ps
  have hc := check11 Ak 1 ck [(1, 1)] 0 w14 sk (by decide)
  rw [show Sl.chk [(1, 1)] 0 = 5 from by decide +kernel] at hc
  refine (hc).mono ?_
  rintro e w15 ⟨rfl, hbn⟩
  have sx := sx.later hbn
  have sa := sa.later hbn
  have sb := sb.later hbn
  have sc := sc.later hbn
  have sd := sd.later hbn
  have sf := sf.later hbn
  have sk := sk.later hbn
  have hb := bl_trans hb hbn hb.size
  clear hbn
  clear hc
  go_wp2_with (go_at_call 11; refine stop_ (fun Ps hPs => ?_))
  refine hPs ?_
  clear hPs Ps
  have hc := check11 none 0 0 [] 0 w15 (SS.none_ _ _) (by decide)
  rw [show Sl.chk [] 0 = 0 from by decide +kernel] at hc
  refine (hc).mono ?_
  rintro e w16 ⟨rfl, hbn⟩
  have sx := sx.later hbn
  have sa := sa.later hbn
  have sb := sb.later hbn
  have sc := sc.later hbn
  have sd := sd.later hbn
  have sf := sf.later hbn
  have sk := sk.later hbn
  have hb := bl_trans hb hbn hb.size
  clear hbn
  clear hc
  go_wp2_with (go_at_call 11; refine stop_ (fun Ps hPs => ?_))
  refine hPs ?_
  clear hPs Ps
  have hc := check11 none 0 0 [] 1 w16 (SS.none_ _ _) (by decide)
  rw [show Sl.chk [] 1 = 5 from by decide +kernel] at hc
  refine (hc).mono ?_
  rintro e w17 ⟨rfl, hbn⟩
  have sx := sx.later hbn
  have sa := sa.later hbn
  have sb := sb.later hbn
  have sc := sc.later hbn
  have sd := sd.later hbn
  have sf := sf.later hbn
  have sk := sk.later hbn
  have hb := bl_trans hb hbn hb.size
  clear hbn
  clear hc
  go_wp2_with (go_at_call 12; refine stop_ (fun Ps hPs => ?_))
  refine hPs ?_
  clear hPs Ps
  have hc : Calls Try.prog 12 #[.slice Ax 2 cx, .int .i64 5, .int .i64 3] w17 fun e w' => ∃ v, e = .returned (.tuple #[v, .int .i64 0]) ∧ w'.ownsRow w17.heap.size 58 2 v 1 (sts [(1, 1)]) ∧ Below w17.heap.size w17 w' := by
    have h9 := trim12 Ax 2 cx [(1, 1), (3, 4)] 5 3 w17 sx (by decide)
    rw [show trim [(1, 1), (3, 4)] 5 3 = ([(1, 1)], 0) from by decide +kernel] at h9
    exact h9
  refine (hc).mono ?_
  rintro e w18 ⟨vt, rfl, hot, hbn⟩
  have sx := sx.later hbn
  have sa := sa.later hbn
  have sb := sb.later hbn
  have sc := sc.later hbn
  have sd := sd.later hbn
  have sf := sf.later hbn
  have sk := sk.later hbn
  have hb := bl_trans hb hbn hb.size
  clear hbn
  clear hc
  obtain ⟨At, ct, rfl, gt, ht⟩ := owned_slice hot
  have st := SS.own hot rfl
  clear hot gt ht
  go_wp2_with (go_at_call 12; refine stop_ (fun Ps hPs => ?_))
  refine hPs ?_
  clear hPs Ps
  have hc : Calls Try.prog 12 #[.slice Ax 2 cx, .int .i64 5, .int .i64 0] w18 fun e w' => ∃ v, e = .returned (.tuple #[v, .int .i64 0]) ∧ w'.ownsRow w18.heap.size 58 2 v 0 (sts []) ∧ Below w18.heap.size w18 w' := by
    have h9 := trim12 Ax 2 cx [(1, 1), (3, 4)] 5 0 w18 sx (by decide)
    rw [show trim [(1, 1), (3, 4)] 5 0 = ([], 0) from by decide +kernel] at h9
    exact h9
  refine (hc).mono ?_
  rintro e w19 ⟨vu, rfl, hou, hbn⟩
  have sx := sx.later hbn
  have sa := sa.later hbn
  have sb := sb.later hbn
  have sc := sc.later hbn
  have sd := sd.later hbn
  have sf := sf.later hbn
  have sk := sk.later hbn
  have st := st.later hbn
  have hb := bl_trans hb hbn hb.size
  clear hbn
  clear hc
  obtain ⟨Au, cu, rfl, gu, hu⟩ := owned_slice hou
  have su := SS.own hou rfl
  clear hou gu hu
  go_wp2_with (go_at_call 13; refine stop_ (fun Ps hPs => ?_))
  refine hPs ?_
  clear hPs Ps
  refine (lives13 w19).mono ?_
  rintro e w20 ⟨rfl, hbn⟩
  have sx := sx.later hbn
  have sa := sa.later hbn
  have sb := sb.later hbn
  have sc := sc.later hbn
  have sd := sd.later hbn
  have sf := sf.later hbn
  have sk := sk.later hbn
  have st := st.later hbn
  have su := su.later hbn
  have hb := bl_trans hb hbn hb.size
  clear hbn
  go_wp2_with (go_at_call 8; refine stop_ (fun Ps hPs => ?_))
  refine hPs ?_
  clear hPs Ps
  refine (of_lit [1, 1] [(1, 1)] 2 1 #[.int .i64 1, .int .i64 1] rfl rfl (by decide) rfl rfl w20).mono ?_
  rintro e w21 ⟨vz, rfl, hoz, hbn⟩
  have sx := sx.later hbn
  have sa := sa.later hbn
  have sb := sb.later hbn
  have sc := sc.later hbn
  have sd := sd.later hbn
  have sf := sf.later hbn
  have sk := sk.later hbn
  have st := st.later hbn
  have su := su.later hbn
  have hb := bl_trans hb hbn hb.size
  clear hbn
  obtain ⟨Az, cz, rfl, gz, hz⟩ := owned_slice hoz
  have sz := SS.own hoz rfl
  clear hoz gz hz
  go_wp2_with (go_at_call 14; refine stop_ (fun Ps hPs => ?_))
  refine hPs ?_
  clear hPs Ps
  have hc := same14 At Az 1 ct 1 cz _ _ [(1, 1)] [(1, 1)] w21 st sz (by decide) (by decide)
  rw [decide_eq_true rfl] at hc
  refine hc.mono ?_
  rintro e wz ⟨rfl, d, rfl⟩
  clear hc
  have hb := below_drewN hb d
  go_wp2_with fail
  go_ret
  exact ⟨rfl, hb⟩
end Go.Proofs.Ytmlfbjcgmbdafaa
