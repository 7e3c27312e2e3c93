/- Whatever is done to a link, call by call, it answers and carries what the document says: the walk. -/
import Derived.Test.YtigedoonhmaghaaSc
namespace Go.Proofs.Ytigedoonhmaghaa
open Go.RowKit Go.Lg
set_option linter.unusedVariables false
set_option linter.unusedSimpArgs false

theorem f_le {B b f g n c : Nat} (h : B ≤ b) (hf : b ≤ f) (hg : (Value.slice (some ⟨f, 0, none⟩) n c).ownBlock = some g) : B ≤ g := by
  have e : f = g := by simpa [Value.ownBlock] using hg
  omega
theorem rd_full {w : World} {B f m cap : Nat} {b : List UInt8} (hm : b.length = m) (h : Rd w B 1 (some ⟨f, 0, none⟩) (m + 3) (bts (lent b))) : Rd w B 1 (some ⟨f, 0, none⟩) m (bts b) := by
  have h1 := h.take (k := m) (by omega)
  rw [Nat.mul_one, bts_take] at h1
  have e : (lent b).take m = b := by rw [lent, ← hm]; simp
  rw [e] at h1
  exact h1
set_option maxRecDepth 100000 in
set_option maxHeartbeats 16000000 in
theorem script5 (A : Option Addr) (n c : Nat) (l : List Am) (w : World) (h : AS w w.heap.size A n l) (hn : n ≤ 9223372036854775807) (st : Int) (hst : -9223372036854775808 ≤ st ∧ st ≤ 9223372036854775807) :
    Calls Try.prog 5 #[.slice A n c, .int .i64 st] w fun e w' => e = .returned (.bool true) ∧ Below w.heap.size w w' := by
  obtain ⟨B, hB⟩ : ∃ B, B = w.heap.size := ⟨_, rfl⟩
  have HB := hid hB
  have HA := hid h
  rw [← hB]
  clear hB h
  have HV := hid (lives8 w)
  have HST := hid hst
  clear hst
  go_enter Try.func5, Try.ntmps5
  go_wp2_with (go_at_call 8; refine stop_ (fun Ps hPs => ?_))
  refine hPs ?_
  clear hPs Ps
  refine HV.out.mono ?_
  rintro e w0 ⟨rfl, hb0⟩
  rw [← HB.out] at hb0
  have HAw := hid (show AS w B A n l by have := HA.out; rw [← HB.out] at this; exact this)
  have hA0 := HAw.out.below hb0
  have hs0 : B ≤ w0.heap.size := by have := hb0.size; rw [← HB.out] at this; exact this
  have hsm := small14 A n c l w0 ⟨hA0.1.more hs0, hA0.2.1, fun x hx => by
    have h9 := hA0.2.2 x hx
    exact ⟨h9.rd.more hs0, h9.kind, h9.n, h9.le, h9.max⟩⟩ hn
  have HSM := hid hsm
  have HB0 := hid hb0
  have HS0 := hid hs0
  have HLL := hid hA0.2.1
  clear hsm hb0 hs0 hA0 HA HV
  go_wp2_with (go_at_call 14; refine stop_ (fun Ps hPs => ?_))
  refine hPs ?_
  clear hPs Ps
  refine HSM.out.mono ?_
  rintro e w00 ⟨rfl, h9⟩
  subst h9
  clear HSM
  by_cases hS : Small l
  rotate_left
  · rw [decide_eq_false hS]
    clear hS
    go_wp2_with fail
    go_ret
    exact ⟨rfl, HB0.out⟩
  rw [decide_eq_true hS]
  have HS := hid hS
  have h12 : n ≤ 1200 := by have := hS.2; have := HLL.out; omega
  clear hS hn
  go_wp2_with (go_at_call 9; refine stop_ (fun Ps hPs => ?_))
  refine hPs ?_
  clear hPs Ps
  refine (new9 (F := w00.heap.size) w00 (Nat.le_refl _)).mono ?_
  rintro e w1 ⟨z1, rfl, h1, hb1, hz1⟩
  go_wp2_with (go_at_call 17; refine stop_ (fun Ps hPs => ?_))
  refine hPs ?_
  clear hPs Ps
  refine (new17 (F := w00.heap.size) w1 hb1.size).mono ?_
  rintro e w2 ⟨z2, rfl, h2, hb2, hz2⟩
  have HP0 : Hid (Pair w00.heap.size w2 B z1 z2 0 []) := hid ⟨_, _, _, _, ⟨LX.later (⟨Nat.le_trans HS0.out h1.hB, h1.blk, owned_less h1.own HS0.out, h1.le, fun x hx => absurd hx List.not_mem_nil, h1.hF, h1.neF⟩ : LX w00.heap.size false w1 B z1 0 (.slice none 0 0) []) hb2, ⟨Nat.le_trans (Nat.le_trans HS0.out hb1.size) h2.hB, h2.blk, owned_less h2.own (Nat.le_trans HS0.out hb1.size), h2.le, fun x hx => absurd hx List.not_mem_nil, h2.hF, h2.neF⟩, by have := h2.hB; omega, fun g hg => by cases hg⟩, rfl, rfl⟩
  have HL0 := hid ((HB0.out.trans (hb1.mono HS0.out)).trans (hb2.mono (Nat.le_trans HS0.out hb1.size)))
  clear h1 hb1 hz1 h2 hb2 hz2
  go_wp2_with fail
  go_loopg [7, 8, 9] n (fun g i _ _ wr => ∃ (j F : Nat) (q : Int) (ks : List Key), j ≤ n ∧ g = n - j ∧ i = .int .i64 j ∧ 0 ≤ q ∧ q ≤ j ∧ Hid (Pair F wr B z1 z2 q ks) ∧ Hid (Below B w wr))
  case atStart => exact ⟨0, _, 0, [], by omega, rfl, rfl, by omega, by omega, HP0, HL0⟩
  case round =>
    clear HP0 HL0
    obtain ⟨j, F, q, ks, hj, rfl, rfl, hq0, hqj, HP, HL⟩ := hrel
    by_cases hlt : j < n
    · obtain ⟨bA, offA, x, rfl, hbA, hxx, hok, c0, c1, c2⟩ := (HAw.out.below HL.out).at_ hlt
      have hji : (j : Int) < (n : Int) := by omega
      have hj0 : (0 : Int) ≤ (j : Int) := Int.natCast_nonneg _
      have h40 := HS.out.1 x (List.mem_of_getElem? hxx)
      have hlen := hok.len
      obtain ⟨kd, xn, Ax, m, cx, bx⟩ := x
      simp only at c0 c1 c2 h40 hlen
      have hBr := HP.out.leB
      have HLT := hid (lent_any Ax m cx bx wr (hok.rd.more hBr) (by omega))
      have HOK := hid hok
      have HLN := hid (And.intro h40 hlen)
      clear hok hxx h40 hlen
      go_wp2_with (go_at_call 18; refine stop_ (fun Ps hPs => ?_))
      refine hPs ?_
      clear hPs Ps
      refine HLT.out.mono ?_
      clear HLT
      rintro e w2 ⟨v, rfl, hv, hb2⟩
      have hll : (lent bx).length = m + 3 := by have := HLN.out.2; simp [lent, spare]; omega
      rw [hll] at hv
      obtain ⟨f, cap, rfl⟩ : ∃ f cap, v = .slice (some ⟨f, 0, none⟩) (m + 3) cap := by
        rcases owned_form0 hv with ⟨_, h9⟩ | h9
        · omega
        · exact h9
      have hf := hv.lt f rfl
      have hcap := (owned_cap hv).1
      have P2 := HP.out.newF hb2 hf.1 hf.2
      have bB2 := hb2.mono hBr
      have k0 : w2.cell? ⟨bA, offA + j * 3, none⟩ = some (.int .i64 kd) ∧ w2.cell? ⟨bA, offA + j * 3 + 1, none⟩ = some (.int .i64 xn) ∧ w2.cell? ⟨bA, offA + j * 3 + 2, none⟩ = some (.slice Ax m cx) := ⟨(bB2.cell (p := ⟨bA, _, none⟩) hbA).trans c0, (bB2.cell (p := ⟨bA, _, none⟩) hbA).trans c1, (bB2.cell (p := ⟨bA, _, none⟩) hbA).trans c2⟩
      have K0 := hid k0
      have K1 := hid (show w2.drew.cell? ⟨bA, offA + j * 3, none⟩ = some (.int .i64 kd) ∧ w2.drew.cell? ⟨bA, offA + j * 3 + 1, none⟩ = some (.int .i64 xn) ∧ w2.drew.cell? ⟨bA, offA + j * 3 + 2, none⟩ = some (.slice Ax m cx) from k0)
      obtain ⟨d0, d1, d2⟩ := k0
      have hc := call19 (P2.later ((Below.refl w2.heap.size w2).drew)) ⟨kd, xn, Ax, m, cx, bx⟩ ⟨(HOK.out.rd.below bB2.drew), HOK.out.kind, HOK.out.n, HOK.out.le, HOK.out.max⟩ HLN.out.1 (some ⟨f, 0, none⟩) m cap (rd_full (cap := cap) HLN.out.2 (Rd.of_own hv).drew) hq0 (by omega)
      simp only [Am.v] at hc
      have HC := hid hc
      clear hc
      have HV2 := hid (And.intro hv (And.intro hf (And.intro bB2 hBr)))
      have hm3 : m ≤ cap := by omega
      have hm3i : (m : Int) ≤ (cap : Int) := by omega
      have hm0i : (0 : Int) ≤ (m : Int) := by omega
      clear c0 c1 c2 hb2 hv hf bB2 P2 hBr hll
      go_wp2_with fail
      go_region_held3 (fun w' => w'.cell? ⟨bA, offA + j * 3, none⟩ = some (.int .i64 kd) ∧ w'.cell? ⟨bA, offA + j * 3 + 1, none⟩ = some (.int .i64 xn) ∧ w'.cell? ⟨bA, offA + j * 3 + 2, none⟩ = some (.slice Ax m cx)) (first | (with_reducible exact K1.out) | (with_reducible exact K0.out) | (with_reducible exact K5.out))
        (first
          | (go_at_call 19; (with_reducible refine HC.out.mono ?_); rintro e5 w5 ⟨rfl, hp5, st5, b5⟩; have K5 := hid (show w5.cell? ⟨bA, offA + j * 3, none⟩ = some (.int .i64 kd) ∧ w5.cell? ⟨bA, offA + j * 3 + 1, none⟩ = some (.int .i64 xn) ∧ w5.cell? ⟨bA, offA + j * 3 + 2, none⟩ = some (.slice Ax m cx) from ⟨(b5.cell (p := ⟨bA, _, none⟩) hbA).trans d0, (b5.cell (p := ⟨bA, _, none⟩) hbA).trans d1, (b5.cell (p := ⟨bA, _, none⟩) hbA).trans d2⟩); have HP5 := hid hp5; have G5 := hid (And.intro st5 b5); clear hp5 st5 b5))
      -- KeptBytes
      obtain ⟨q5, ks5, hp5, hq5a, hq5b⟩ := HP5.out
      have hs5 := G5.out.2.size
      have hv5 := G5.out.1 _ _ _ _ (show w2.drew.ownsRow wr.heap.size 5 1 (.slice (some ⟨f, 0, none⟩) (m + 3) cap) (m + 3) (bts (lent bx)) from HV2.out.1)
      obtain ⟨e0, e1, e2⟩ := K5.out
      have hB5 := hp5.leB
      have bBw5 : Below B w w5 := HL.out.trans (HV2.out.2.2.1.drew.trans G5.out.2)
      have hkp := kept_any (some ⟨f, 0, none⟩) Ax (m + 3) cap m cx (lent bx) bx w5 (Rd.of_own hv5) (((HOK.out.rd.below HV2.out.2.2.1.drew).below G5.out.2).more hB5) (by have := HLN.out.1; omega) (by have := HLN.out.1; omega)
      rw [decide_eq_true (rfl : lent bx = lent bx)] at hkp
      have HKP := hid hkp
      have HP5 := hid hp5
      have HV5 := hid hv5
      have HB5 := hid bBw5
      have HF := hid HV2.out.2.1
      clear hkp hp5 hv5 bBw5 hs5 hB5 K0 K1 K5 G5 HC HV2 d0 d1 d2 e0 e1 hm3 hm3i hm0i hcap
      go_wp2_with (go_at_call 20; refine stop_ (fun Ps hPs => ?_))
      refine hPs ?_
      clear hPs Ps
      clear e2
      refine HKP.out.mono ?_
      clear HKP
      rintro e w6 ⟨rfl, b6⟩
      by_cases h40j : j < 40
      · have h40i : (j : Int) < 40 := by omega
        have P6 := HP5.out.later b6
        have hv6 := owned_later HV5.out b6
        have hB6 := HB5.out.trans (b6.mono HP5.out.leB)
        have HF1 := hid P6.flight1
        have HP6 := hid P6
        have HV6 := hid hv6
        have HB6 := hid hB6
        clear P6 hv6 hB6 b6 HP5 HV5 HB5
        go_wp2_with (go_at_call 21; refine stop_ (fun Ps hPs => ?_))
        refine hPs ?_
        clear hPs Ps
        refine HF1.out.mono ?_
        clear HF1
        rintro e w7 ⟨A7, c7, l7, rfl, o7, k7, y7, ap7, b7⟩
        have P7 := HP6.out.later b7
        have HF2 := hid P7.flight2
        have G7 := hid (And.intro o7 (And.intro k7 y7))
        have HP7 := hid P7
        have HV7 := hid (owned_later HV6.out b7)
        have HB7 := hid (HB6.out.trans (b7.mono HP6.out.leB))
        clear P7 o7 k7 y7 ap7 b7 HV6 HB6
        go_wp2_with (go_at_call 22; refine stop_ (fun Ps hPs => ?_))
        refine hPs ?_
        clear hPs Ps
        refine HF2.out.mono ?_
        clear HF2
        rintro e w8 ⟨A8, c8, l8, rfl, o8, k8, y8, ap8, b8⟩
        have hl7 : l7.length ≤ 512 := by have := HP7.out.le; have e9 := congrArg List.length G7.out.2.1; simp at e9; omega
        have hl8 : l8.length ≤ 512 := by have := HP7.out.le; have e9 := congrArg List.length k8; simp at e9; omega
        have hfl := flights16 A7 A8 c7 c8 _ _ l7 l8 w8 (Rd.of_own (owned_later G7.out.1 b8)) (Rd.of_own o8) (own_reads fun x hx => (G7.out.2.2 x hx).later b8) (own_reads y8) (by omega) (by omega)
        rw [decide_eq_true (show l7.map Lt.k = l8.map Lt.k by rw [G7.out.2.1, k8])] at hfl
        have HFL := hid hfl
        have HP8 := hid (HP7.out.later b8)
        have HV8 := hid (owned_later HV7.out b8)
        have HB8 := hid (HB7.out.trans (b8.mono HP7.out.leB))
        clear hfl hl7 hl8 o8 k8 y8 ap8 b8 G7 HP7 HV7 HB7
        go_wp2_with (go_at_call 16; refine stop_ (fun Ps hPs => ?_))
        refine hPs ?_
        clear hPs Ps
        refine HFL.out.mono ?_
        clear HFL
        rintro e w9 ⟨rfl, d, hd⟩
        have b9 : Below w8.heap.size w8 w9 := by rw [hd]; exact below_drewN (Below.refl _ _) d
        have P9 := HP8.out.later b9
        have hv9 := owned_later HV8.out b9
        have hB9 := HB8.out.trans (b9.mono HP8.out.leB)
        have HO := hid (over_all wr.heap.size (m + 3) _ (lent bx) w9 hv9)
        have HP9 := hid P9
        have HV9 := hid hv9
        have HB9 := hid hB9
        clear P9 hv9 hB9 b9 hd HP8 HV8 HB8
        go_wp2_with (go_at_call 23; refine stop_ (fun Ps hPs => ?_))
        refine hPs ?_
        clear hPs Ps
        refine HO.out.mono ?_
        clear HO
        rintro e w10 ⟨rfl, o10, g10⟩
        have HP10 := hid (HP9.out.wrote HV9.out (fun g hg => by injection hg with hg; exact hg.symm) g10)
        have HB10 := hid (HB9.out.grown g10 HP9.out.leB (fun g hg => f_le HP.out.leB HF.out.1 hg))
        clear o10 g10
        go_wp2_with fail
        go_roundg (n - (j + 1))
        case measure => omega
        case rel => exact ⟨j + 1, f, _, _, by omega, rfl, by go_num, by omega, by omega, HP10, HB10⟩
      · have h40i : ¬ (j : Int) < 40 := by omega
        have P6 := HP5.out.later b6
        have hv6 := owned_later HV5.out b6
        have hB6 := HB5.out.trans (b6.mono HP5.out.leB)
        have HO := hid (over_all wr.heap.size (m + 3) _ (lent bx) w6 hv6)
        have HP9 := hid P6
        have HV9 := hid hv6
        have HB9 := hid hB6
        clear P6 hv6 hB6 b6 HP5 HV5 HB5
        go_wp2_with (go_at_call 23; refine stop_ (fun Ps hPs => ?_))
        refine hPs ?_
        clear hPs Ps
        refine HO.out.mono ?_
        clear HO
        rintro e w10 ⟨rfl, o10, g10⟩
        have HP10 := hid (HP9.out.wrote HV9.out (fun g hg => by injection hg with hg; exact hg.symm) g10)
        have HB10 := hid (HB9.out.grown g10 HP9.out.leB (fun g hg => f_le HP.out.leB HF.out.1 hg))
        clear o10 g10
        go_wp2_with fail
        go_roundg (n - (j + 1))
        case measure => omega
        case rel => exact ⟨j + 1, f, _, _, by omega, rfl, by go_num, by omega, by omega, HP10, HB10⟩
    · obtain rfl : j = n := by omega
      have hji : ¬ (j : Int) < (j : Int) := by omega
      obtain ⟨Wa, rfl⟩ : ∃ W, W = wr := ⟨_, rfl⟩
      clear hj HAw HS HS0 HB0 HLL
      have HF1 := hid HP.out.flight1
      go_wp2_with (go_at_call 21; refine stop_ (fun Ps hPs => ?_))
      refine hPs ?_
      clear hPs Ps
      refine HF1.out.mono ?_
      clear HF1
      rintro e w1 ⟨A1, c1, la, rfl, o1, k1, y1, ap1, b1⟩
      have P1 := HP.out.later b1
      have HF2 := hid P1.flight2
      have G1 := hid (And.intro o1 (And.intro k1 (And.intro y1 (And.intro ap1 b1))))
      clear o1 k1 y1 ap1 b1 P1
      go_wp2_with (go_at_call 22; refine stop_ (fun Ps hPs => ?_))
      refine hPs ?_
      clear hPs Ps
      refine HF2.out.mono ?_
      clear HF2
      rintro e w2 ⟨A2, c2, lb, rfl, o2, k2, y2, ap2, b2⟩
      have hla : la.length ≤ 512 := by have := HP.out.le; have e9 := congrArg List.length G1.out.2.1; simp at e9; omega
      have hlb : lb.length ≤ 512 := by have := HP.out.le; have e9 := congrArg List.length k2; simp at e9; omega
      have hfl := flights16 A1 A2 c1 c2 _ _ la lb w2 (Rd.of_own (owned_later G1.out.1 b2)) (Rd.of_own o2) (own_reads fun x hx => (G1.out.2.2.1 x hx).later b2) (own_reads y2) (by omega) (by omega)
      rw [decide_eq_true (show la.map Lt.k = lb.map Lt.k by rw [G1.out.2.1, k2])] at hfl
      have HFL := hid hfl
      have G2 := hid (And.intro o2 (And.intro k2 (And.intro y2 b2)))
      have HN := hid (And.intro hla hlb)
      clear hfl hla hlb o2 k2 y2 ap2 b2
      go_wp2_with (go_at_call 16; refine stop_ (fun Ps hPs => ?_))
      refine hPs ?_
      clear hPs Ps
      refine HFL.out.mono ?_
      clear HFL
      rintro e w3 ⟨rfl, d, hd⟩
      have b3 : Below w2.heap.size w2 w3 := by rw [hd]; exact below_drewN (Below.refl _ _) d
      have b13 : Below Wa.heap.size Wa w3 := G1.out.2.2.2.2.trans ((G2.out.2.2.2.mono G1.out.2.2.2.2.size).trans (b3.mono (Nat.le_trans G1.out.2.2.2.2.size G2.out.2.2.2.size)))
      have P3 := HP.out.later b13
      have hg : Calls Try.prog 24 #[P z1, .slice A2 lb.length c2, .int .i64 st] w3 fun e w' => e = .returned (.bool true) ∧ Below w3.heap.size w3 w' := by
        obtain ⟨sv1, ls1, sv2, ls2, hd3, h1, h2⟩ := P3
        exact gone24 hd3.t1 A2 lb.length c2 lb (Rd.of_own (owned_later G2.out.1 b3)) rfl (by rw [G2.out.2.1, h1]) st HST.out
      have HG := hid hg
      have G3 := hid (And.intro b3 b13)
      clear hg b3 b13 P3 hd
      go_wp2_with (go_at_call 24; refine stop_ (fun Ps hPs => ?_))
      refine hPs ?_
      clear hPs Ps
      refine HG.out.mono ?_
      clear HG
      rintro e w4 ⟨rfl, b4⟩
      have G4 := hid (And.intro (G3.out.2.trans (b4.mono G3.out.2.size)) (And.intro ((G2.out.2.2.2.trans (G3.out.1.mono G2.out.2.2.2.size)).trans (b4.mono (by have := G3.out.1.size; have := G2.out.2.2.2.size; omega))) (G3.out.1.trans (b4.mono G3.out.1.size))))
      clear b4
      -- now: Wa to w4, w1 to w4, w2 to w4
      obtain ⟨m, hm⟩ : ∃ m, m = la.length := ⟨_, rfl⟩
      have HM := hid hm
      have hm5 : m ≤ 512 := by have := HN.out.1; omega
      have ho1 := owned_later G1.out.1 G4.out.2.1
      rw [← hm] at ho1 ⊢
      have HO1 := hid ho1
      have HY1 := hid (show ∀ x ∈ la, Own1 Wa.heap.size w4 x from fun x hx => (G1.out.2.2.1 x hx).later G4.out.2.1)
      obtain ⟨H4, hH4⟩ : ∃ H, H = w4.heap.size := ⟨_, rfl⟩
      have HH4 := hid hH4
      clear hm ho1 hH4
      go_wp2_with fail
      go_loopg [12, 13] m (fun g v i wr => ∃ k : Nat, k ≤ m ∧ g = m - k ∧ i = .int .i64 k ∧ Hid (wr.ownsRow H4 29 1 v k ((la.take k).map Lt.v)) ∧ Hid (Below H4 w4 wr))
      case atStart => exact ⟨0, by omega, rfl, rfl, hid (World.ownsRow_nil _ _ _ _), hid (Below.refl _ _)⟩
      case round =>
        obtain ⟨k, hk, rfl, rfl, HN1, HBq⟩ := hrel
        by_cases hlt : k < m
        · obtain ⟨x, hx⟩ : ∃ x, la[k]? = some x := ⟨la[k]'(by rw [← HM.out]; exact hlt), List.getElem?_eq_getElem _⟩
          have hbq : Below w4.heap.size w4 wr := by rw [← HH4.out]; exact HBq.out
          obtain ⟨g, off, rfl, hg, a0, a1, a2⟩ := ltAt (Rd.of_own (owned_later HO1.out hbq)) hx
          obtain ⟨Ax, cx, e9, _, _⟩ := owned_slice ((HY1.out x (List.mem_of_getElem? hx)).own)
          obtain ⟨xn, xt, xv, xb⟩ := x
          simp only at a0 a1 a2 e9
          subst e9
          have hki : (k : Int) < (m : Int) := by omega
          have hk0 : (0 : Int) ≤ (k : Int) := Int.natCast_nonneg _
          have hk5 : (k : Int) < 512 := by omega
          have HX := hid hx
          have hs : H4 ≤ wr.heap.size := by rw [HH4.out]; exact hbq.size
          have HS := hid hs
          clear hx hbq hg a0 a1 hs
          go_wp2_with (at_builtin; refine stop_ (fun Ps hPs => ?_))
          refine hPs ?_
          clear hPs Ps a2
          refine wpList_app1 T51 (.tmp 95) (.tmp 101) rfl rfl HN1.out rfl (cs := #[.slice Ax xb.length cx]) rfl rfl (by simp [Value.oneCell']) (by omega) HS.out fun v1 w5 hown1 hg1 hat1 => ?_
          have HN2 := hid hown1
          have HB2 := hid (below_append HBq.out HN1.out hg1 HS.out)
          clear hown1 hg1 hat1
          go_wp2_with fail
          go_roundg (m - (k + 1))
          case measure => omega
          case rel =>
            refine ⟨k + 1, by omega, rfl, by go_num, hid ?_, HB2⟩
            rw [take_succ_get? HX.out, List.map_append]
            exact HN2.out
        · obtain rfl : k = m := by omega
          have hki : ¬ (k : Int) < (k : Int) := by omega
          have htk : la.take k = la := List.take_of_length_le (by have := HM.out; omega)
          have hall := HN1.out
          rw [htk] at hall
          obtain ⟨Av, cv, rfl, _, _⟩ := owned_slice hall
          have hbq : Below w4.heap.size w4 wr := by rw [← HH4.out]; exact HBq.out
          have hsq : Wa.heap.size ≤ wr.heap.size := Nat.le_trans G4.out.1.size hbq.size
          have hap := apart_oth Wa.heap.size k cv Av (la.map Lt.v) (la.map Lt.b) wr (Rd.of_own hall) (by omega) (by rw [List.length_map]; exact HM.out.symm)
            (fun b hb => by obtain ⟨x, hx, rfl⟩ := List.mem_map.1 hb; have := (HY1.out x hx).le; omega)
            (fun i v b hv hb => by
              rw [List.getElem?_map] at hv hb
              cases hx : la[i]? with
              | none => rw [hx] at hv; cases hv
              | some x =>
                rw [hx] at hv hb
                obtain rfl : x.v = v := by simpa using hv
                obtain rfl : x.b = b := by simpa using hb
                exact ((HY1.out x (List.mem_of_getElem? hx)).later hbq).own)
            (fun i j vi vj hi hj hij => by
              rw [List.getElem?_map] at hi hj
              cases hx : la[i]? with
              | none => rw [hx] at hi; cases hi
              | some x =>
                cases hy : la[j]? with
                | none => rw [hy] at hj; cases hj
                | some y =>
                  rw [hx] at hi
                  rw [hy] at hj
                  obtain rfl : x.v = vi := by simpa using hi
                  obtain rfl : y.v = vj := by simpa using hj
                  exact G1.out.2.2.2.1 i j x y hx hy hij)
            (fun b off e v hv e9 => by
              obtain ⟨x, hx, rfl⟩ := List.mem_map.1 hv
              exact ne_by_type ((HY1.out x hx).later hbq).own hall (by decide) b e9 (by rw [e]; rfl))
            hsq
          have HAP := hid hap
          have HBQ := hid (And.intro hbq hsq)
          clear hap hall hbq hsq htk
          go_wp2_with (go_at_call 25; refine stop_ (fun Ps hPs => ?_))
          refine hPs ?_
          clear hPs Ps
          refine HAP.out.mono ?_
          clear HAP
          rintro e w5 ⟨rfl, b5, hoth⟩
          have hbr5 : Below Wa.heap.size Wa w5 := (G4.out.1.trans (HBQ.out.1.mono G4.out.1.size)).trans b5
          have hstill : ∀ g, w1.heap.size ≤ g → g < wr.heap.size → w5.heap[g]? = wr.heap[g]? := fun g h1 h2 => hoth g h2 (fun v hv e9 => by
            obtain ⟨x, hx, rfl⟩ := List.mem_map.1 hv
            have := ((G1.out.2.2.1 x hx).own.lt g e9).2
            omega)
          have b2q : Below w2.heap.size w2 wr := G4.out.2.2.trans (HBQ.out.1.mono G4.out.2.2.size)
          have ob : w5.ownsRow w1.heap.size 31 3 (.slice A2 lb.length c2) lb.length (ltc lb) := by
            have h9 := owned_later G2.out.1 b2q
            exact owned_still h9 fun g hg => hstill g (h9.lt g hg).1 (h9.lt g hg).2
          have yb : ∀ x ∈ lb, Own1 w1.heap.size w5 x := fun x hx => by
            have h9 := (G2.out.2.2.1 x hx).later b2q
            exact h9.keep (owned_still h9.own fun g hg => hstill g (h9.own.lt g hg).1 (h9.own.lt g hg).2)
          have P5 := HP.out.later hbr5
          have HF1 := hid P5.flight1
          have G5 := hid (And.intro ob (And.intro yb hbr5))
          clear hbr5 hstill b2q ob yb P5 b5 hoth
          go_wp2_with (go_at_call 21; refine stop_ (fun Ps hPs => ?_))
          refine hPs ?_
          clear hPs Ps
          refine HF1.out.mono ?_
          clear HF1
          rintro e w6 ⟨A6, c6, lc, rfl, o6, k6, y6, ap6, b6⟩
          have hlc : lc.length ≤ 512 := by have := HP.out.le; have e9 := congrArg List.length k6; simp at e9; omega
          have hfl := flights16 A6 A2 c6 c2 _ _ lc lb w6 (Rd.of_own o6) (Rd.of_own (owned_later G5.out.1 b6)) (own_reads y6) (own_reads fun x hx => (G5.out.2.1 x hx).later b6) (by omega) (by have := HN.out.2; omega)
          rw [decide_eq_true (show lc.map Lt.k = lb.map Lt.k by rw [k6, G2.out.2.1])] at hfl
          have HFL := hid hfl
          have HB6 := hid (HL.out.trans ((G5.out.2.2.trans (b6.mono G5.out.2.2.size)).mono HP.out.leB))
          have HPL := hid (Nat.le_trans HP.out.leB (Nat.le_trans G5.out.2.2.size b6.size))
          clear hfl hlc o6 k6 y6 ap6 b6
          go_wp2_with (go_at_call 16; refine stop_ (fun Ps hPs => ?_))
          refine hPs ?_
          clear hPs Ps
          refine HFL.out.mono ?_
          clear HFL
          rintro e w7 ⟨rfl, d, hd⟩
          have HB7 := hid (show Below B w w7 by rw [hd]; exact below_drewN HB6.out d)
          clear hd
          go_wp2_with fail
          go_ret
          exact ⟨rfl, HB7.out⟩
end Go.Proofs.Ytigedoonhmaghaa
