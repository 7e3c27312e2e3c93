/- LinkOnce: the walk. -/
import Derived.Test.YtigedoonhmaghaaOb
import Derived.Test.YtigedoonhmaghaaNm
import Derived.Deep.DrawnRows
import Derived.Deep.Cut
import Derived.IntWalk
namespace Go.Proofs.Ytigedoonhmaghaa
open Go.RowKit Go.Lg
set_option linter.unusedVariables false
set_option linter.unusedSimpArgs false
attribute [local go_sem ↓] Go.wp_at_zero Go.wp_at_succ

/-- In flight: the place of the number. -/
theorem in_or_out (n : Int) (os : List Bool) : (∃ i : Nat, n = i ∧ os[i]? = some false) ∨ (∀ i : Nat, n = i → os[i]? ≠ some false) := by
  by_cases h : ∃ i : Nat, n = i ∧ os[i]? = some false
  · exact .inl h
  · exact .inr fun i h1 h2 => h ⟨i, h1, h2⟩
theorem On.start {B z : Nat} {w w1 w2 w3 : World} {vs vo : Value} (h1 : LX false w1 B z 0 (.slice none 0 0) []) (hb : Below B w w1) (hS : w1.ownsRow B 31 3 vs 1 (ltc [nolt])) (hO : w1.ownsRow B 4 1 vo 1 (bls [true])) :
    On B z w w1 vs vo 0 [nolt] [true] (.slice none 0 0) [] :=
  ⟨rfl, rfl, fun i x h => by
    rcases i with _ | i
    · simp at h; subst h; rfl
    · simp at h, rfl, h1, rfl, fun g hg => by simp [Value.ownBlock] at hg, hS, hO, fun x hx => by
    simp at hx
    subst hx
    exact ⟨none, 0, rfl, Rd.nil_, by decide⟩, hb⟩
theorem on_more {B z q : Nat} {w X w2 w3 w4 : World} {vs vo v3 v4 sv sv2 : Value} {s ls ls2 : List Lt} {os : List Bool} {y : Lt} (h : On B z w X vs vo q s os sv ls) (hx2 : LX false w2 B z ((q : Int) + 1) sv2 ls2) (hk2 : ls2.map Lt.k = fl s os ++ [y.k])
    (hne2 : ∀ g, sv2.ownBlock = some g → vs.ownBlock ≠ some g) (hrS2 : w2.ownsRow B 31 3 vs (q + 1) (ltc s)) (hrO2 : w2.ownsRow B 4 1 vo (q + 1) (bls os)) (hrd2 : ReadsB w2 B s) (hlow2 : Below B w w2) (hy : y.n = (q : Int) + 1)
    (hyb : ∃ A c, y.v = .slice A y.b.length c ∧ Rd w2 B 1 A y.b.length (bts y.b) ∧ y.b.length ≤ 40) (hS3 : w3.ownsRow B 31 3 v3 (q + 1 + 1) (ltc s ++ y.cs)) (hg3 : w2.grownBy w3 vs.ownBlock) (hat3 : ∀ g, v3.ownBlock = some g → vs.ownBlock = some g ∨ w2.heap.size ≤ g)
    (hO4 : w4.ownsRow B 4 1 v4 (q + 1 + 1) (bls os ++ [.bool false])) (hg4 : w3.grownBy w4 vo.ownBlock) : On B z w w4 v3 v4 (q + 1) (s ++ [y]) (os ++ [false]) sv2 ls2 := by
  have hB2 := hx2.leB
  have hx3 := hx2.row hrS2 (by decide) (by decide) hne2 hg3
  have hO3 := owned_gb hrO2 hg3 (fun g h1 h2 => ne_by_type hrO2 hrS2 (by decide) g h1 h2.symm)
  have hb23 := below_append (Below.refl B w2) hrS2 hg3 hB2
  have hB3 := hx3.leB
  have hx4 := hx3.row hO3 (by decide) (by decide) (ne_by_type hx3.own hO3 (by decide)) hg4
  have hb34 := below_append (Below.refl B w3) hO3 hg4 hB3
  have hb24 := hb23.trans hb34
  refine ⟨by simp [h.len], by simp [h.eq], ?_, ?_, by push_cast; exact hx4, ?_, ?_, ?_, ?_, ?_, hlow2.trans hb24⟩
  · intro i x hx
    rcases Nat.lt_or_ge i s.length with h1 | h1
    · rw [List.getElem?_append_left h1] at hx
      exact h.num i x hx
    · have h2 := (List.getElem?_eq_some_iff.1 hx).1
      simp at h2
      obtain rfl : i = s.length := by omega
      rw [List.getElem?_append_right (Nat.le_refl _)] at hx
      simp at hx
      subst hx
      rw [hy, h.len]
      push_cast
      rfl
  · rw [List.getElem?_append_left (by rw [h.eq]; omega)]
    exact h.o0
  · rw [fl_snoc y s os (by rw [h.len, h.eq]), hk2]
  · intro g hg hg2
    rcases hat3 g hg2 with h1 | h1
    · exact hne2 g hg h1
    · have := (hx2.own.lt g hg).2
      omega
  · have e : ltc (s ++ [y]) = ltc s ++ y.cs := by rw [ltc_app]; simp [ltc]
    rw [e]
    exact owned_gb hS3 hg4 (fun g h1 h2 => ne_by_type hS3 hO3 (by decide) g h1 h2.symm)
  · rw [bls_snoc]
    exact hO4
  · intro x hx
    rw [List.mem_append, List.mem_singleton] at hx
    rcases hx with hx | rfl
    · exact hrd2.below hb24 x hx
    · obtain ⟨A, c, h1, h2, h3⟩ := hyb
      exact ⟨A, c, h1, h2.below hb24, h3⟩
theorem on_over {B z q i go co : Nat} {w X W : World} {vs vo sv sv2 : Value} {s ls ls2 : List Lt} {os : List Bool} (h : On B z w X vs vo q s os sv ls) (hx2 : LX false W B z q sv2 ls2) (hk2 : ls2.map Lt.k = fl s (os.set i true))
    (hne2 : ∀ g, sv2.ownBlock = some g → vs.ownBlock ≠ some g) (hrS2 : W.ownsRow B 31 3 vs (q + 1) (ltc s)) (hrO2 : W.ownsRow B 4 1 (.slice (some ⟨go, 0, none⟩) (q + 1) co) (q + 1) (bls os)) (hrd2 : ReadsB W B s) (hlow2 : Below B w W) (hi : i ≠ 0) :
    On B z w (W.setCell ⟨go, i, none⟩ (.bool true)) vs (.slice (some ⟨go, 0, none⟩) (q + 1) co) q s (os.set i true) sv2 ls2 := by
  have hst := hrO2.stored i (.bool true)
  have hb := below_append (Below.refl B W) hrO2 hst.2 hx2.leB
  refine ⟨h.len, by simp [h.eq], h.num, ?_, hx2.row hrO2 (by decide) (by decide) (ne_by_type hx2.own hrO2 (by decide)) hst.2, hk2, hne2, owned_gb hrS2 hst.2 (fun g h1 h2 => ne_by_type hrS2 hrO2 (by decide) g h1 h2.symm), ?_, hrd2.below hb, hlow2.trans hb⟩
  · rw [List.getElem?_set_ne hi]
    exact h.o0
  · rw [← bls_set]
    exact hst.1
theorem rd_sub {w : World} {B n g i : Nat} {s : List Lt} {y : Lt} (h : Rd w B 3 (some ⟨g, 0, none⟩) n (ltc s)) (hy : s[i]? = some y) : Rd w B 3 (some ⟨g, i * 3, none⟩) 1 (ltc [y]) := by
  obtain ⟨g', off', e, hg, c0, c1, c2⟩ := ltAt h hy
  injection e with e
  injection e with e1 e2
  subst e1 e2
  rw [Nat.zero_add] at c0 c1 c2
  refine ⟨by rw [ltc_length]; rfl, fun _ => ⟨g, i * 3, rfl, hg, fun j u hu => ?_⟩⟩
  have e : ltc [y] = [.int .i64 y.n, .int .i64 y.to, y.v] := rfl
  rw [e] at hu
  rcases j with _ | _ | _ | j
  · simp at hu; subst hu; exact c0
  · simp at hu; subst hu; exact c1
  · simp at hu; subst hu; exact c2
  · simp at hu
theorem twices_good {rf : Bool} {B z : Nat} {sv : Value} {last n : Int} {ks : List Key} {w w' : World} {en : Ending} (he : tE n ks = 0) (h : Twices rf B z sv last n ks w en w') : Send rf B z sv (last + 1) 0 (last + 1) (ks ++ [(last + 1, (dX n ks).2)]) w en w' := by
  simpa only [Twices, tR, tL, tK, he, if_true] using h
set_option maxHeartbeats 16000000 in
set_option maxRecDepth 100000 in
theorem once4 (A : Option Addr) (n c : Nat) (l : List Am) (w : World) (h : AS w w.heap.size A n l) (hn : n ≤ 4611686018427387904) :
    Calls Try.prog 4 #[.slice A n c] w fun e w' => e = .returned (.bool true) ∧ Below w.heap.size w w' := by
  obtain ⟨B, hB⟩ : ∃ B, B = w.heap.size := ⟨_, rfl⟩
  have HB := hid hB
  have HA := hid h
  rw [← hB]
  clear hB h
  have HV := hid (lives8 w)
  go_enter Try.func4, Try.ntmps4
  go_wp2_with (go_at_call 8; refine stop_ (fun Ps hPs => ?_))
  refine hPs ?_
  clear hPs Ps
  refine HV.out.mono ?_
  rintro e w0 ⟨rfl, hb0⟩
  rw [← HB.out] at hb0
  have hA0 : AS w0 B A n l := (by have := HA.out; rw [← HB.out] at this; exact this : AS w B A n l).below hb0
  have hs0 : B ≤ w0.heap.size := by have := hb0.size; rw [← HB.out] at this; exact this
  have HAw := hid (show AS w B A n l by have := HA.out; rw [← HB.out] at this; exact this)
  have hsm := small14 A n c l w0 ⟨hA0.1.more hs0, hA0.2.1, fun x hx => by
    have h9 := hA0.2.2 x hx
    exact ⟨h9.rd.more hs0, h9.kind, h9.n, h9.le, h9.max⟩⟩ hn
  by_cases hS : Small l
  · rw [decide_eq_true hS] at hsm
    have HSM := hid hsm
    have HS := hid hS
    have HB0 := hid hb0
    have HS0 := hid hs0
    have h12 : n ≤ 1200 := by have := hS.2; have := hA0.2.1; omega
    clear hsm hS hb0 hs0 hA0 HA HV hn
    go_wp2_with (go_at_call 14; refine stop_ (fun Ps hPs => ?_))
    refine hPs ?_
    clear hPs Ps
    refine HSM.out.mono ?_
    rintro e w00 ⟨rfl, h9⟩
    subst h9
    clear HSM
    go_wp2_with (go_at_call 9; refine stop_ (fun Ps hPs => ?_))
    refine hPs ?_
    clear hPs Ps
    refine (new9 w00).mono ?_
    rintro e w1 ⟨z, rfl, h1, hb1, hz1⟩
    have hx1 : LX false w1 B z 0 (.slice none 0 0) [] := ⟨Nat.le_trans HS0.out h1.hB, h1.blk, owned_less h1.own HS0.out, h1.le, fun x hx => absurd hx List.not_mem_nil⟩
    have hl1 := HB0.out.trans (hb1.mono HS0.out)
    have hs1 : B ≤ w1.heap.size := Nat.le_trans HS0.out hb1.size
    obtain ⟨X, hX⟩ : ∃ X, X = w1.alloc (.cells #[.int .i64 0, .int .i64 0, .slice none 0 0] 31) := ⟨_, rfl⟩
    obtain ⟨Y, hY⟩ : ∃ Y, Y = X.alloc (.cells #[.bool true] 4) := ⟨_, rfl⟩
    have bX : Below w1.heap.size w1 X := by rw [hX]; exact (Below.refl _ _).alloc (Nat.le_refl _) _
    have bY : Below X.heap.size X Y := by rw [hY]; exact (Below.refl _ _).alloc (Nat.le_refl _) _
    have sX : X.heap.size = w1.heap.size + 1 := by rw [hX]; simp
    have rS : X.ownsRow B 31 3 (.slice (some ⟨w1.heap.size, 0, none⟩) 1 1) 1 (ltc [nolt]) := by rw [hX]; exact World.ownsRow_lit w1 #[.int .i64 0, .int .i64 0, .slice none 0 0] 1 hs1 (by decide) rfl
    have rO : Y.ownsRow B 4 1 (.slice (some ⟨w1.heap.size + 1, 0, none⟩) 1 1) 1 (bls [true]) := by
      have := World.ownsRow_lit (base := B) (e := 4) (size := 1) X #[.bool true] 1 (by omega) (by decide) rfl
      rw [← hY, sX] at this
      exact this
    have bXY := bX.trans (bY.mono (by omega))
    have HO := hid (On.start (w2 := Y) (w3 := Y) (hx1.later bXY) (hl1.trans (bXY.mono hs1)) (owned_later rS bY) rO)
    have hY' : Y = (w1.alloc (.cells #[.int .i64 0, .int .i64 0, .slice none 0 0] 31)).alloc (.cells #[.bool true] 4) := by rw [hY, hX]
    clear h1 hb1 hz1 hx1 hl1 hs1 hX hY bX bY sX rS rO bXY
    go_upto_region 8 with (fail)
    rw [← hY']
    clear hY'
    go_wp2_with fail
    go_loopg [4, 5, 6, 7, 8, 9, 10, 11, 12, 13, 14] n (fun g vs vo i _ _ _ _ _ _ _ _ wr => ∃ (j q : Nat) (s : List Lt) (os : List Bool) (sv : Value) (ls : List Lt), j ≤ n ∧ g = n - j ∧ i = .int .i64 j ∧ q ≤ j ∧ Hid (On B z w wr vs vo q s os sv ls))
    case atStart => exact ⟨0, 0, _, _, _, _, by omega, rfl, rfl, Nat.le_refl _, HO⟩
    case round =>
      clear HO
      obtain ⟨j, q, s, os, sv, ls, hj, rfl, rfl, hqj, HO⟩ := hrel
      by_cases hlt : j < n
      · obtain ⟨bA, offA, x, rfl, hbA, hxx, hok, c0, c1, c2⟩ := (HAw.out.below HO.out.low).at_ hlt
        have hji : (j : Int) < (n : Int) := by omega
        have hj0 : (0 : Int) ≤ (j : Int) := Int.natCast_nonneg _
        have h40 := HS.out.1 x (List.mem_of_getElem? hxx)
        have hlen := hok.len
        obtain ⟨kd, xn, Ax, m, cx, bx⟩ := x
        simp only at c0 c1 c2 h40 hlen
        have bX : Below wr.heap.size wr (wr.alloc (.cells #[.int .i64 kd, .int .i64 xn, .slice Ax m cx] 40)) := (Below.refl _ _).alloc (Nat.le_refl _) _
        have kX := Blk.new wr 40 #[.int .i64 kd, .int .i64 xn, .slice Ax m cx]
        obtain ⟨X, hX⟩ : ∃ X, X = wr.alloc (.cells #[.int .i64 kd, .int .i64 xn, .slice Ax m cx] 40) := ⟨_, rfl⟩
        rw [← hX] at bX kX
        have hO := HO.out.later bX
        have a0 : X.cell? ⟨wr.heap.size, 0, none⟩ = some (.int .i64 kd) := kX.cell 0
        have HP := hid (pick15 kd 4 (by decide) (by decide) hok.kind X)
        have HOX := hid hO
        have HKX := hid kX
        have HOK := hid ((HAw.out.below hO.low).2.2 _ (List.mem_of_getElem? hxx))
        have H40 := hid (And.intro h40 hlen)
        have HRZ := hid (show wr.heap.size ≠ z ∧ (∀ g, sv.ownBlock = some g → g < wr.heap.size) ∧ wr.heap.size < X.heap.size from ⟨fun e => by have := HO.out.lx.blk.lt; omega, fun g hg => (HO.out.lx.own.lt g hg).2, kX.lt⟩)
        clear bX kX hO hok h40 hlen hxx
        go_wp2_with (go_at_call 15; refine stop_ (fun Ps hPs => ?_))
        refine hPs ?_
        clear hPs Ps c0 c1 c2
        rw [← hX]
        clear hX
        refine HP.out.mono ?_
        rintro e X' ⟨r, rfl, hr, h9⟩
        subst h9
        clear HP a0
        have a1 : X'.cell? ⟨wr.heap.size, 1, none⟩ = some (.int .i64 xn) := HKX.out.cell 1
        have a2 : X'.cell? ⟨wr.heap.size, 2, none⟩ = some (.slice Ax m cx) := HKX.out.cell 2
        obtain rfl | rfl | rfl | rfl : r = 0 ∨ r = 1 ∨ r = 2 ∨ r = 3 := by omega
        · -- Send
          as_aux_lemma =>
            clear hr
            have hs := send10 HOX.out.lx (by omega) (by omega) xn Ax m cx bx (HOK.out.rd.more HOX.out.leB) (by have := H40.out; omega)
            rw [HOX.out.ks] at hs
            have HSd := hid hs
            clear hs
            go_wp2_with (go_at_call 10; refine stop_ (fun Ps hPs => ?_))
            refine hPs ?_
            clear hPs Ps a1 a2
            by_cases hE : sE xn (fl s os) = 0
            · refine (HSd.out.mono (fun e w' h => sends_good hE h)).mono ?_
              rintro e w2 ⟨rfl, hl⟩
              have hT := hl.two
              obtain ⟨sv2, ls2, hx2, hk2, hne2, hrS2, hrO2, hrd2, hlow2⟩ := HOX.out.call hl
              have kX2 := blk_two HKX.out hT HRZ.out.1 (fun b hb e => by have := HRZ.out.2.1 b hb; omega)
              have a1 : w2.cell? ⟨wr.heap.size, 1, none⟩ = some (.int .i64 xn) := kX2.cell 1
              have a2 : w2.cell? ⟨wr.heap.size, 2, none⟩ = some (.slice Ax m cx) := kX2.cell 2
              obtain ⟨AS1, cS1, e9, hS1, hS2⟩ := owned_slice hrS2
              subst e9
              have hB2 : B ≤ w2.heap.size := hx2.leB
              have hq5 : (q : Int) ≤ 1200 := by omega
              have HE := hid (And.intro hE hk2)
              have HX2 := hid hx2
              have HN2 := hid hne2
              have HRS := hid hrS2
              have HRO := hid hrO2
              have HRD := hid hrd2
              have HLW := hid hlow2
              have HYR := hid (HOK.out.rd.below (HOX.out.lx.low hl.two))
              clear hE hk2 hx2 hne2 hrS2 hrO2 hrd2 hlow2 hl hT kX2 HSd HKX
              simp only [two]
              go_wp2_with (at_builtin; refine stop_ (fun Ps hPs => ?_))
              refine hPs ?_
              clear hPs Ps a1 a2
              refine wpList_app1 T37 (.tmp 85) (.tmp 92) rfl rfl HRS.out rfl (cs := #[.int .i64 ((q : Int) + 1), .int .i64 xn, .slice Ax m cx]) rfl rfl (by simp [Value.oneCell']) (by omega) hB2 fun v3 w3 hS3 hg3 hat3 => ?_
              have hat3' : ∀ g, v3.ownBlock = some g → (Value.slice AS1 (q + 1) cS1).ownBlock = some g ∨ w2.heap.size ≤ g := fun g hg => by
                rcases hat3 with h1 | h1
                · exact .inl (h1 ▸ hg)
                · rw [h1] at hg; injection hg with hg; exact .inr (by omega)
              clear hat3
              have HYB := hid (show ∃ A c, (⟨(q : Int) + 1, xn, .slice Ax m cx, bx⟩ : Lt).v = .slice A bx.length c ∧ Rd w2 B 1 A bx.length (bts bx) ∧ bx.length ≤ 40 from ⟨Ax, cx, by rw [H40.out.2], by rw [H40.out.2]; exact HYR.out, by have := H40.out; omega⟩)
              have HO3 := hid (owned_gb HRO.out hg3 (fun g h1 h2 => ne_by_type HRO.out HRS.out (by decide) g h1 h2.symm))
              have hB3 : B ≤ w3.heap.size := Nat.le_trans hB2 hg3.size
              have HG3 := hid (And.intro hS3 (And.intro hg3 hat3'))
              clear hS3 hg3 hat3'
              go_wp2_with (at_builtin; refine stop_ (fun Ps hPs => ?_))
              refine hPs ?_
              clear hPs Ps
              refine wpList_app1 T38 (.tmp 94) (.tmp 95) rfl rfl HO3.out rfl (cs := #[.bool false]) rfl rfl (by simp [Value.oneCell']) (by omega) hB3 fun v4 w4 hO4 hg4 hat4 => ?_
              have HON := hid (on_more (y := ⟨(q : Int) + 1, xn, .slice Ax m cx, bx⟩) HOX.out HX2.out HE.out.2 HN2.out HRS.out HRO.out HRD.out HLW.out rfl HYB.out HG3.out.1 HG3.out.2.1 HG3.out.2.2 hO4 hg4)
              clear hO4 hg4 hat4
              go_wp2_with fail
              go_roundg (n - (j + 1))
              case measure => omega
              case rel => exact ⟨j + 1, q + 1, _, _, _, _, by omega, rfl, by go_num, by omega, HON⟩
            · refine (HSd.out.mono (fun e w' h => sends_err rfl hE h)).mono ?_
              rintro e w2 ⟨rfl, hl⟩
              obtain ⟨ee, hee⟩ : ∃ ee, ee = sE xn (fl s os) := ⟨_, rfl⟩
              have hb0 : (ee == 0) = false := by rw [hee]; exact beq_false_of_ne hE
              rw [← hee]
              have HON := hid (HOX.out.same rfl HOX.out.o0 hl id)
              obtain ⟨sv9, ls9, h9⟩ := HON.out
              have HO9 := hid h9
              clear h9 HON
              clear hl hee hE HSd
              simp only [two]
              go_wp2_with fail
              go_roundg (n - (j + 1))
              case measure => omega
              case rel => exact ⟨j + 1, q, _, _, _, _, by omega, rfl, by go_num, by omega, HO9⟩
        · -- Deliver
          as_aux_lemma =>
            clear hr
            have hs := deliver12 HOX.out.lx xn
            rw [HOX.out.ks] at hs
            have HSd := hid hs
            clear hs
            have vform : ∃ go co, u5 = .slice (some ⟨go, 0, none⟩) (q + 1) co := by
              rcases owned_form0 HOX.out.rowO with ⟨_, e⟩ | e
              · omega
              · exact e
            obtain ⟨go, co, rfl⟩ := vform
            have vsform : ∃ gs cs, u4 = .slice (some ⟨gs, 0, none⟩) (q + 1) cs := by
              rcases owned_form0 HOX.out.rowS with ⟨_, e⟩ | e
              · omega
              · exact e
            obtain ⟨gs, cs, rfl⟩ := vsform
            have hcs := (owned_cap HOX.out.rowS).1
            have hq5 : (q : Int) ≤ 1200 := by omega
            go_wp2_with (go_at_call 12; refine stop_ (fun Ps hPs => ?_))
            refine hPs ?_
            clear hPs Ps a1 a2
            refine HSd.out.mono ?_
            rintro e w2 ⟨x5, hk5, rfl, hl, ho5, h5⟩
            obtain ⟨yn, yt, yv, yb⟩ := x5
            obtain ⟨A5, c5, e9, _, _⟩ := owned_slice ho5
            simp only at e9
            subst e9
            simp only at ho5 h5
            simp only [lv]
            have hT := hl.two
            have kX2 := blk_two HKX.out hT HRZ.out.1 (fun b hb e => by have := HRZ.out.2.1 b hb; omega)
            have bY := (Below.refl w2.heap.size w2).alloc (Nat.le_refl _) (.cells #[.int .i64 yn, .int .i64 yt, .slice A5 yb.length c5] 31)
            have kY := Blk.new w2 31 #[.int .i64 yn, .int .i64 yt, .slice A5 yb.length c5]
            obtain ⟨Y, hY⟩ : ∃ Y, Y = w2.alloc (.cells #[.int .i64 yn, .int .i64 yt, .slice A5 yb.length c5] 31) := ⟨_, rfl⟩
            rw [← hY] at bY kY
            have hlY := hl.behind bY
            have kXY := kX2.later bY
            have hoY := owned_later ho5 bY
            have a1 : Y.cell? ⟨wr.heap.size, 1, none⟩ = some (.int .i64 xn) := kXY.cell 1
            rcases in_or_out xn os with ⟨i, rfl, hoi⟩ | hout
            · -- in flight
              have hi0 : i ≠ 0 := by rintro rfl; rw [HOX.out.o0] at hoi; cases hoi
              have hiq : i < q + 1 := by have := (List.getElem?_eq_some_iff.1 hoi).1; rw [HOX.out.eq] at this; exact this
              obtain ⟨y, hy, e1, e2, e3⟩ := fl_in (n := (i : Int)) HOX.out.num (by rw [HOX.out.len, HOX.out.eq]) i rfl hoi
              rw [e1]
              rw [e3] at hlY
              rw [e2] at hk5
              obtain ⟨sv2, ls2, hx2, hk2, hne2, hrS2, hrO2, hrd2, hlow2⟩ := HOX.out.call hlY
              have ov : Y.cell? ⟨go, i, none⟩ = some (.bool false) := by
                rw [hrO2.cellAt i (by omega), bls_get, hoi]
                rfl
              have qi1 : (1 : Int) ≤ (i : Int) := by omega
              have qi2 : (i : Int) < (q : Int) + 1 := by omega
              have qi3 : (i : Int) ≤ 1200 := by omega
              have HP2 := hid (And.intro hx2 (And.intro hk2 (And.intro hne2 (And.intro hrS2 (And.intro hrO2 (And.intro hrd2 hlow2))))))
              have HI := hid (And.intro hi0 (And.intro hiq hoi))
              have HKY := hid kXY
              have HKV := hid kY
              have HY5 := hid (And.intro hk5 (And.intro hoY h5))
              have HSY := hid (And.intro hy e2)
              clear hy e1 e2 e3 hx2 hk2 hne2 hrS2 hrO2 hrd2 hlow2 hl hlY hT kX2 kXY kY bY hoY ho5 h5 hk5 hi0 hiq hoi HSd HKX
              rw [hY] at a1 ov
              go_upto_region 37 with (fail)
              rw [← hY] at a1 ov ⊢
              clear hY ov
              obtain ⟨zn, zt, zv, zb⟩ := y
              obtain ⟨Az, cz, ez, hzr, hz40⟩ := HP2.out.2.2.2.2.2.1 _ (List.mem_of_getElem? HSY.out.1)
              simp only at ez hzr hz40
              subst ez
              have bZ : Below Y.heap.size Y ((Y.alloc (.cells #[.int .i64 yn, .int .i64 yt, .slice A5 yb.length c5] 31)).drew) := ((Below.refl _ Y).alloc (Nat.le_refl _) _).drew
              have rowa := (Rd.lit0 (sz := 3) Y #[.int .i64 yn, .int .i64 yt, .slice A5 yb.length c5] 31 1 rfl).drew
              obtain ⟨Z, hZ⟩ : ∃ Z, Z = (Y.alloc (.cells #[.int .i64 yn, .int .i64 yt, .slice A5 yb.length c5] 31)).drew := ⟨_, rfl⟩
              rw [← hZ] at bZ rowa
              have hBY := HP2.out.1.leB
              have rowb := rd_sub (Rd.of_own (owned_later HP2.out.2.2.2.1 bZ)) HSY.out.1
              have o5 := owned_later HY5.out.2.1 bZ
              have hfl := flights16 (some ⟨Y.heap.size, 0, none⟩) (some ⟨gs, i * 3, none⟩) 1 (cs - i) _ _ [⟨yn, yt, .slice A5 yb.length c5, yb⟩] [⟨zn, zt, .slice Az zb.length cz, zb⟩] Z rowa rowb
                (fun x hx => by
                  simp at hx
                  subst hx
                  exact ⟨A5, c5, rfl, Rd.of_own o5, HY5.out.2.2⟩)
                (fun x hx => by
                  simp at hx
                  subst hx
                  exact ⟨Az, cz, rfl, (hzr.below (bZ.mono hBY)).more (Nat.le_trans hBY bZ.size), hz40⟩) (by simp) (by simp)
              have hkk : [(⟨yn, yt, .slice A5 yb.length c5, yb⟩ : Lt)].map Lt.k = [(⟨zn, zt, .slice Az zb.length cz, zb⟩ : Lt)].map Lt.k := by
                have h9 := HY5.out.1
                simp only [List.map_cons, List.map_nil, h9]
              rw [decide_eq_true hkk] at hfl
              simp only [List.length_cons, List.length_nil, Nat.zero_add] at hfl
              rw [hZ] at hfl
              have HFL := hid hfl
              have HBZ := hid (show Below Y.heap.size Y (Y.alloc (.cells #[.int .i64 yn, .int .i64 yt, .slice A5 yb.length c5] 31)).drew by rw [← hZ]; exact bZ)
              clear bZ rowa hZ rowb o5 hfl hkk hzr hz40 hBY
              have k0 : Y.cell? ⟨w2.heap.size, 0, none⟩ = some (.int .i64 yn) := HKV.out.cell 0
              have k1 : Y.cell? ⟨w2.heap.size, 1, none⟩ = some (.int .i64 yt) := HKV.out.cell 1
              have k2 : Y.cell? ⟨w2.heap.size, 2, none⟩ = some (.slice A5 yb.length c5) := HKV.out.cell 2
              have i1 : ¬ cs = i := by have := HI.out.2.1; omega
              have i2 : (0 : Int) ≤ (i : Int) := by omega
              have i3 : (0 : Int) ≤ (i : Int) + 1 := by omega
              have i4 : (i : Int) + 1 ≤ (cs : Int) := by omega
              have i5 : (i : Int) ≤ (i : Int) + 1 := by omega
              have i6 : i ≤ cs := by omega
              have i7 : i + 1 ≤ cs := by omega
              have i8 : (i : Int) ≤ (cs : Int) := by omega
              have i10 : ((i : Int) + 1).toNat = i + 1 := by omega
              have i9 : IntKind.i64.wrap ((i : Int) + 1) = (i : Int) + 1 := IntWalk.i64_in _ (by omega)
              have a1' : (Y.alloc (.cells #[.int .i64 yn, .int .i64 yt, .slice A5 yb.length c5] 31)).cell? ⟨wr.heap.size, 1, none⟩ = some (.int .i64 (i : Int)) := (HKY.out.alloc _).cell 1
              have K1 := hid (show Y.drew.cell? ⟨w2.heap.size, 0, none⟩ = some (.int .i64 yn) ∧ Y.drew.cell? ⟨w2.heap.size, 1, none⟩ = some (.int .i64 yt) ∧ Y.drew.cell? ⟨w2.heap.size, 2, none⟩ = some (.slice A5 yb.length c5) ∧ Y.drew.cell? ⟨wr.heap.size, 1, none⟩ = some (.int .i64 (i : Int)) from ⟨k0, k1, k2, a1⟩)
              have K2 := hid (show (Y.alloc (.cells #[.int .i64 yn, .int .i64 yt, .slice A5 yb.length c5] 31)).drew.cell? ⟨w2.heap.size, 0, none⟩ = some (.int .i64 yn) ∧ (Y.alloc (.cells #[.int .i64 yn, .int .i64 yt, .slice A5 yb.length c5] 31)).drew.cell? ⟨w2.heap.size, 1, none⟩ = some (.int .i64 yt) ∧ (Y.alloc (.cells #[.int .i64 yn, .int .i64 yt, .slice A5 yb.length c5] 31)).drew.cell? ⟨w2.heap.size, 2, none⟩ = some (.slice A5 yb.length c5) ∧ (Y.alloc (.cells #[.int .i64 yn, .int .i64 yt, .slice A5 yb.length c5] 31)).drew.cell? ⟨wr.heap.size, 1, none⟩ = some (.int .i64 (i : Int)) from ⟨(HKV.out.alloc _).cell 0, (HKV.out.alloc _).cell 1, (HKV.out.alloc _).cell 2, a1'⟩)
              go_region_held3 (fun w' => w'.cell? ⟨w2.heap.size, 0, none⟩ = some (.int .i64 yn) ∧ w'.cell? ⟨w2.heap.size, 1, none⟩ = some (.int .i64 yt) ∧ w'.cell? ⟨w2.heap.size, 2, none⟩ = some (.slice A5 yb.length c5) ∧ w'.cell? ⟨wr.heap.size, 1, none⟩ = some (.int .i64 (i : Int))) (first | (with_reducible exact K1.out) | (with_reducible exact K2.out) | (with_reducible exact K3.out))
                (first
                  | (go_at_call 16; (with_reducible refine HFL.out.mono ?_); rintro e3 W9 ⟨rfl, d3, hd3⟩; have HD3 := hid hd3; clear hd3; have bW9 : Below Y.heap.size Y W9 := (by rw [HD3.out]; exact below_drewN HBZ.out d3); have K3 := hid (show W9.cell? ⟨w2.heap.size, 0, none⟩ = some (.int .i64 yn) ∧ W9.cell? ⟨w2.heap.size, 1, none⟩ = some (.int .i64 yt) ∧ W9.cell? ⟨w2.heap.size, 2, none⟩ = some (.slice A5 yb.length c5) ∧ W9.cell? ⟨wr.heap.size, 1, none⟩ = some (.int .i64 (i : Int)) from ⟨(HKV.out.later bW9).cell 0, (HKV.out.later bW9).cell 1, (HKV.out.later bW9).cell 2, (HKY.out.later bW9).cell 1⟩)))
              all_goals
                clear k0 k1 k2 a1' a1 i1 i2 i3 i4 i5 i6 i7 i8 i9 i10 HFL HBZ HD3 K1 K2 K3
                have a1 : W9.cell? ⟨wr.heap.size, 1, none⟩ = some (.int .i64 (i : Int)) := (HKY.out.later bW9).cell 1
                have rO9 := owned_later HP2.out.2.2.2.2.1 bW9
                have ov : W9.cell? ⟨go, i, none⟩ = some (.bool false) := by
                  rw [rO9.cellAt i (by have := HI.out.2.1; omega), bls_get, HI.out.2.2]
                  rfl
                have fv := rO9.frozenAt i
                have HO9 := hid (on_over HOX.out (HP2.out.1.later bW9) HP2.out.2.1 HP2.out.2.2.1 (owned_later HP2.out.2.2.2.1 bW9) rO9 (HP2.out.2.2.2.2.2.1.below (bW9.mono HP2.out.1.leB)) (HP2.out.2.2.2.2.2.2.trans (bW9.mono HP2.out.1.leB)) HI.out.1)
                clear bW9 rO9
                go_wp2_with fail
                go_roundg (n - (j + 1))
                case measure => omega
                case rel => exact ⟨j + 1, q, _, _, _, _, by omega, rfl, by go_num, by omega, HO9⟩
            · -- not in flight
              obtain ⟨e1, e2⟩ := fl_out (n := xn) HOX.out.num (by rw [HOX.out.len, HOX.out.eq]) hout
              rw [e1]
              rw [e2] at hlY
              have HON := hid (HOX.out.same rfl HOX.out.o0 hlY id)
              obtain ⟨sv9, ls9, h9⟩ := HON.out
              have HO9 := hid h9
              clear h9 HON
              have hrO := HO9.out.rowO
              by_cases q1 : (1 : Int) ≤ xn
              · by_cases q2 : xn < (q : Int) + 1
                · obtain ⟨i, rfl⟩ : ∃ i : Nat, xn = i := ⟨xn.toNat, by omega⟩
                  have hoi : os[i]? = some true := by
                    have hlt9 : i < os.length := by rw [HOX.out.eq]; omega
                    have h9 := hout i rfl
                    rw [List.getElem?_eq_getElem hlt9] at h9 ⊢
                    cases h8 : os[i] with
                    | true => rfl
                    | false => rw [h8] at h9; exact absurd rfl h9
                  have ov : Y.cell? ⟨go, i, none⟩ = some (.bool true) := by
                    rw [hrO.cellAt i (by omega), bls_get, hoi]
                    rfl
                  have qi3 : (i : Int) ≤ 1200 := by omega
                  have HKY := hid kXY
                  clear e1 e2 hl hlY hT kX2 kXY hoi hout hrO HSd HKX kY bY hoY ho5 h5 hk5
                  rw [hY] at HO9 a1 ov
                  go_wp2_with fail
                  go_roundg (n - (j + 1))
                  case measure => omega
                  case rel => exact ⟨j + 1, q, _, _, _, _, by omega, rfl, by go_num, by omega, HO9⟩
                · have q3 : ¬ xn < (q : Int) + 1 := q2
                  clear e1 e2 hl hlY hT kX2 kXY hout hrO HSd HKX kY bY hoY ho5 h5 hk5
                  rw [hY] at HO9 a1
                  go_wp2_with fail
                  go_roundg (n - (j + 1))
                  case measure => omega
                  case rel => exact ⟨j + 1, q, _, _, _, _, by omega, rfl, by go_num, by omega, HO9⟩
              · clear e1 e2 hl hlY hT kX2 kXY hout hrO HSd HKX kY bY hoY ho5 h5 hk5
                rw [hY] at HO9 a1
                go_wp2_with fail
                go_roundg (n - (j + 1))
                case measure => omega
                case rel => exact ⟨j + 1, q, _, _, _, _, by omega, rfl, by go_num, by omega, HO9⟩
        · -- Twice
          as_aux_lemma =>
            clear hr
            have hs := twice11 HOX.out.lx (by omega) (by omega) xn
            rw [HOX.out.ks] at hs
            have HSd := hid hs
            clear hs
            have vform : ∃ go co, u5 = .slice (some ⟨go, 0, none⟩) (q + 1) co := by
              rcases owned_form0 HOX.out.rowO with ⟨_, e⟩ | e
              · omega
              · exact e
            obtain ⟨go, co, rfl⟩ := vform
            have vsform : ∃ gs cs, u4 = .slice (some ⟨gs, 0, none⟩) (q + 1) cs := by
              rcases owned_form0 HOX.out.rowS with ⟨_, e⟩ | e
              · omega
              · exact e
            obtain ⟨gs, cs, rfl⟩ := vsform
            have hcs := (owned_cap HOX.out.rowS).1
            have hq5 : (q : Int) ≤ 1200 := by omega
            go_wp2_with (go_at_call 11; refine stop_ (fun Ps hPs => ?_))
            refine hPs ?_
            clear hPs Ps a1 a2
            by_cases hE : tE xn (fl s os) = 0
            · obtain ⟨i, rfl, hoi⟩ : ∃ i : Nat, xn = i ∧ os[i]? = some false := by
                rcases in_or_out xn os with h | h
                · exact h
                · obtain ⟨e1, _⟩ := fl_out (n := xn) HOX.out.num (by rw [HOX.out.len, HOX.out.eq]) h
                  rw [tE_of, e1] at hE
                  simp at hE
              have hi0 : i ≠ 0 := by rintro rfl; rw [HOX.out.o0] at hoi; cases hoi
              have hiq : i < q + 1 := by have := (List.getElem?_eq_some_iff.1 hoi).1; rw [HOX.out.eq] at this; exact this
              obtain ⟨y, hy, e1, e2, e3⟩ := fl_in (n := (i : Int)) HOX.out.num (by rw [HOX.out.len, HOX.out.eq]) i rfl hoi
              refine (HSd.out.mono (fun e w' h => twices_good hE h)).mono ?_
              rintro e w2 ⟨rfl, hl⟩
              rw [e2] at hl
              have hT := hl.two
              obtain ⟨sv2, ls2, hx2, hk2, hne2, hrS2, hrO2, hrd2, hlow2⟩ := HOX.out.call hl
              have kX2 := blk_two HKX.out hT HRZ.out.1 (fun b hb e => by have := HRZ.out.2.1 b hb; omega)
              have a1 : w2.cell? ⟨wr.heap.size, 1, none⟩ = some (.int .i64 (i : Int)) := kX2.cell 1
              have ov : w2.cell? ⟨go, i, none⟩ = some (.bool false) := by
                rw [hrO2.cellAt i (by omega), bls_get, hoi]
                rfl
              obtain ⟨zn, zt, zv, zb⟩ := y
              obtain ⟨Az, cz, ez, hzr, hz40⟩ := hrd2 _ (List.mem_of_getElem? hy)
              simp only at ez hzr hz40
              subst ez
              obtain ⟨g', off', e9, hg9, d0, d1, d2⟩ := ltAt (Rd.of_own hrS2) hy
              injection e9 with e9
              injection e9 with e8 e9
              subst e8 e9
              simp only [Nat.zero_add] at d0 d1 d2
              have hB2 : B ≤ w2.heap.size := hx2.leB
              have qi1 : (1 : Int) ≤ (i : Int) := by omega
              have qi2 : (i : Int) < (q : Int) + 1 := by omega
              have qi3 : (i : Int) ≤ 1200 := by omega
              have HE := hid hk2
              have HX2 := hid hx2
              have HN2 := hid hne2
              have HRS := hid hrS2
              have HRSd := hid (show w2.drew.ownsRow B 31 3 (.slice (some ⟨gs, 0, none⟩) (q + 1) cs) (q + 1) (ltc s) from hrS2)
              have HRO := hid hrO2
              have HRD := hid hrd2
              have HLW := hid hlow2
              have HYB := hid (show ∃ A c, (⟨(q : Int) + 1, zt, .slice Az zb.length cz, zb⟩ : Lt).v = .slice A zb.length c ∧ Rd w2 B 1 A zb.length (bts zb) ∧ zb.length ≤ 40 from ⟨Az, cz, rfl, hzr, hz40⟩)
              clear hE hk2 hx2 hne2 hrS2 hrO2 hrd2 hlow2 hl hT kX2 HSd HKX e1 e2 e3 hzr hz40 hy d0 hi0 hoi hg9
              simp only [two]
              go_upto_region 30 with (fail)
              go_region_law (refine step_app T37 (.tmp 131) (.tmp 146) rfl rfl (HRSd.out.alloc _) rfl (Rd.lit w2.drew #[.int .i64 ((q : Int) + 1), .int .i64 zt, .slice Az zb.length cz] 31 (0, 0) 1 rfl) rfl (by simp [Value.oneCell']) (by omega) (by simp; omega) ?_; intro v3 w3 hS3 hg3 hat3)
              all_goals
                have hat3' : ∀ g, v3.ownBlock = some g → (Value.slice (some ⟨gs, 0, none⟩) (q + 1) cs).ownBlock = some g ∨ w2.heap.size ≤ g := fun g hg => by
                  rcases hat3 with h1 | h1
                  · exact .inl (h1 ▸ hg)
                  · rw [h1] at hg
                    injection hg with hg
                    refine .inr ?_
                    rw [← hg]
                    simp
                have hg3' := grownBy_after_alloc (show (w2.alloc (.cells #[.int .i64 ((q : Int) + 1), .int .i64 zt, .slice Az zb.length cz] 31)).grownBy w3 (Value.slice (some ⟨gs, 0, none⟩) (q + 1) cs).ownBlock from ⟨hg3.os, hg3.tape, hg3.output, hg3.size, hg3.block⟩)
                have hg3 : w2.grownBy w3 (Value.slice (some ⟨gs, 0, none⟩) (q + 1) cs).ownBlock := ⟨hg3'.os, hg3'.tape, hg3'.output, hg3'.size, hg3'.block⟩
                clear hat3 a1 ov d1 d2 hg3'
                have HO3 := hid (owned_gb HRO.out hg3 (fun g h1 h2 => ne_by_type HRO.out HRS.out (by decide) g h1 h2.symm))
                have hB3 : B ≤ w3.heap.size := Nat.le_trans hB2 hg3.size
                have HG3 := hid (And.intro hS3 (And.intro hg3 hat3'))
                clear hS3 hg3 hat3'
                go_wp2_with (at_builtin; refine stop_ (fun Ps hPs => ?_))
                refine hPs ?_
                clear hPs Ps
                refine wpList_app1 T38 (.tmp 148) (.tmp 149) rfl rfl HO3.out rfl (cs := #[.bool false]) rfl rfl (by simp [Value.oneCell']) (by omega) hB3 fun v4 w4 hO4 hg4 hat4 => ?_
                have HON := hid (on_more (y := ⟨(q : Int) + 1, zt, .slice Az zb.length cz, zb⟩) HOX.out HX2.out HE.out HN2.out HRS.out HRO.out HRD.out HLW.out rfl HYB.out HG3.out.1 HG3.out.2.1 HG3.out.2.2 hO4 hg4)
                clear hO4 hg4 hat4
                go_wp2_with fail
                go_roundg (n - (j + 1))
                case measure => omega
                case rel => exact ⟨j + 1, q + 1, _, _, _, _, by omega, rfl, by go_num, by omega, HON⟩
            · refine (HSd.out.mono (fun e w' h => twices_err rfl hE h)).mono ?_
              rintro e w2 ⟨rfl, hl⟩
              obtain ⟨ee, hee⟩ : ∃ ee, ee = tE xn (fl s os) := ⟨_, rfl⟩
              have hb0 : (ee == 0) = false := by rw [hee]; exact beq_false_of_ne hE
              rw [← hee]
              have HON := hid (HOX.out.same rfl HOX.out.o0 hl id)
              obtain ⟨sv9, ls9, h9⟩ := HON.out
              have HO9 := hid h9
              clear h9 HON
              clear hl hee hE HSd
              simp only [two]
              go_wp2_with fail
              go_roundg (n - (j + 1))
              case measure => omega
              case rel => exact ⟨j + 1, q, _, _, _, _, by omega, rfl, by go_num, by omega, HO9⟩
        · -- Drop
          as_aux_lemma =>
            clear hr
            have hs := drop13 HOX.out.lx xn
            rw [HOX.out.ks] at hs
            have HSd := hid hs
            clear hs
            have vform : ∃ go co, u5 = .slice (some ⟨go, 0, none⟩) (q + 1) co := by
              rcases owned_form0 HOX.out.rowO with ⟨_, e⟩ | e
              · omega
              · exact e
            obtain ⟨go, co, rfl⟩ := vform
            have vsform : ∃ gs cs, u4 = .slice (some ⟨gs, 0, none⟩) (q + 1) cs := by
              rcases owned_form0 HOX.out.rowS with ⟨_, e⟩ | e
              · omega
              · exact e
            obtain ⟨gs, cs, rfl⟩ := vsform
            have hcs := (owned_cap HOX.out.rowS).1
            have hq5 : (q : Int) ≤ 1200 := by omega
            go_wp2_with (go_at_call 13; refine stop_ (fun Ps hPs => ?_))
            refine hPs ?_
            clear hPs Ps a1 a2
            refine HSd.out.mono ?_
            rintro e w2 ⟨rfl, hl⟩
            have hT := hl.two
            have kX2 := blk_two HKX.out hT HRZ.out.1 (fun b hb e => by have := HRZ.out.2.1 b hb; omega)
            have hlY := hl
            have kXY := kX2
            obtain ⟨Y, hY⟩ : ∃ Y, Y = w2 := ⟨_, rfl⟩
            have a1 : w2.cell? ⟨wr.heap.size, 1, none⟩ = some (.int .i64 xn) := kXY.cell 1
            rcases in_or_out xn os with ⟨i, rfl, hoi⟩ | hout
            · -- in flight
              have hi0 : i ≠ 0 := by rintro rfl; rw [HOX.out.o0] at hoi; cases hoi
              have hiq : i < q + 1 := by have := (List.getElem?_eq_some_iff.1 hoi).1; rw [HOX.out.eq] at this; exact this
              obtain ⟨y, hy, e1, e2, e3⟩ := fl_in (n := (i : Int)) HOX.out.num (by rw [HOX.out.len, HOX.out.eq]) i rfl hoi
              rw [e1]
              rw [e3] at hlY
              obtain ⟨sv2, ls2, hx2, hk2, hne2, hrS2, hrO2, hrd2, hlow2⟩ := HOX.out.call hlY
              have ov : w2.cell? ⟨go, i, none⟩ = some (.bool false) := by
                rw [hrO2.cellAt i (by omega), bls_get, hoi]
                rfl
              have qi1 : (1 : Int) ≤ (i : Int) := by omega
              have qi2 : (i : Int) < (q : Int) + 1 := by omega
              have qi3 : (i : Int) ≤ 1200 := by omega
              have HP2 := hid (And.intro hx2 (And.intro hk2 (And.intro hne2 (And.intro hrS2 (And.intro hrO2 (And.intro hrd2 hlow2))))))
              have HI := hid (And.intro hi0 (And.intro hiq hoi))
              have HKY := hid kXY
              clear hy e1 e2 e3 hx2 hk2 hne2 hrS2 hrO2 hrd2 hlow2 hl hlY hT kX2 kXY hY hi0 hiq hoi HSd HKX
              have fv := HP2.out.2.2.2.2.1.frozenAt i
              have HON := hid (on_over HOX.out HP2.out.1 HP2.out.2.1 HP2.out.2.2.1 HP2.out.2.2.2.1 HP2.out.2.2.2.2.1 HP2.out.2.2.2.2.2.1 HP2.out.2.2.2.2.2.2 HI.out.1)
              have HO9 := HON
              go_wp2_with fail
              go_roundg (n - (j + 1))
              case measure => omega
              case rel => exact ⟨j + 1, q, _, _, _, _, by omega, rfl, by go_num, by omega, HO9⟩
            · -- not in flight
              obtain ⟨e1, e2⟩ := fl_out (n := xn) HOX.out.num (by rw [HOX.out.len, HOX.out.eq]) hout
              rw [e1]
              rw [e2] at hlY
              have HON := hid (HOX.out.same rfl HOX.out.o0 hlY id)
              obtain ⟨sv9, ls9, h9⟩ := HON.out
              have HO9 := hid h9
              clear h9 HON
              have hrO := HO9.out.rowO
              by_cases q1 : (1 : Int) ≤ xn
              · by_cases q2 : xn < (q : Int) + 1
                · obtain ⟨i, rfl⟩ : ∃ i : Nat, xn = i := ⟨xn.toNat, by omega⟩
                  have hoi : os[i]? = some true := by
                    have hlt9 : i < os.length := by rw [HOX.out.eq]; omega
                    have h9 := hout i rfl
                    rw [List.getElem?_eq_getElem hlt9] at h9 ⊢
                    cases h8 : os[i] with
                    | true => rfl
                    | false => rw [h8] at h9; exact absurd rfl h9
                  have ov : w2.cell? ⟨go, i, none⟩ = some (.bool true) := by
                    rw [hrO.cellAt i (by omega), bls_get, hoi]
                    rfl
                  have qi3 : (i : Int) ≤ 1200 := by omega
                  have HKY := hid kXY
                  clear e1 e2 hl hlY hT kX2 kXY hoi hout hrO HSd HKX 
                  clear hY
                  go_wp2_with fail
                  go_roundg (n - (j + 1))
                  case measure => omega
                  case rel => exact ⟨j + 1, q, _, _, _, _, by omega, rfl, by go_num, by omega, HO9⟩
                · have q3 : ¬ xn < (q : Int) + 1 := q2
                  clear e1 e2 hl hlY hT kX2 kXY hout hrO HSd HKX 
                  clear hY
                  go_wp2_with fail
                  go_roundg (n - (j + 1))
                  case measure => omega
                  case rel => exact ⟨j + 1, q, _, _, _, _, by omega, rfl, by go_num, by omega, HO9⟩
              · clear e1 e2 hl hlY hT kX2 kXY hout hrO HSd HKX 
                clear hY
                go_wp2_with fail
                go_roundg (n - (j + 1))
                case measure => omega
                case rel => exact ⟨j + 1, q, _, _, _, _, by omega, rfl, by go_num, by omega, HO9⟩
      · obtain rfl : j = n := by omega
        have hki : ¬ (j : Int) < (j : Int) := by omega
        have HLW := hid HO.out.low
        go_wp2_with fail
        go_ret
        exact ⟨rfl, HLW.out⟩
  · rw [decide_eq_false hS] at hsm
    have HSM := hid hsm
    have HB0 := hid hb0
    clear hsm hS hb0 hs0 hA0 HA HV
    go_wp2_with (go_at_call 14; refine HSM.out.mono ?_; rintro e w00 ⟨rfl, rfl⟩)
    go_ret
    exact ⟨rfl, HB0.out⟩
end Go.Proofs.Ytigedoonhmaghaa
