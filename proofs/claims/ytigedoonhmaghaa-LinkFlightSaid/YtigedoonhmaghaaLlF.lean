/- Links: what is in flight, by the document; are letters the same. -/
import Derived.Test.YtigedoonhmaghaaLkF
namespace Go.Proofs.Ytigedoonhmaghaa
open Go.RowKit Go.Lg
variable {F : Nat}
set_option linter.unusedVariables false
set_option linter.unusedSimpArgs false

set_option maxHeartbeats 4000000 in
set_option maxRecDepth 100000 in
theorem flight22 {B z : Nat} {last : Int} {sv : Value} {ls : List Lt} {w : World} (h : LX F true w B z last sv ls) : Calls Try.prog 22 #[P z] w (Flown ls w) := by
  have HN := hid (none39 h)
  obtain ⟨A, c, rfl, hc1, hc2⟩ := owned_slice h.own
  have kz : Blk w z 63 #[.bool true, .slice A ls.length c, .int .i64 last] := h.blk
  have H := hid h
  have h5 := h.le
  obtain ⟨H0, hH0⟩ : ∃ H0, H0 = w.heap.size := ⟨_, rfl⟩
  have HH := hid hH0
  obtain ⟨m, hm⟩ : ∃ m, m = ls.length := ⟨_, rfl⟩
  have HM := hid hm
  rw [← hm] at h5
  clear h hc1 hc2 kz hH0 hm
  go_enter Try.func22, Try.ntmps22
  go_wp2_with (go_at_call 39; refine stop_ (fun Ps hPs => ?_))
  refine hPs ?_
  clear hPs Ps
  refine HN.out.mono ?_
  rintro e w1 ⟨rfl, h9⟩
  subst h9
  go_wp2_with fail
  go_loopg [3, 4, 5] m (fun gg v b x9 wr => ∃ (k : Nat) (ls' : List Lt), k ≤ m ∧ gg = m - k ∧ b = .int .i64 k ∧ Hid (wr.ownsRow H0 31 3 v ls'.length (ltc ls')) ∧ Hid (Fl H0 wr ls ls' k) ∧ Hid (Below H0 w1 wr))
  case atStart => exact ⟨0, [], by omega, rfl, rfl, hid (World.ownsRow_nil _ _ _ _), hid (Fl.start _ _ _), hid (Below.refl _ _)⟩
  case round =>
    obtain ⟨k, ls', hk, rfl, rfl, HOr, HFr, HBr⟩ := hrel
    have hr := H.out.later (show Below w1.heap.size w1 wr by rw [← HH.out]; exact HBr.out)
    have kz : Blk wr z 63 #[.bool true, .slice A ls.length c, .int .i64 last] := hr.blk
    rw [← HM.out] at kz
    have z1 : wr.cell? ⟨z, 1, none⟩ = some (.slice A m c) := kz.cell 1
    by_cases hlt : k < m
    · obtain ⟨x, hx⟩ : ∃ x, ls[k]? = some x := ⟨ls[k]'(by rw [← HM.out]; exact hlt), List.getElem?_eq_getElem _⟩
      have hox := hr.by_ _ (List.mem_of_getElem? hx)
      obtain ⟨g, off, rfl, hg, c0, c1, c2⟩ := ltAt (Rd.of_own hr.own) hx
      obtain ⟨xn, xt, xv, xb⟩ := x
      obtain ⟨Ax, cx, e9, _, _⟩ := owned_slice hox.own
      simp only at e9
      subst e9
      simp only at c0 c1 c2
      have hki : (k : Int) < (m : Int) := by omega
      have hk0 : (0 : Int) ≤ (k : Int) := Int.natCast_nonneg _
      have hk5 : (k : Int) < 512 := by omega
      have hbX := (Below.refl wr.heap.size wr).alloc (Nat.le_refl _) (.cells #[.int .i64 xn, .int .i64 xt, .slice Ax xb.length cx] 31)
      have kx := Blk.new wr 31 #[.int .i64 xn, .int .i64 xt, .slice Ax xb.length cx]
      obtain ⟨X, hX⟩ : ∃ X, X = wr.alloc (.cells #[.int .i64 xn, .int .i64 xt, .slice Ax xb.length cx] 31) := ⟨_, rfl⟩
      rw [← hX] at hbX kx
      have x2 : X.cell? ⟨wr.heap.size, 2, none⟩ = some (.slice Ax xb.length cx) := kx.cell 2
      have HCL := hid (own40 Ax xb.length cx xb X (Rd.of_own (hox.later hbX).own) (by have := hox.le; simp only at this; omega))
      have HX := hid hx
      have HOX := hid hox
      have hH0 : H0 ≤ wr.heap.size := by rw [HH.out]; exact HBr.out.size
      have HHS := hid hH0
      have HBX := hid hbX
      have HKX := hid kx
      clear hx hox hr hH0 kz hbX kx
      go_wp2_with (go_at_call 40; refine stop_ (fun Ps hPs => ?_))
      refine hPs ?_
      clear hPs Ps
      rw [← hX]
      clear hX
      refine HCL.out.mono ?_
      rintro e w3 ⟨u, rfl, hu, hbu⟩
      have kx3 := HKX.out.later hbu
      have b0 : w3.cell? ⟨wr.heap.size, 0, none⟩ = some (.int .i64 xn) := kx3.cell 0
      have b1 : w3.cell? ⟨wr.heap.size, 1, none⟩ = some (.int .i64 xt) := kx3.cell 1
      have b2 : w3.cell? ⟨wr.heap.size, 2, none⟩ = some (.slice Ax xb.length cx) := kx3.cell 2
      have y2 := kx3.frozen 2
      obtain ⟨A3, c3, rfl, _, _⟩ := owned_slice hu
      have hgS := gb_setCell (p := ⟨wr.heap.size, 2, none⟩) (.slice A3 xb.length c3) (World.grownBy.refl w3 (some wr.heap.size))
      have hb3 : Below wr.heap.size wr w3 := HBX.out.trans (hbu.mono HBX.out.size)
      have hbS := hb3.setCell (p := ⟨wr.heap.size, 2, none⟩) (Nat.le_refl _) (.slice A3 xb.length c3)
      have hu3 : w3.ownsRow wr.heap.size 5 1 (.slice A3 xb.length c3) xb.length (bts xb) := owned_less hu HBX.out.size
      have huS : (w3.setCell ⟨wr.heap.size, 2, none⟩ (.slice A3 xb.length c3)).ownsRow wr.heap.size 5 1 (.slice A3 xb.length c3) xb.length (bts xb) :=
        owned_gb hu3 hgS fun g9 h1 h2 => owned_blk_ne hu3 kx3 (by decide) g9 h1 (Option.some.inj h2)
      have hfl := HFr.out.snoc HX.out HHS.out huS hbS HOX.out.le HOX.out.to
      have hoS := owned_later HOr.out hbS
      have HFl := hid hfl
      have HOS := hid hoS
      have HBS := hid (HBr.out.trans (hbS.mono HHS.out))
      obtain ⟨W, hW⟩ : ∃ W, W = w3.setCell ⟨wr.heap.size, 2, none⟩ (.slice A3 xb.length c3) := ⟨_, rfl⟩
      have HS := hid (show H0 ≤ W.heap.size by rw [hW]; exact Nat.le_trans HHS.out hbS.size)
      clear hgS hbS hu3 huS hfl hoS hu hbu kx3 hb3
      go_wp2_with (at_builtin; refine stop_ (fun Ps hPs => ?_))
      refine hPs ?_
      clear hPs Ps
      rw [← hW] at HFl HOS HBS
      rw [← hW]
      have hsz : w3.heap.size = W.heap.size := by rw [hW]; simp [World.setCell]
      rw [hsz]
      clear hW hsz
      refine wpList_app1 T37 (.tmp 29) (.tmp 31) rfl rfl HOS.out rfl rfl rfl (by simp [Value.oneCell']) (by have := HFr.out.len; omega) HS.out fun v1 w4 hown1 hg1 hat1 => ?_
      have hb1 := below_append HBS.out HOS.out hg1 HS.out
      have hf1 := HFl.out.keep (w' := w4) (fun x hx9 => hx9.keep (owned_gb hx9.own hg1 fun g9 h1 h2 => ne_by_type hx9.own HOS.out (by decide) g9 h1 h2.symm))
      have HO1 := hid hown1
      have HB1 := hid hb1
      have HF1 := hid hf1
      clear hown1 hb1 hg1 hat1 hf1
      go_wp2_with fail
      go_roundg (m - (k + 1))
      case measure => omega
      case rel =>
        refine ⟨k + 1, _, by omega, rfl, by go_num, hid ?_, HF1, HB1⟩
        rw [List.length_append, List.length_singleton, ltc_app]
        exact HO1.out
    · obtain rfl : k = m := by omega
      have hki : ¬ (k : Int) < (k : Int) := by omega
      clear hr kz
      go_wp2_with fail
      go_ret
      refine ⟨u3, ls', rfl, ?_, ?_, ?_⟩
      · rw [← HH.out]; exact HOr.out
      · rw [← HH.out, ← HM.out]; exact HFr.out
      · rw [← HH.out]; exact HBr.out

/-! ### Are letters the same -/
/-- Letters to be looked at: each reads as its bytes. -/
def Reads (w : World) (l : List Lt) : Prop := ∀ x ∈ l, ∃ A c, x.v = .slice A x.b.length c ∧ Rd w w.heap.size 1 A x.b.length (bts x.b) ∧ x.b.length ≤ 40
theorem Reads.drewN {w : World} {l : List Lt} (h : Reads w l) (d : Nat) : Reads (w.drewN d) l := h
theorem Own1.reads {B : Nat} {w : World} {x : Lt} (h : Own1 B w x) : ∃ A c, x.v = .slice A x.b.length c ∧ Rd w w.heap.size 1 A x.b.length (bts x.b) ∧ x.b.length ≤ 40 := by
  obtain ⟨A, c, e, _, _⟩ := owned_slice h.own
  have h9 := h.own
  rw [e] at h9
  exact ⟨A, c, e, Rd.of_own h9, h.le⟩
theorem key_ne1 {x y : Lt} (h : x.n ≠ y.n) : x.k ≠ y.k := fun e => h (by injection e)
theorem key_ne2 {x y : Lt} (h : x.to ≠ y.to) : x.k ≠ y.k := fun e => h (by injection e with e1 e2; injection e2)
theorem key_ne3 {x y : Lt} (h : x.b ≠ y.b) : x.k ≠ y.k := fun e => h (by injection e with e1 e2; injection e2)
theorem key_eq {x y : Lt} (h1 : x.n = y.n) (h2 : x.to = y.to) (h3 : x.b = y.b) : x.k = y.k := by simp [Lt.k, h1, h2, h3]
theorem maps_ne {a b : List Lt} {j : Nat} {x y : Lt} (hx : a[j]? = some x) (hy : b[j]? = some y) (h : x.k ≠ y.k) : a.map Lt.k ≠ b.map Lt.k := by
  intro e
  have h1 : (a.map Lt.k)[j]? = some x.k := by rw [List.getElem?_map, hx]; rfl
  have h2 : (b.map Lt.k)[j]? = some y.k := by rw [List.getElem?_map, hy]; rfl
  rw [e, h2] at h1
  exact h (Option.some.inj h1).symm
set_option maxHeartbeats 4000000 in
set_option maxRecDepth 100000 in
theorem flights16 (A A' : Option Addr) (c c' B B' : Nat) (a b : List Lt) (w : World) (h : Rd w B 3 A a.length (ltc a)) (h' : Rd w B' 3 A' b.length (ltc b)) (ha : Reads w a) (hb : Reads w b) (hn : a.length ≤ 4000) (hn' : b.length ≤ 4000) :
    Calls Try.prog 16 #[.slice A a.length c, .slice A' b.length c'] w fun e w' => e = .returned (.bool (decide (a.map Lt.k = b.map Lt.k))) ∧ ∃ d, w' = w.drewN d := by
  obtain ⟨n, hN⟩ : ∃ n, n = a.length := ⟨_, rfl⟩
  obtain ⟨n', hN'⟩ : ∃ n', n' = b.length := ⟨_, rfl⟩
  have HL := hid hN
  have HL' := hid hN'
  rw [← hN] at h hn ⊢
  rw [← hN'] at h' hn' ⊢
  clear hN hN'
  have HA := hid ha
  have HB := hid hb
  clear ha hb
  by_cases hne : n = n'
  · subst hne
    have hbeq : ((n : Int) != (n : Int)) = false := by simp
    go_enter Try.func16, Try.ntmps16
    go_wp2_with fail
    go_loopg [5] n (fun k i wr => ∃ j : Nat, j ≤ n ∧ k = n - j ∧ i = .int .i64 j ∧ Hid ((a.map Lt.k).take j = (b.map Lt.k).take j) ∧ Hid (∃ d, wr = w.drewN d))
    case atStart => exact ⟨0, by omega, rfl, rfl, hid (by simp), hid ⟨0, rfl⟩⟩
    case round =>
      obtain ⟨j, hj, rfl, rfl, HT, HW⟩ := hrel
      have hr : Rd wr B 3 A n (ltc a) := by obtain ⟨d, e⟩ := HW.out; rw [e]; exact h.drewN d
      have hr' : Rd wr B' 3 A' n (ltc b) := by obtain ⟨d, e⟩ := HW.out; rw [e]; exact h'.drewN d
      have hA : Reads wr a := by obtain ⟨d, e⟩ := HW.out; rw [e]; exact HA.out.drewN d
      have hB : Reads wr b := by obtain ⟨d, e⟩ := HW.out; rw [e]; exact HB.out.drewN d
      by_cases hlt : j < n
      · obtain ⟨x, hx⟩ : ∃ x, a[j]? = some x := ⟨a[j]'(by rw [← HL.out]; exact hlt), List.getElem?_eq_getElem _⟩
        obtain ⟨y, hy⟩ : ∃ y, b[j]? = some y := ⟨b[j]'(by rw [← HL'.out]; exact hlt), List.getElem?_eq_getElem _⟩
        obtain ⟨g, off, rfl, _, c0, c1, c2⟩ := ltAt hr hx
        obtain ⟨g', off', rfl, _, d0, d1, d2⟩ := ltAt hr' hy
        obtain ⟨Ax, cx, ex, hrx, hlx⟩ := hA x (List.mem_of_getElem? hx)
        obtain ⟨Ay, cy, ey, hry, hly⟩ := hB y (List.mem_of_getElem? hy)
        rw [ex] at c2
        rw [ey] at d2
        have hki : (j : Int) < (n : Int) := by omega
        have hk0 : (0 : Int) ≤ (j : Int) := Int.natCast_nonneg _
        have HXY := hid (And.intro hx hy)
        have HE := hid (And.intro ex ey)
        clear hx hy ex ey h h' hr hr' hA hB
        by_cases h1 : x.n = y.n
        · have t1 : (x.n != y.n) = false := by simp [h1]
          by_cases h2 : x.to = y.to
          · have t2 : (x.to != y.to) = false := by simp [h2]
            have hs := fun q => same_any Ax Ay x.b.length cx y.b.length cy _ _ x.b y.b (wr.drewN q) (hrx.drewN q) (hry.drewN q) (by omega) (by omega)
            by_cases h3 : x.b = y.b
            · rw [decide_eq_true h3] at hs
              have HS := hid hs
              have HK := hid (key_eq h1 h2 h3)
              clear hs h1 h2 h3 hrx hry hlx hly
              go_wp2_with fail
              go_quiet ((go_at_call 31; exact Calls.quiet_of (HS.out _)))
              go_wp2_with fail
              go_roundg (n - (j + 1))
              case measure => omega
              case rel => exact ⟨j + 1, by omega, rfl, by go_num, hid (by rw [take_succ_get? (show (a.map Lt.k)[j]? = some x.k by rw [List.getElem?_map, HXY.out.1]; rfl), take_succ_get? (show (b.map Lt.k)[j]? = some y.k by rw [List.getElem?_map, HXY.out.2]; rfl), HT.out, HK.out]), hid (by obtain ⟨d, e⟩ := HW.out; exact ⟨_, by rw [e]; exact World.drewN_drewN _ _ _⟩)⟩
            · rw [decide_eq_false h3] at hs
              have HS := hid hs
              have HK := hid (key_ne3 h3)
              clear hs h1 h2 h3 hrx hry hlx hly
              go_wp2_with fail
              go_quiet ((go_at_call 31; exact Calls.quiet_of (HS.out _)))
              go_wp2_with fail
              go_ret
              exact ⟨by rw [decide_eq_false (maps_ne HXY.out.1 HXY.out.2 HK.out)]; rfl, by obtain ⟨d, e⟩ := HW.out; exact ⟨_, by rw [e]; exact World.drewN_drewN _ _ _⟩⟩
          · have t2 : (x.to != y.to) = true := by simpa using h2
            have HK := hid (key_ne2 h2)
            clear h1 h2 hrx hry hlx hly
            go_wp2_with fail
            go_quiet (fail)
            go_wp2_with fail
            go_ret
            exact ⟨by rw [decide_eq_false (maps_ne HXY.out.1 HXY.out.2 HK.out)]; rfl, by obtain ⟨d, e⟩ := HW.out; exact ⟨_, by rw [e]; exact World.drewN_drewN _ _ _⟩⟩
        · have t1 : (x.n != y.n) = true := by simpa using h1
          have HK := hid (key_ne1 h1)
          clear h1 hrx hry hlx hly
          go_wp2_with fail
          go_quiet (fail)
          go_wp2_with fail
          go_ret
          exact ⟨by rw [decide_eq_false (maps_ne HXY.out.1 HXY.out.2 HK.out)]; rfl, by obtain ⟨d, e⟩ := HW.out; exact ⟨_, by rw [e]; exact World.drewN_drewN _ _ _⟩⟩
      · obtain rfl : j = n := by omega
        have hki : ¬ (j : Int) < (j : Int) := by omega
        go_wp2_with fail
        go_ret
        refine ⟨?_, HW.out⟩
        have h9 := HT.out
        rw [List.take_of_length_le (by have := HL.out; simp; omega), List.take_of_length_le (by have := HL'.out; simp; omega)] at h9
        rw [decide_eq_true h9]
        rfl
  · have hbeq : ((n : Int) != (n' : Int)) = true := by simp only [bne_iff_ne, ne_eq]; omega
    have HK := hid (show a.map Lt.k ≠ b.map Lt.k from fun e => by have := congrArg List.length e; simp at this; have := HL.out; have := HL'.out; omega)
    go_enter Try.func16, Try.ntmps16
    go_wp2_with fail
    go_ret
    exact ⟨by rw [decide_eq_false HK.out]; rfl, 0, rfl⟩
end Go.Proofs.Ytigedoonhmaghaa
