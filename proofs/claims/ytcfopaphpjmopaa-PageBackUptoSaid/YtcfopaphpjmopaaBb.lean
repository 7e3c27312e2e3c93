/- Of pages in a file that is cut anywhere the last whole one counts: the walk. -/
import Derived.Test.YtcfopaphpjmopaaBa
import Derived.Test.YtcfopaphpjmopaaApart
import Derived.RegionTactic
import Derived.ChangeAlike
import Derived.BigRegion
namespace Go.Proofs.Ytcfopaphpjmopaa
open Go.RowKit Go.Lg
set_option linter.unusedVariables false
set_option linter.unusedSimpArgs false

/-- Pages as cells. -/
def pgs (ps : List Pg) : List Value := ps.flatMap fun p => p.cs.toList
theorem pgs_get : ∀ (ps : List Pg) (j : Nat) (p : Pg) (i : Nat), ps[j]? = some p → i < 6 → (pgs ps)[j * 6 + i]? = p.cs.toList[i]?
  | [], j, p, i, h, _ => by simp at h
  | a :: ps, 0, p, i, h, hi => by
    simp only [List.getElem?_cons_zero, Option.some.injEq] at h
    subst h
    have e1 : pgs (a :: ps) = a.cs.toList ++ pgs ps := rfl
    rw [e1, Nat.zero_mul, Nat.zero_add, List.getElem?_append_left (by simpa using hi)]
  | a :: ps, j + 1, p, i, h, hi => by
    simp only [List.getElem?_cons_succ] at h
    have e1 : pgs (a :: ps) = a.cs.toList ++ pgs ps := rfl
    rw [e1, List.getElem?_append_right (by simp; omega), ← pgs_get ps j p i h hi]
    congr 1
    simp
    omega
/-- Pages that are there. -/
def PS (w : World) (B : Nat) (A : Option Addr) (n : Nat) (ps : List Pg) : Prop := Rd w B 6 A n (pgs ps) ∧ ps.length = n
theorem PS.at_ {w : World} {B n : Nat} {A : Option Addr} {ps : List Pg} {j : Nat} (h : PS w B A n ps) (hj : j < n) :
    ∃ b off a1 a2 a3 a4 a5 a6, A = some ⟨b, off, none⟩ ∧ b < B ∧ ps[j]? = some ⟨a1, a2, a3, a4, a5, a6⟩ ∧ w.cell? ⟨b, off + j * 6, none⟩ = some (.int .i64 a1) ∧ w.cell? ⟨b, off + j * 6 + 1, none⟩ = some (.int .u8 a2) ∧ w.cell? ⟨b, off + j * 6 + 2, none⟩ = some (.int .i64 a3) ∧
      w.cell? ⟨b, off + j * 6 + 3, none⟩ = some (.int .u8 a4) ∧ w.cell? ⟨b, off + j * 6 + 4, none⟩ = some (.int .i64 a5) ∧ w.cell? ⟨b, off + j * 6 + 5, none⟩ = some (.int .i64 a6) := by
  obtain ⟨h1, h2⟩ := h
  have hp : ps[j]? = some (ps[j]'(by omega)) := List.getElem?_eq_getElem _
  obtain ⟨⟨a1, a2, a3, a4, a5, a6⟩, hq⟩ : ∃ p, ps[j]'(by omega) = p := ⟨_, rfl⟩
  rw [hq] at hp
  obtain ⟨b, off, rfl, hb, hc⟩ := h1.2 (by omega)
  have hh : ∀ i u, i < 6 → (Pg.mk a1 a2 a3 a4 a5 a6).cs.toList[i]? = some u → w.cell? ⟨b, off + j * 6 + i, none⟩ = some u := fun i u hi hu => by
    rw [Nat.add_assoc]
    exact hc (j * 6 + i) u (by rw [pgs_get ps j _ i hp hi]; exact hu)
  exact ⟨b, off, a1, a2, a3, a4, a5, a6, rfl, hb, hp, hh 0 _ (by omega) rfl, hh 1 _ (by omega) rfl, hh 2 _ (by omega) rfl, hh 3 _ (by omega) rfl, hh 4 _ (by omega) rfl, hh 5 _ (by omega) rfl⟩
theorem PS.six {w : World} {B n b off : Nat} {ps : List Pg} {j : Nat} {a1 a2 a3 a4 a5 a6 : Int} (h : PS w B (some ⟨b, off, none⟩) n ps) (hj : ps[j]? = some ⟨a1, a2, a3, a4, a5, a6⟩) :
    w.cell? ⟨b, off + j * 6, none⟩ = some (.int .i64 a1) ∧ w.cell? ⟨b, off + j * 6 + 1, none⟩ = some (.int .u8 a2) ∧ w.cell? ⟨b, off + j * 6 + 2, none⟩ = some (.int .i64 a3) ∧
      w.cell? ⟨b, off + j * 6 + 3, none⟩ = some (.int .u8 a4) ∧ w.cell? ⟨b, off + j * 6 + 4, none⟩ = some (.int .i64 a5) ∧ w.cell? ⟨b, off + j * 6 + 5, none⟩ = some (.int .i64 a6) := by
  obtain ⟨b', off', c1, c2, c3, c4, c5, c6, h1, _, h2, h3⟩ := h.at_ (j := j) (by rw [← h.2]; exact (List.getElem?_eq_some_iff.1 hj).1)
  simp only [Option.some.injEq, Addr.mk.injEq, and_true] at h1
  rw [hj] at h2
  simp only [Option.some.injEq, Pg.mk.injEq] at h2
  obtain ⟨rfl, rfl⟩ := h1
  obtain ⟨rfl, rfl, rfl, rfl, rfl, rfl⟩ := h2
  exact h3
theorem owned_gb_far {w w' : World} {g H : Nat} {e : TypeId} {n : Nat} {v : Value} {xs : List Value} (h : w.ownsRow H e 1 v n xs) (hg : w.grownBy w' (some g)) (hlt : g < H) : w'.ownsRow H e 1 v n xs :=
  owned_gb h hg fun k hk he => by have := (h.lt k hk).1; have := Option.some.inj he; omega
theorem PS.gb {w w' : World} {B g n : Nat} {A : Option Addr} {ps : List Pg} (h : PS w B A n ps) (hg : w.grownBy w' (some g)) (hB : B ≤ w.heap.size) (hb : B ≤ g) : PS w' B A n ps :=
  ⟨h.1.grown hg hB (fun k hk => by have := Option.some.inj hk; omega), h.2⟩
theorem gb_page {a w : World} {b : Nat} (h : a.grownBy w (some b)) (y0 y1 y2 y3 y4 y5 : Value) :
    a.grownBy ((((((w.setCell ⟨b, 0, none⟩ y0).setCell ⟨b, 1, none⟩ y1).setCell ⟨b, 2, none⟩ y2).setCell ⟨b, 3, none⟩ y3).setCell ⟨b, 4, none⟩ y4).setCell ⟨b, 5, none⟩ y5) (some b) :=
  gb_setCell (p := ⟨b, 5, none⟩) y5 (gb_setCell (p := ⟨b, 4, none⟩) y4 (gb_setCell (p := ⟨b, 3, none⟩) y3 (gb_setCell (p := ⟨b, 2, none⟩) y2 (gb_setCell (p := ⟨b, 1, none⟩) y1 (gb_setCell (p := ⟨b, 0, none⟩) y0 h)))))
theorem far6 {v : World} {p : Addr} {u : Value} {g : Nat} (h : v.cell? p = some u) (hg : p.block ≠ g) (y0 y1 y2 y3 y4 y5 : Value) :
    ((((((v.setCell ⟨g, 0, none⟩ y0).setCell ⟨g, 1, none⟩ y1).setCell ⟨g, 2, none⟩ y2).setCell ⟨g, 3, none⟩ y3).setCell ⟨g, 4, none⟩ y4).setCell ⟨g, 5, none⟩ y5).cell? p = some u := by
  have hne : ∀ i, (⟨g, i, none⟩ : Addr) ≠ p := fun i e => hg (by rw [← e])
  rw [World.cell?_setCell_other _ _ _ _ (hne 5), World.cell?_setCell_other _ _ _ _ (hne 4), World.cell?_setCell_other _ _ _ _ (hne 3), World.cell?_setCell_other _ _ _ _ (hne 2), World.cell?_setCell_other _ _ _ _ (hne 1), World.cell?_setCell_other _ _ _ _ (hne 0)]
  exact h
theorem drew_cell (v : World) (p : Addr) : v.drew.cell? p = v.cell? p := rfl
theorem far6d {v : World} {p : Addr} {u : Value} {g : Nat} (h : v.cell? p = some u) (hg : p.block ≠ g) (y0 y1 y2 y3 y4 y5 : Value) :
    ((((((v.setCell ⟨g, 0, none⟩ y0).setCell ⟨g, 1, none⟩ y1).setCell ⟨g, 2, none⟩ y2).setCell ⟨g, 3, none⟩ y3).setCell ⟨g, 4, none⟩ y4).setCell ⟨g, 5, none⟩ y5).drew.cell? p = some u :=
  (drew_cell _ p).trans (far6 h hg y0 y1 y2 y3 y4 y5)
theorem getLastD_step (ps : List Pg) (p0 q : Pg) (j : Nat) (h : ps[j]? = some q) : (ps.take (j + 1)).getLastD p0 = q := by
  rw [take_succ_get? h]
  simp
theorem PS.keep {w w' : World} {B n : Nat} {A : Option Addr} {ps : List Pg} (h : PS w B A n ps) (hb : Below B w w') : PS w' B A n ps := ⟨h.1.below hb, h.2⟩
theorem T46 : SlT Try.prog 46 3 1 8 := SlT.mk' (.int .i64 0) Try.underlying46 (by kernel_rfl) rfl (by decide) (by decide)
/-- Where the frames end. -/
def endsP (rs : List (List UInt8)) (j : Nat) : List Value := (List.range j).map fun i => Value.int .i64 ((Vi.frs (rs.take (i + 1))).length : Int)
theorem endsP_succ (rs : List (List UInt8)) (j : Nat) : endsP rs (j + 1) = endsP rs j ++ [Value.int .i64 ((Vi.frs (rs.take (j + 1))).length : Int)] := by simp [endsP, List.range_succ]
theorem endsP_get (rs : List (List UInt8)) (j n : Nat) (h : j < n) : (endsP rs n)[j]? = some (Value.int .i64 ((Vi.frs (rs.take (j + 1))).length : Int)) := by simp [endsP, h]
set_option maxHeartbeats 800000 in
set_option maxRecDepth 100000 in
theorem pick24 (x : Int) (n : Nat) (h1 : 0 < n) (h2 : n ≤ 100000) (hx : -9223372036854775808 ≤ x ∧ x ≤ 9223372036854775807) (w : World) : Calls Try.prog 24 #[.int .i64 x, .int .i64 n] w fun e w' => ∃ r : Nat, e = .returned (.int .i64 r) ∧ r < n ∧ w' = w := by
  have hlt : x.tmod n < n := Int.tmod_lt_of_pos x (by omega)
  have hgt : -(n : Int) < x.tmod n := by
    have h := Int.tmod_lt_of_pos (-x) (show (0 : Int) < n by omega)
    rw [Int.neg_tmod] at h
    omega
  obtain ⟨m, hm⟩ : ∃ m, x.tmod n = m := ⟨_, rfl⟩
  rw [hm] at hlt hgt
  have hn : ¬(n : Int) = 0 := by omega
  have hw : wrap64 (m + n) = m + n := by simp only [wrap64]; omega
  have hw2 : wrap64 m = m := by simp only [wrap64]; omega
  go_enter Try.func24, Try.ntmps24
  go_wp2_with fail
  all_goals
    go_ret
    first
    | exact ⟨m.toNat, rd_int (by omega), by omega, rfl⟩
    | exact ⟨(m + n).toNat, rd_int (by omega), by omega, rfl⟩

set_option maxHeartbeats 16000000 in
set_option maxRecDepth 100000 in
theorem back7 (A A' : Option Addr) (n c n' c' : Nat) (ps : List Pg) (l' : List UInt8) (cut nd : Int) (w : World) (h : PS w w.heap.size A n ps) (h' : Rd w w.heap.size 1 A' n' (bts l')) (hn : n ≤ 9223372036854775807) (hn' : n' ≤ 140737488353000) (hc' : n' ≤ c') (hcm' : c' ≤ maxLen)
    (hcut : -9223372036854775808 ≤ cut ∧ cut ≤ 9223372036854775807) (hnd : -9223372036854775808 ≤ nd ∧ nd ≤ 9223372036854775807) :
    Calls Try.prog 7 #[.slice A n c, .int .i64 cut, .int .i64 nd, .slice A' n' c'] w (Yes w) := by
  have HL := hid h.2
  have HCM := hid hcm'
  have HN' := hid hn'
  have hlv := lives12 w
  go_enter Try.func7, Try.ntmps7
  go_wp2_with (go_at_call 12; refine stop_ (fun Ps hPs => ?_))
  refine hPs ?_
  clear hPs Ps
  refine hlv.mono ?_
  clear hlv
  rintro e w1 ⟨rfl, hb⟩
  by_cases h40 : 40 < n
  · go_wp2_with fail
    go_ret
    exact ⟨rfl, hb⟩
  · have hp2 := pick24 nd 2 (by omega) (by omega) hnd w1
    go_wp2_with (go_at_call 24; refine stop_ (fun Ps hPs => ?_))
    refine hPs ?_
    clear hPs Ps
    refine hp2.mono ?_
    clear hp2
    rintro e w1' ⟨node, rfl, hno, rfl⟩
    obtain ⟨⟨f1, f2, f3, f4, f5, f6⟩, hf⟩ : ∃ p, firstP (node : Int) = (p, 0) := by
      rcases (show node = 0 ∨ node = 1 by omega) with rfl | rfl
      · exact ⟨_, rfl⟩
      · exact ⟨_, rfl⟩
    have h8 := first8 (node : Int)
    rw [hf] at h8
    have HF := hid hf
    clear hf
    go_wp2_with (go_at_call 8; refine stop_ (fun Ps hPs => ?_))
    refine hPs ?_
    clear hPs Ps
    refine (h8 _).mono ?_
    clear h8
    rintro e w2 ⟨rfl, hq⟩
    have hb := bl_trans hb hq hb.size
    clear hq
    obtain ⟨B, hB⟩ : ∃ B, B = w.heap.size := ⟨_, rfl⟩
    have HB := hid hB
    rw [← hB] at h h' hb
    clear hB
    have kl := Blk.new w2 25 #[.int .i64 f1, .int .u8 f2, .int .i64 f3, .int .u8 f4, .int .i64 f5, .int .i64 f6]
    have lbl : B ≤ w2.heap.size := by rw [HB.out]; exact hb.size
    have hb := hb.alloc lbl (.cells #[.int .i64 f1, .int .u8 f2, .int .i64 f3, .int .u8 f4, .int .i64 f5, .int .i64 f6] 25)
    obtain ⟨bl, hbl⟩ : ∃ b, w2.heap.size = b := ⟨_, rfl⟩
    have hH : (w2.alloc (.cells #[.int .i64 f1, .int .u8 f2, .int .i64 f3, .int .u8 f4, .int .i64 f5, .int .i64 f6] 25)).heap.size = bl + 1 := by simp [hbl]
    obtain ⟨W, hW⟩ : ∃ W, W = w2.alloc (.cells #[.int .i64 f1, .int .u8 f2, .int .i64 f3, .int .u8 f4, .int .i64 f5, .int .i64 f6] 25) := ⟨_, rfl⟩
    rw [← hW] at hH hb
    rw [← hW, hbl] at kl
    rw [hbl] at lbl
    go_wp2_with fail
    rw [← hW]
    clear hW hbl
    have hHW : bl + 1 ≤ W.heap.size := Nat.le_of_eq hH.symm
    clear hH
    go_loopg [12, 13, 14] n (fun k b en i wr => ∃ (j m cb : Nat) (Ab : Option Addr), j ≤ n ∧ k = n - j ∧ i = .int .i64 j ∧ b = .slice Ab m cb ∧ m ≤ 70 * j ∧ m = (Vi.frs ((ps.map encP).take j)).length ∧ wr.ownsRow (bl + 1) 5 1 b m (bts (Vi.frs ((ps.map encP).take j))) ∧
      wr.ownsRow (bl + 1) 3 1 en j (endsP (ps.map encP) j) ∧ (∀ q ∈ ps.take j, Ok q) ∧ Below B w wr ∧ Blk wr bl 25 #[.int .i64 f1, .int .u8 f2, .int .i64 f3, .int .u8 f4, .int .i64 f5, .int .i64 f6] ∧ bl + 1 ≤ wr.heap.size)
    case atStart => exact ⟨0, 0, 0, none, by omega, rfl, rfl, rfl, by omega, rfl, World.ownsRow_nil _ _ _ _, World.ownsRow_nil _ _ _ _, by simp, hb, kl, hHW⟩
    case round =>
      clear hb kl hHW
      obtain ⟨j, m, cb, Ab, hj, rfl, rfl, rfl, hm7, hm, hfo, hen, hoks, hb, kl, hHr⟩ := hrel
      by_cases hlt : j < n
      · have hP := h.keep hb
        obtain ⟨b, off, a1, a2, a3, a4, a5, a6, rfl, hbB, hpj, ac0, ac1, ac2, ac3, ac4, ac5⟩ := hP.at_ hlt
        have hji : (j : Int) < (n : Int) := by omega
        have HPJ := hid hpj
        have HEN := hid hen
        have HFO := hid hfo
        have HM := hid hm
        have HOKS := hid hoks
        have HB0 := hid hb
        have HKL := hid kl
        have HP := hid hP
        have hszr : B ≤ wr.heap.size := by rw [HB.out]; exact hb.size
        clear hpj hen hfo hm hoks hb kl hP
        by_cases hok : Ok ⟨a1, a2, a3, a4, a5, a6⟩
        · have hc := encode14_ok hok wr
          obtain ⟨r, hr⟩ : ∃ r, encP ⟨a1, a2, a3, a4, a5, a6⟩ = r := ⟨_, rfl⟩
          have hdec := decP_encP hok
          have hr60 := encP_le ⟨a1, a2, a3, a4, a5, a6⟩
          rw [hr] at hc hdec hr60
          have HR := hid hr
          have HOK := hid hok
          have hsame := same12_yes ⟨a1, a2, a3, a4, a5, a6⟩
          clear hr hok
          go_wp2_with (go_at_call 14; refine stop_ (fun Ps hPs => ?_))
          refine hPs ?_
          clear hPs Ps
          refine hc.mono ?_
          clear hc
          rintro e w3 ⟨v3, rfl, ho3, hb3⟩
          obtain ⟨A3, c3, rfl, g3, g4⟩ := owned_slice ho3
          have hrd3 := Rd.of_own ho3
          have hs3 := hb3.size
          have hd := decode10 A3 r.length c3 r w3 hrd3 (by omega) g3 g4
          rw [hdec] at hd
          have hd : Calls Try.prog 10 #[.slice A3 r.length c3] w3 fun e w' => e = .returned (.tuple #[(Pg.mk a1 a2 a3 a4 a5 a6).v, .int .i64 0]) ∧ Below w3.heap.size w3 w' := hd
          have HRD3 := hid hrd3
          clear ac0 ac1 ac2 ac3 ac4 ac5 hdec ho3 hrd3
          go_wp2_with (go_at_call 10; refine stop_ (fun Ps hPs => ?_))
          refine hPs ?_
          clear hPs Ps
          refine hd.mono ?_
          clear hd
          rintro e w4 ⟨rfl, hb4⟩
          have b4 := bl_trans hb3 hb4 hs3
          have kp := Blk.new w4 25 #[.int .i64 a1, .int .u8 a2, .int .i64 a3, .int .u8 a4, .int .i64 a5, .int .i64 a6]
          have b4a := b4.alloc b4.size (.cells #[.int .i64 a1, .int .u8 a2, .int .i64 a3, .int .u8 a4, .int .i64 a5, .int .i64 a6] 25)
          obtain ⟨V, hV⟩ : ∃ V, V = w4.alloc (.cells #[.int .i64 a1, .int .u8 a2, .int .i64 a3, .int .u8 a4, .int .i64 a5, .int .i64 a6] 25) := ⟨_, rfl⟩
          have hP4 := (HP.out.keep (b4a.mono hszr))
          obtain ⟨ac0, ac1, ac2, ac3, ac4, ac5⟩ := hP4.six HPJ.out
          rw [← hV] at kp b4a hP4 ac0 ac1 ac2 ac3 ac4 ac5
          have r4 := ((HRD3.out.below hb4).more hb4.size).alloc (Nat.le_refl _) (.cells #[.int .i64 a1, .int .u8 a2, .int .i64 a3, .int .u8 a4, .int .i64 a5, .int .i64 a6] 25)
          rw [← hV] at r4
          have hV4 : w4.heap.size ≤ V.heap.size := by rw [hV]; simp
          have hb34 : Below w3.heap.size w3 V := by rw [hV]; exact hb4.alloc hb4.size _
          have HPP := hid hP4
          have HR4 := hid r4
          obtain ⟨bq, hbq⟩ : ∃ g, w4.heap.size = g := ⟨_, rfl⟩
          rw [hbq] at kp
          clear r4 hP4 hb3 hb4
          go_wp2_with fail
          rw [← hV]
          clear hV hbq
          obtain ⟨⟨pc0, pc1, pc2, pc3, pc4, pc5⟩, _⟩ := page_cells kp
          go_region_held3 (fun w' => (w'.cell? ⟨bq, 0, none⟩ = some (Value.int .i64 a1) ∧ w'.cell? ⟨bq, 1, none⟩ = some (Value.int .u8 a2) ∧ w'.cell? ⟨bq, 2, none⟩ = some (Value.int .i64 a3) ∧ w'.cell? ⟨bq, 3, none⟩ = some (Value.int .u8 a4) ∧ w'.cell? ⟨bq, 4, none⟩ = some (Value.int .i64 a5) ∧ w'.cell? ⟨bq, 5, none⟩ = some (Value.int .i64 a6)) ∧ (w'.cell? ⟨b, off + j * 6, none⟩ = some (Value.int .i64 a1) ∧ w'.cell? ⟨b, off + j * 6 + 1, none⟩ = some (Value.int .u8 a2) ∧ w'.cell? ⟨b, off + j * 6 + 2, none⟩ = some (Value.int .i64 a3) ∧ w'.cell? ⟨b, off + j * 6 + 3, none⟩ = some (Value.int .u8 a4) ∧ w'.cell? ⟨b, off + j * 6 + 4, none⟩ = some (Value.int .i64 a5) ∧ w'.cell? ⟨b, off + j * 6 + 5, none⟩ = some (Value.int .i64 a6)))
            (first | exact ⟨⟨pc0, pc1, pc2, pc3, pc4, pc5⟩, ⟨ac0, ac1, ac2, ac3, ac4, ac5⟩⟩)
            (first
              | (go_at_call 9; refine (hsame _).mono ?_; rintro e v9 ⟨rfl, hq0⟩; have hq1 := below_src hq0; have kp := kp.later hq1; obtain ⟨⟨pc0, pc1, pc2, pc3, pc4, pc5⟩, _⟩ := page_cells kp; have hP9 := HPP.out.keep (hq1.mono (Nat.le_trans hszr b4a.size)); obtain ⟨ac0, ac1, ac2, ac3, ac4, ac5⟩ := hP9.six HPJ.out))
          have hvs : w3.heap.size ≤ V.heap.size := hb34.size
          have r9 := ((HR4.out.more (show w4.heap.size ≤ V.heap.size by rw [show V.heap.size = V.drew.heap.size from rfl]; exact hV4)).below hq1).more hq1.size
          have b9 : Below wr.heap.size wr v9 := bl_trans b4a hq1 b4a.size
          have hs9 := b9.size
          have fo9 := owned_later HFO.out b9
          have en9 := owned_later HEN.out b9
          have kl9 := HKL.out.later b9
          have hb9 := bl_trans HB0.out b9 hszr
          have hct := Vi.frs_take (rs := ps.map encP) (j := j) (r := r) (by rw [List.getElem?_map, HPJ.out, Option.map_some, HR.out])
          obtain ⟨bx, hbx⟩ : ∃ bx, bx = Vi.frs ((ps.map encP).take (j + 1)) := ⟨_, rfl⟩
          rw [← hbx] at hct
          have hfl := Vi.fr_len r
          have hxl : bx.length = m + (Vi.fr r).length := by rw [hct, List.length_append, ← HM.out]
          have hok2 : ∀ q ∈ ps.take (j + 1), Ok q := by
            intro q hq
            rw [take_succ_get? HPJ.out, List.mem_append, List.mem_singleton] at hq
            rcases hq with hq | rfl
            · exact HOKS.out q hq
            · exact HOK.out
          have hrb := Rd.of_own fo9
          have HCT := hid hct
          have HBX := hid hbx
          have HOK2 := hid hok2
          have HB9 := hid hb9
          have HKL9 := hid kl9
          have HEN9 := hid en9
          obtain ⟨rl, hrl⟩ : ∃ rl, rl = r.length := ⟨_, rfl⟩
          rw [← hrl] at r9 hfl hr60 g3 ⊢
          have hxb : bx.length ≤ 70 * (j + 1) := by omega
          have HXL := hid hxl
          have HRL := hid hrl
          clear kp pc0 pc1 pc2 pc3 pc4 pc5 ac0 ac1 ac2 ac3 ac4 ac5 hP9 hct hbx hok2 hb9 kl9 en9 hxl hrl hq0 hq1 fo9 hfl
          go_wp2_with (go_at_call 25; refine stop_ (fun Ps hPs => ?_))
          refine hPs ?_
          clear hPs Ps
          refine (fAppend_any Ab A3 m cb rl c3 _ r bx v9 hrb r9 (by omega) (by omega) HCT.out).mono ?_
          rintro e w10 ⟨v10, rfl, ho10, hb10⟩
          have hs10 := hb10.size
          have en10 := owned_later HEN9.out hb10
          have kl10 := HKL9.out.later hb10
          have HB10 := hid (bl_trans HB9.out hb10 (Nat.le_trans hszr hs9))
          obtain ⟨A10, c10, rfl, g5, g6⟩ := owned_slice ho10
          have HO10 := hid ho10
          have HEN10 := hid en10
          have HKL10 := hid kl10
          clear ho10 en10 kl10 hrb r9 hb10
          go_wp2_with (at_builtin; refine stop_ (fun Ps hPs => ?_))
          refine hPs ?_
          clear hPs Ps
          refine wpList_app1 T46 (.tmp 85) (.tmp 88) rfl rfl HEN10.out rfl rfl rfl (by simp [Value.oneCell']) (by omega) (by omega) fun en' w11 hen11 hg hat => ?_
          have ho11 := owned_gb HO10.out hg fun g hg1 he => by have := (HO10.out.lt g hg1).1; have := (HEN9.out.lt g he.symm).2; omega
          have hb11 : Below B w w11 := below_append HB10.out (owned_less HEN10.out (by omega)) hg (by omega)
          have kl11 := HKL10.out.gb hg (fun he => by have := (HEN10.out.lt bl he.symm).1; omega)
          have hs11 : w10.heap.size ≤ w11.heap.size := hg.size
          have HEN11 := hid hen11
          have HO11 := hid ho11
          have HB11 := hid hb11
          have HKL11 := hid kl11
          clear hg hat hen11 ho11 hb11 kl11
          go_wp2_with fail
          go_roundg (n - (j + 1))
          case measure => omega
          case rel =>
            refine ⟨j + 1, bx.length, c10, A10, by omega, rfl, by go_num, rfl, hxb, by rw [HBX.out], ?_, ?_, HOK2.out, HB11.out, HKL11.out, by omega⟩
            · rw [← HBX.out]
              exact owned_less HO11.out (by omega)
            · rw [endsP_succ, ← HBX.out]
              exact HEN11.out
        · have hc := encode14_no hok wr
          have hk := check18_no hok
          clear hok
          go_wp2_with (go_at_call 14; refine stop_ (fun Ps hPs => ?_))
          refine hPs ?_
          clear hPs Ps
          refine hc.mono ?_
          clear hc ac0 ac1 ac2 ac3 ac4 ac5
          rintro e w3 ⟨rfl, hb3⟩
          have hP3 := HP.out.keep (hb3.mono hszr)
          obtain ⟨ac0, ac1, ac2, ac3, ac4, ac5⟩ := hP3.six HPJ.out
          have hb3 := bl_trans HB0.out hb3 hszr
          go_wp2_with (go_at_call 16; refine stop_ (fun Ps hPs => ?_))
          refine hPs ?_
          clear hPs Ps
          refine (hk w3).mono ?_
          clear hk ac0 ac1 ac2 ac3 ac4 ac5 hP3
          rintro e w4 ⟨rfl, hb4⟩
          have hb5 := bl_trans hb3 hb4 (by rw [HB.out]; exact hb3.size)
          go_wp2_with fail
          go_ret
          exact ⟨rfl, by rw [← HB.out]; exact hb5⟩
      · obtain rfl : j = n := by omega
        have hps : ps.length = j := HL.out
        have htk : (ps.map encP).take j = ps.map encP := List.take_of_length_le (by simp; omega)
        have htk2 : ps.take j = ps := List.take_of_length_le (by omega)
        rw [htk] at hm hfo
        rw [htk2] at hoks
        obtain ⟨bs, hbs⟩ : ∃ bs, bs = Vi.frs (ps.map encP) := ⟨_, rfl⟩
        rw [← hbs] at hm hfo
        subst hm
        have HBS := hid hbs
        have HOKS := hid hoks
        have hP := h.keep hb
        obtain ⟨Ae, ce, rfl, g1, g2⟩ := owned_slice hen
        obtain ⟨g3, g4⟩ := owned_cap hfo
        have hpk := pick24 cut (bs.length + 1) (by omega) (by omega) hcut wr
        rw [show ((bs.length + 1 : Nat) : Int) = (bs.length : Int) + 1 by omega] at hpk
        have hszr : B ≤ wr.heap.size := by rw [HB.out]; exact hb.size
        clear htk htk2 hbs hoks hlt hps
        go_wp2_with (go_at_call 24; refine stop_ (fun Ps hPs => ?_))
        refine hPs ?_
        clear hPs Ps
        refine hpk.mono ?_
        clear hpk
        rintro e wq ⟨kk, rfl, hk1, rfl⟩
        have hgg := World.grownBy.refl wq (some bl)
        go_wp2_with fail
        go_loopg [20, 21] j (fun k g i wv => ∃ (p a : Nat) (q : Pg), p ≤ j ∧ k = j - p ∧ i = .int .i64 p ∧ g = .int .i64 a ∧ a = (Vi.frs ((ps.map encP).take p)).length ∧ a ≤ kk ∧ q = (ps.take p).getLastD ⟨f1, f2, f3, f4, f5, f6⟩ ∧ wq.grownBy wv (some bl) ∧ Blk wv bl 25 q.cs)
        case atStart => exact ⟨0, 0, ⟨f1, f2, f3, f4, f5, f6⟩, by omega, rfl, rfl, rfl, rfl, by omega, rfl, hgg, kl⟩
        case round =>
          clear kl hgg
          obtain ⟨p, a, q, hp, rfl, rfl, rfl, ha, hak, hq, hg, kl⟩ := hrel
          obtain ⟨nx, hnx⟩ : ∃ nx, nx = (Vi.frs ((ps.map encP).take (p + 1))).length := ⟨_, rfl⟩
          have HNX := hid hnx
          have HA := hid ha
          have HQ := hid hq
          have hPv := hP.gb hg hszr lbl
          have hev := Rd.of_own (owned_gb_far hen hg (Nat.lt_succ_self bl))
          have hcases : (p < j ∧ nx ≤ kk) ∨ (p < j ∧ kk < nx) ∨ p = j := by omega
          have hce : p < j → ∃ be offe, Ae = some ⟨be, offe, none⟩ ∧ bl < be ∧ wr.cell? ⟨be, offe + p, none⟩ = some (.int .i64 (nx : Int)) := by
            intro hlt
            obtain ⟨be, offe, ue, hAe, hbe, hue, hce⟩ := hev.at_ hlt
            rw [endsP_get (ps.map encP) p j hlt, ← hnx] at hue
            obtain rfl := Option.some.inj hue
            exact ⟨be, offe, hAe, (hen.lt be (by rw [hAe]; rfl)).1, hce⟩
          clear hnx ha hq
          obtain ⟨q1, q2, q3, q4, q5, q6⟩ := q
          rcases hcases with ⟨hlt, hnk⟩ | hstop
          · obtain ⟨be, offe, rfl, hbe, hcell⟩ := hce hlt
            have hpi : (p : Int) < (j : Int) := by omega
            have hnki : (nx : Int) ≤ (kk : Int) := by omega
            obtain ⟨b, off, a1, a2, a3, a4, a5, a6, rfl, hbB, hpj, ac0, ac1, ac2, ac3, ac4, ac5⟩ := hPv.at_ hlt
            obtain ⟨⟨lc0, lc1, lc2, lc3, lc4, lc5⟩, lf0, lf1, lf2, lf3, lf4, lf5⟩ := page_cells kl
            have n1 : be ≠ bl := by omega
            have n2 : b ≠ bl := by omega
            have HPJ := hid hpj
            have HKL := hid kl
            have HG := hid hg
            clear hce hpj kl hg hev
            go_wp2_with fail
            have D1 : wr.drew.cell? ⟨be, offe + p, none⟩ = some (Value.int .i64 (nx : Int)) ∧ (wr.drew.cell? ⟨b, off + p * 6, none⟩ = some (Value.int .i64 a1) ∧ wr.drew.cell? ⟨b, off + p * 6 + 1, none⟩ = some (Value.int .u8 a2) ∧ wr.drew.cell? ⟨b, off + p * 6 + 2, none⟩ = some (Value.int .i64 a3) ∧ wr.drew.cell? ⟨b, off + p * 6 + 3, none⟩ = some (Value.int .u8 a4) ∧ wr.drew.cell? ⟨b, off + p * 6 + 4, none⟩ = some (Value.int .i64 a5) ∧ wr.drew.cell? ⟨b, off + p * 6 + 5, none⟩ = some (Value.int .i64 a6)) := ⟨(drew_cell wr _).trans hcell, (drew_cell wr _).trans ac0, (drew_cell wr _).trans ac1, (drew_cell wr _).trans ac2, (drew_cell wr _).trans ac3, (drew_cell wr _).trans ac4, (drew_cell wr _).trans ac5⟩
            have D2 : ((((((wr.setCell ⟨bl, 0, none⟩ (.int .i64 a1)).setCell ⟨bl, 1, none⟩ (.int .u8 a2)).setCell ⟨bl, 2, none⟩ (.int .i64 a3)).setCell ⟨bl, 3, none⟩ (.int .u8 a4)).setCell ⟨bl, 4, none⟩ (.int .i64 a5)).setCell ⟨bl, 5, none⟩ (.int .i64 a6)).drew.cell? ⟨be, offe + p, none⟩ = some (Value.int .i64 (nx : Int)) ∧ (((((((wr.setCell ⟨bl, 0, none⟩ (.int .i64 a1)).setCell ⟨bl, 1, none⟩ (.int .u8 a2)).setCell ⟨bl, 2, none⟩ (.int .i64 a3)).setCell ⟨bl, 3, none⟩ (.int .u8 a4)).setCell ⟨bl, 4, none⟩ (.int .i64 a5)).setCell ⟨bl, 5, none⟩ (.int .i64 a6)).drew.cell? ⟨b, off + p * 6, none⟩ = some (Value.int .i64 a1) ∧ ((((((wr.setCell ⟨bl, 0, none⟩ (.int .i64 a1)).setCell ⟨bl, 1, none⟩ (.int .u8 a2)).setCell ⟨bl, 2, none⟩ (.int .i64 a3)).setCell ⟨bl, 3, none⟩ (.int .u8 a4)).setCell ⟨bl, 4, none⟩ (.int .i64 a5)).setCell ⟨bl, 5, none⟩ (.int .i64 a6)).drew.cell? ⟨b, off + p * 6 + 1, none⟩ = some (Value.int .u8 a2) ∧ ((((((wr.setCell ⟨bl, 0, none⟩ (.int .i64 a1)).setCell ⟨bl, 1, none⟩ (.int .u8 a2)).setCell ⟨bl, 2, none⟩ (.int .i64 a3)).setCell ⟨bl, 3, none⟩ (.int .u8 a4)).setCell ⟨bl, 4, none⟩ (.int .i64 a5)).setCell ⟨bl, 5, none⟩ (.int .i64 a6)).drew.cell? ⟨b, off + p * 6 + 2, none⟩ = some (Value.int .i64 a3) ∧ ((((((wr.setCell ⟨bl, 0, none⟩ (.int .i64 a1)).setCell ⟨bl, 1, none⟩ (.int .u8 a2)).setCell ⟨bl, 2, none⟩ (.int .i64 a3)).setCell ⟨bl, 3, none⟩ (.int .u8 a4)).setCell ⟨bl, 4, none⟩ (.int .i64 a5)).setCell ⟨bl, 5, none⟩ (.int .i64 a6)).drew.cell? ⟨b, off + p * 6 + 3, none⟩ = some (Value.int .u8 a4) ∧ ((((((wr.setCell ⟨bl, 0, none⟩ (.int .i64 a1)).setCell ⟨bl, 1, none⟩ (.int .u8 a2)).setCell ⟨bl, 2, none⟩ (.int .i64 a3)).setCell ⟨bl, 3, none⟩ (.int .u8 a4)).setCell ⟨bl, 4, none⟩ (.int .i64 a5)).setCell ⟨bl, 5, none⟩ (.int .i64 a6)).drew.cell? ⟨b, off + p * 6 + 4, none⟩ = some (Value.int .i64 a5) ∧ ((((((wr.setCell ⟨bl, 0, none⟩ (.int .i64 a1)).setCell ⟨bl, 1, none⟩ (.int .u8 a2)).setCell ⟨bl, 2, none⟩ (.int .i64 a3)).setCell ⟨bl, 3, none⟩ (.int .u8 a4)).setCell ⟨bl, 4, none⟩ (.int .i64 a5)).setCell ⟨bl, 5, none⟩ (.int .i64 a6)).drew.cell? ⟨b, off + p * 6 + 5, none⟩ = some (Value.int .i64 a6)) := ⟨far6d hcell n1 (.int .i64 a1) (.int .u8 a2) (.int .i64 a3) (.int .u8 a4) (.int .i64 a5) (.int .i64 a6), far6d ac0 n2 (.int .i64 a1) (.int .u8 a2) (.int .i64 a3) (.int .u8 a4) (.int .i64 a5) (.int .i64 a6), far6d ac1 n2 (.int .i64 a1) (.int .u8 a2) (.int .i64 a3) (.int .u8 a4) (.int .i64 a5) (.int .i64 a6), far6d ac2 n2 (.int .i64 a1) (.int .u8 a2) (.int .i64 a3) (.int .u8 a4) (.int .i64 a5) (.int .i64 a6), far6d ac3 n2 (.int .i64 a1) (.int .u8 a2) (.int .i64 a3) (.int .u8 a4) (.int .i64 a5) (.int .i64 a6), far6d ac4 n2 (.int .i64 a1) (.int .u8 a2) (.int .i64 a3) (.int .u8 a4) (.int .i64 a5) (.int .i64 a6), far6d ac5 n2 (.int .i64 a1) (.int .u8 a2) (.int .i64 a3) (.int .u8 a4) (.int .i64 a5) (.int .i64 a6)⟩
            have K1 := hid D1
            have K2 := hid D2
            clear D1 D2 hPv hen hfo hb hP h h'
            go_region_held3 (fun w' => w'.cell? ⟨be, offe + p, none⟩ = some (Value.int .i64 (nx : Int)) ∧ (w'.cell? ⟨b, off + p * 6, none⟩ = some (Value.int .i64 a1) ∧ w'.cell? ⟨b, off + p * 6 + 1, none⟩ = some (Value.int .u8 a2) ∧ w'.cell? ⟨b, off + p * 6 + 2, none⟩ = some (Value.int .i64 a3) ∧ w'.cell? ⟨b, off + p * 6 + 3, none⟩ = some (Value.int .u8 a4) ∧ w'.cell? ⟨b, off + p * 6 + 4, none⟩ = some (Value.int .i64 a5) ∧ w'.cell? ⟨b, off + p * 6 + 5, none⟩ = some (Value.int .i64 a6))) (first | (with_reducible exact K1.out) | (with_reducible exact K2.out)) (fail)
            rename_i hheld
            clear hheld K1 K2
            obtain ⟨W9, hW9⟩ : ∃ W, W = ((((((wr.setCell ⟨bl, 0, none⟩ (.int .i64 a1)).setCell ⟨bl, 1, none⟩ (.int .u8 a2)).setCell ⟨bl, 2, none⟩ (.int .i64 a3)).setCell ⟨bl, 3, none⟩ (.int .u8 a4)).setCell ⟨bl, 4, none⟩ (.int .i64 a5)).setCell ⟨bl, 5, none⟩ (.int .i64 a6)).drew := ⟨_, rfl⟩
            have kl9 : Blk W9 bl 25 (Pg.mk a1 a2 a3 a4 a5 a6).cs := by
              rw [hW9]
              exact (HKL.out.page _ _ _ _ _ _).drewN 1
            have hg9 : wq.grownBy W9 (some bl) := by
              rw [hW9]
              exact gb_drewN (gb_page HG.out _ _ _ _ _ _) 1
            rw [← hW9]
            clear hW9 lc0 lc1 lc2 lc3 lc4 lc5 lf0 lf1 lf2 lf3 lf4 lf5 ac0 ac1 ac2 ac3 ac4 ac5 hcell
            have KL9 := hid kl9
            have HG9 := hid hg9
            clear kl9 hg9
            go_wp2_with fail
            go_roundg (j - (p + 1))
            case measure => omega
            case rel =>
              refine ⟨p + 1, nx, ⟨a1, a2, a3, a4, a5, a6⟩, by omega, rfl, by go_num, rfl, HNX.out, hnk, (getLastD_step _ _ _ _ HPJ.out).symm, ?_, ?_⟩
              · exact HG9.out
              · exact KL9.out
          · have hla : lastP ⟨f1, f2, f3, f4, f5, f6⟩ (bs.take kk) = (⟨q1, q2, q3, q4, q5, q6⟩, a) := by
              rw [HBS.out, last_torn HOKS.out (by rw [← HA.out]; exact hak) (by rw [← HNX.out, HL.out]; omega), ← HQ.out, ← HA.out]
            have hbr : Below B w wr := hb.grown hg hszr (fun k hk => by have := Option.some.inj hk; omega)
            have hrs : B ≤ wr.heap.size := by rw [HB.out]; exact hbr.size
            have htake := (Rd.of_own (owned_gb_far hfo hg (Nat.lt_succ_self bl))).take (show kk ≤ bs.length by omega)
            rw [Nat.mul_one, bts_take] at htake
            have h11 := last11 Ab kk cb node f1 f2 f3 f4 f5 f6 (bs.take kk) wr htake (by omega) (by omega) g4 HF.out
            rw [hla] at h11
            have h11 : Calls Try.prog 11 #[.slice Ab kk cb, .int .i64 (node : Int)] wr fun e w' => e = .returned (.tuple #[(Pg.mk q1 q2 q3 q4 q5 q6).v, .int .i64 (a : Nat), .int .i64 0]) ∧ Below wr.heap.size wr w' := h11
            have hki : (kk : Int) ≤ (cb : Int) := by omega
            have hsq := same12_yes ⟨q1, q2, q3, q4, q5, q6⟩
            have HBR := hid hbr
            have HKL := hid kl
            clear hla htake hbr kl hg hPv hP hfo hen
            have hcell : p < j → ∃ be offe, Ae = some ⟨be, offe, none⟩ ∧ wr.cell? ⟨be, offe + p, none⟩ = some (.int .i64 (nx : Int)) := fun hlt => by
              obtain ⟨be, offe, h1, _, h2⟩ := hce hlt
              exact ⟨be, offe, h1, h2⟩
            clear hce hev
            rcases hstop with ⟨hlt, hnk⟩ | hpj
            all_goals
              try (obtain ⟨be, offe, rfl, hce⟩ := hcell hlt; have hpi : (p : Int) < (j : Int) := (by omega); have hnki : (kk : Int) < (nx : Int) := (by omega))
              try obtain rfl := hpj
              clear hcell
              go_wp2_with (go_at_call 11; refine stop_ (fun Ps hPs => ?_))
              refine hPs ?_
              clear hPs Ps
              refine h11.mono ?_
              clear h11
              rintro e w3 ⟨rfl, hb3⟩
              try clear hce
              have kl := (HKL.out.later hb3).alloc (.cells #[.int .i64 q1, .int .u8 q2, .int .i64 q3, .int .u8 q4, .int .i64 q5, .int .i64 q6] 25)
              have kq := Blk.new w3 25 #[.int .i64 q1, .int .u8 q2, .int .i64 q3, .int .u8 q4, .int .i64 q5, .int .i64 q6]
              have hbx := bl_trans HBR.out hb3 hrs
              have hbx := hbx.alloc (by rw [HB.out]; exact hbx.size) (.cells #[.int .i64 q1, .int .u8 q2, .int .i64 q3, .int .u8 q4, .int .i64 q5, .int .i64 q6] 25)
              obtain ⟨⟨lc0, lc1, lc2, lc3, lc4, lc5⟩, lf0, lf1, lf2, lf3, lf4, lf5⟩ := page_cells kl
              obtain ⟨⟨qc0, qc1, qc2, qc3, qc4, qc5⟩, qf0, qf1, qf2, qf3, qf4, qf5⟩ := page_cells kq
              go_wp2_with (go_at_call 9; refine stop_ (fun Ps hPs => ?_))
              refine hPs ?_
              clear hPs Ps lc0 lf0 lc1 lf1 lc2 lf2 lc3 lf3 lc4 lf4 lc5 lf5 qc0 qf0 qc1 qf1 qc2 qf2 qc3 qf3 qc4 qf4 qc5 qf5 kl kq
              obtain ⟨V, hV⟩ : ∃ W, W = w3.alloc (.cells #[.int .i64 q1, .int .u8 q2, .int .i64 q3, .int .u8 q4, .int .i64 q5, .int .i64 q6] 25) := ⟨_, rfl⟩
              rw [← hV] at hbx ⊢
              clear hV
              refine (hsq V).mono ?_
              clear hsq
              rintro e w4 ⟨rfl, hb4⟩
              have hb4 := bl_trans hbx hb4 (by rw [HB.out]; exact hbx.size)
              have hs4 : B ≤ w4.heap.size := by rw [HB.out]; exact hb4.size
              have hd := decode10 A' n' c' l' w4 ((h'.below hb4).more hs4) (by omega) hc' HCM.out
              go_wp2_with (go_at_call 10; refine stop_ (fun Ps hPs => ?_))
              refine hPs ?_
              clear hPs Ps
              cases hde : decP l' with
              | none =>
                rw [hde] at hd
                have hd : Calls Try.prog 10 #[.slice A' n' c'] w4 fun e w' => e = .returned (.tuple #[(Pg.mk 0 0 0 0 0 0).v, .int .i64 5]) ∧ Below w4.heap.size w4 w' := hd
                clear hde
                refine hd.mono ?_
                clear hd
                rintro e w5 ⟨rfl, hb5⟩
                have hb5 := bl_trans hb4 hb5 hs4
                have kz := Blk.new w5 25 #[.int .i64 0, .int .u8 0, .int .i64 0, .int .u8 0, .int .i64 0, .int .i64 0]
                have hb5 := hb5.alloc (by rw [HB.out]; exact hb5.size) (.cells #[.int .i64 0, .int .u8 0, .int .i64 0, .int .u8 0, .int .i64 0, .int .i64 0] 25)
                obtain ⟨⟨zc0, zc1, zc2, zc3, zc4, zc5⟩, zf0, zf1, zf2, zf3, zf4, zf5⟩ := page_cells kz
                go_wp2_with (go_at_call 9; refine stop_ (fun Ps hPs => ?_))
                refine hPs ?_
                clear hPs Ps zc0 zf0 zc1 zf1 zc2 zf2 zc3 zf3 zc4 zf4 zc5 zf5
                refine (same12_yes ⟨0, 0, 0, 0, 0, 0⟩ _).mono ?_
                rintro e w6 ⟨rfl, hb6⟩
                have hb6 := bl_trans hb5 hb6 (by rw [HB.out]; exact hb5.size)
                go_wp2_with fail
                go_ret
                exact ⟨rfl, by rw [← HB.out]; exact hb6⟩
              | some y =>
                rw [hde] at hd
                obtain ⟨hoky, hey⟩ := decP_some hde
                have hen14 := encode14_ok hoky
                rw [hey] at hen14
                obtain ⟨y1, y2, y3, y4, y5, y6⟩ := y
                have hd : Calls Try.prog 10 #[.slice A' n' c'] w4 fun e w' => e = .returned (.tuple #[(Pg.mk y1 y2 y3 y4 y5 y6).v, .int .i64 0]) ∧ Below w4.heap.size w4 w' := hd
                clear hde hoky hey
                refine hd.mono ?_
                clear hd
                rintro e w5 ⟨rfl, hb5⟩
                have hb5 := bl_trans hb4 hb5 hs4
                have kz := Blk.new w5 25 #[.int .i64 y1, .int .u8 y2, .int .i64 y3, .int .u8 y4, .int .i64 y5, .int .i64 y6]
                have hb5 := hb5.alloc (by rw [HB.out]; exact hb5.size) (.cells #[.int .i64 y1, .int .u8 y2, .int .i64 y3, .int .u8 y4, .int .i64 y5, .int .i64 y6] 25)
                obtain ⟨⟨zc0, zc1, zc2, zc3, zc4, zc5⟩, zf0, zf1, zf2, zf3, zf4, zf5⟩ := page_cells kz
                go_wp2_with (go_at_call 14; refine stop_ (fun Ps hPs => ?_))
                refine hPs ?_
                clear hPs Ps zc0 zf0 zc1 zf1 zc2 zf2 zc3 zf3 zc4 zf4 zc5 zf5 kz
                obtain ⟨U, hU⟩ : ∃ W, W = w5.alloc (.cells #[.int .i64 y1, .int .u8 y2, .int .i64 y3, .int .u8 y4, .int .i64 y5, .int .i64 y6] 25) := ⟨_, rfl⟩
                rw [← hU] at hb5 ⊢
                clear hU
                refine (hen14 U).mono ?_
                clear hen14
                rintro e w6 ⟨v, rfl, hv, hb6⟩
                obtain ⟨A6, c6, rfl, g7, g8⟩ := owned_slice hv
                have hb6 := bl_trans hb5 hb6 (by rw [HB.out]; exact hb5.size)
                have hrv := Rd.of_own hv
                go_wp2_with (go_at_call 18; refine stop_ (fun Ps hPs => ?_))
                refine hPs ?_
                clear hPs Ps
                have hl' : l'.length = n' := by have := h'.1; rw [bts_length] at this; omega
                refine (same_self A6 A' l'.length c6 n' c' _ _ l' w6 hrv (h'.below hb6) (by omega) (by omega)).mono ?_
                rintro e w7 ⟨rfl, d, rfl⟩
                go_wp2_with fail
                go_ret
                exact ⟨rfl, by rw [← HB.out]; exact below_drewN hb6 d⟩
end Go.Proofs.Ytcfopaphpjmopaa
