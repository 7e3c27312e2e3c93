/- A primary answers without waiting for the other site, as many times as its leash allows: of any acts. No condition. (part 10) -/
import Derived.Test.YtbpnbcjgkbpmgaaGreatMAi
namespace Go.Proofs.YtbpnbcjgkbpmgaaGreat
open Go.RowKit Go.Lg St
set_option linter.unusedVariables false
set_option linter.unusedSimpArgs false
theorem T28 : SlT Tryz.prog 28 77 3 40 := SlT.mk' (.agg #[.bool false, .string ⟨#[]⟩, .string ⟨#[]⟩]) Tryz.underlying28 (by kernel_rfl) rfl (by decide) (by decide)
theorem opc_app (a b : List Op3) : opc (a ++ b) = opc a ++ opc b := by simp [opc]
theorem opc_one (l : List Op3) : ∀ u ∈ opc l, u.oneCell' = true := by
  intro u hu
  obtain ⟨x, hx, hu⟩ := List.mem_flatMap.1 hu
  simp only [List.mem_cons, List.not_mem_nil, or_false] at hu
  rcases hu with rfl | rfl | rfl <;> rfl
theorem rkey_le {b last : Bys} {s : Rs} (h : s.1 ≤ b.length) : (rkey b last s).1.length ≤ last.length + 16 ∧ (rkey b last s).2.1 ≤ b.length := by
  have h1 := rnum_le (most := (last.length : Int)) h
  have h2 := rtext_le (most := 16) h1.1
  unfold rkey
  simp only [List.length_append, List.length_take]
  exact ⟨by omega, h2.1⟩
theorem rop_le {b last : Bys} {s : Rs} (h : s.1 ≤ b.length) : (rop b last s).1.key.size ≤ last.length + 16 ∧ (rop b last s).2.1 ≤ b.length := by
  have h1 := rnum_le (most := 1) h
  have h2 := rkey_le (last := last) h1.1
  unfold rop
  split
  · have h3 := rtext_le (most := 32) h2.2
    exact ⟨by rw [← kb_length]; simp only [kb_ba]; exact h2.1, h3.1⟩
  · exact ⟨by rw [← kb_length]; simp only [kb_ba]; exact h2.1, h2.2⟩
def BRead (r : Option (List Op3 × Nat)) (w : World) (e : Ending) (w' : World) : Prop :=
  match r with
  | none => e = .returned (.tuple #[.slice none 0 0, .int .i64 0, .int .i64 5]) ∧ Below w.heap.size w w'
  | some (l, n) => ∃ v, e = .returned (.tuple #[v, .int .i64 (n : Nat), .int .i64 0]) ∧ Sl w' (fun k => w.heap.size ≤ k) 77 3 v l.length (opc l) ∧ Below w.heap.size w w'
theorem bread_no {r : Option (List Op3 × Nat)} {w w' : World} (h : r = none) (hb : Below w.heap.size w w') : BRead r w (.returned (.tuple #[.slice none 0 0, .int .i64 0, .int .i64 5])) w' := by
  subst h
  exact ⟨rfl, hb⟩
theorem bread_some {r : Option (List Op3 × Nat)} {l : List Op3} {n m : Nat} {v : Value} {w w' : World} (h : r = some (l, n)) (hm : m = l.length) (hs : Sl w' (fun k => w.heap.size ≤ k) 77 3 v m (opc l)) (hb : Below w.heap.size w w') : BRead r w (.returned (.tuple #[v, .int .i64 (n : Nat), .int .i64 0])) w' := by
  subst h hm
  exact ⟨v, rfl, hs, hb⟩
set_option maxHeartbeats 4000000 in
set_option maxRecDepth 100000 in
theorem bread160 {w : World} {F : Fp} {A : Option Addr} {n c : Nat} {b : Bys} (h : RdF w F 1 A n (bts b)) (hc : n ≤ c) (hcm : c ≤ 9223372036854775807) (hfit : n ≤ 140737488000000) : Calls Tryz.prog 160 #[.slice A n c] w (BRead (readB b) w) := by
  have hbl : b.length = n := by simpa using h.1
  have hz := Blk.new w 274 #[.slice A n c, .int .i64 0, .bool false]
  have hb0 := al_below w (.cells #[.slice A n c, .int .i64 0, .bool false] 274)
  have hbr : Br (w.alloc (.cells #[.slice A n c, .int .i64 0, .bool false] 274)) w.heap.size A n c b (0, false) := ⟨hz, (h.mv (mv_in w F)).mv fun k hk hg => ⟨by
    have := hg.2
    show k ≠ w.heap.size
    omega, hb0.block k hg.2⟩, Nat.zero_le _, ⟨hc, hcm⟩, hfit⟩
  have hn := number197 hbr 8 (by omega)
  have hle := rnum_le (b := b) (most := 8) (s := (0, false)) (Nat.zero_le _)
  obtain ⟨m, s1, hr⟩ : ∃ m s1, rnum b 8 (0, false) = (m, s1) := ⟨_, _, rfl⟩
  rw [hr] at hn hle
  simp only at hle
  have hm8 : m ≤ 8 := by omega
  have HR := hid hr
  have HBL := hid hbl
  have HB0 := hid hb0
  have HRD := hid (h.mv (mv_in w F))
  clear hr hle h hz hb0 hbl
  go_enter Tryz.func160, Tryz.ntmps160
  go_wp2_with (go_at_call 197; refine stop_ (fun Ps hPs => ?_))
  refine hPs ?_
  clear hPs Ps
  refine hn.mono ?_
  clear hn hbr
  rintro e' w1 ⟨rfl, hL1⟩
  have HL1 := hid hL1
  clear hL1
  go_wp2_with fail
  go_loopg [2, 6, 7] m (fun g v last i wr => ∃ (j : Nat) (ls : List Op3) (lk : ByteArray) (s : Rs), j ≤ m ∧ g = j ∧ i = .int .i64 j ∧ last = .string lk ∧ lk.size ≤ (m - j) * 16 ∧ s.1 ≤ n ∧ Hid (ls.length = m - j) ∧ Hid (rops b m [] s1 = (ls ++ (rops b j (kb lk) s).1, (rops b j (kb lk) s).2)) ∧ Hid (Blk wr w.heap.size 274 #[.slice A n c, .int .i64 (s.1 : Nat), .bool s.2]) ∧ Hid (Below w.heap.size w wr) ∧ Hid (Sl wr (fun q => w.heap.size < q) 77 3 v (m - j) (opc ls)))
  case atStart =>
    refine ⟨m, [], ⟨#[]⟩, s1, Nat.le_refl _, rfl, rfl, rfl, Nat.zero_le _, HL1.out.1.le, hid (by simp), hid ?_, hid HL1.out.1.blk, hid ?_, hid ?_⟩
    · rw [List.nil_append]; rfl
    · exact ⟨HL1.out.2.os.trans HB0.out.os, HL1.out.2.tape.trans HB0.out.tape, HL1.out.2.output.trans HB0.out.output, Nat.le_trans HB0.out.size HL1.out.2.size, fun k hk => (HL1.out.2.block k (Nat.lt_of_lt_of_le hk HB0.out.size) (by omega)).trans (HB0.out.block k hk)⟩
    · rw [Nat.sub_self]; exact Sl.nil_ _ _ _ _
  case round =>
    obtain ⟨_, ls, lk, s, hj, rfl, rfl, rfl, hlk, hsn, HLS, HRO, HBK, HBW, HSL⟩ := hrel
    have hbr : Br wr w.heap.size A n c b s := ⟨HBK.out, (HRD.out).mv fun k hk hg => ⟨by
      have : k < w.heap.size := hg.2
      show k ≠ w.heap.size
      omega, HBW.out.block k hg.2⟩, hsn, ⟨hc, hcm⟩, hfit⟩
    have HBR := hid hbr
    have hzl : w.heap.size < wr.heap.size := HBK.out.lt
    obtain ⟨at_, bad⟩ := s
    have c2 : wr.cell? ⟨w.heap.size, 2, none⟩ = some (.bool bad) := HBK.out.cell 2
    have c1 : wr.cell? ⟨w.heap.size, 1, none⟩ = some (.int .i64 (at_ : Nat)) := HBK.out.cell 1
    clear hbr
    cases bad with
    | true =>
      have HNO : Hid (readB b = none) := hid (by
        unfold readB
        rw [HR.out]
        simp only
        rw [HRO.out]
        have e : ∀ j l, (rops b j l (at_, true)).2 = (at_, true) := fun j l => by cases j <;> simp [rops]
        rw [if_pos (.inl (by rw [e]))])
      rcases Nat.eq_zero_or_pos gk with h0 | h0
      · subst h0
        go_wp2_with fail
        go_ret3
        exact bread_no HNO.out HBW.out
      · have hji : (0 : Int) < (gk : Int) := by omega
        go_wp2_with fail
        go_ret3
        exact bread_no HNO.out HBW.out
    | false =>
      rcases Nat.eq_zero_or_pos gk with h0 | h0
      · subst h0
        obtain ⟨Av, cv, rfl, g1, g2⟩ := HSL.out.slice_
        have hl9 : ls.length = m := by have := HLS.out; omega
        have hro : rops b m [] s1 = (ls, (at_, false)) := by rw [HRO.out]; simp [rops]
        have hos : OS wr wr.heap.size Av m ls := ⟨HSL.out.rdf.rd (by decide), hl9⟩
        have hbt := batch51 Av m cv ls wr hos (by omega)
        unfold maxLen at g2
        have HBT := hid hbt
        have HRO2 := hid hro
        have HL9 := hid hl9
        have HSL2 := hid (show Sl wr (fun q => w.heap.size < q) 77 3 (.slice Av m cv) m (opc ls) from HSL.out)
        clear hro hos hbt hl9 HRO
        simp only [Nat.sub_zero] at g1
        by_cases hbk : bk ls = 0
        · have HSO : Hid (readB b = some (ls, at_)) := hid (by
            unfold readB
            rw [HR.out]
            simp only
            rw [HRO2.out, if_neg (by simp [hbk])])
          rw [hbk] at HBT
          have HBK0 := hid hbk
          clear hbk
          simp only [Nat.sub_zero]
          go_wp2_with (go_at_call 147; refine stop_ (fun Ps hPs => ?_))
          refine hPs ?_
          clear hPs Ps
          refine HBT.out.mono ?_
          rintro e' w3 ⟨rfl, hb3⟩
          have c13 : w3.cell? ⟨w.heap.size, 1, none⟩ = some (.int .i64 (at_ : Nat)) := (hb3.cell (p := ⟨w.heap.size, 1, none⟩) hzl).trans c1
          have HB3 := hid hb3
          clear hb3
          go_wp2_with fail
          go_quiet (fail)
          all_goals
            go_wp2_with fail
            go_ret3
            refine bread_some HSO.out HL9.out.symm ?_ ?_
            · exact ((HSL2.out.later HB3.out).later (drewN_below _ _)).to fun k hk => Nat.le_of_lt hk
            · exact (HBW.out.trans (HB3.out.mono HBW.out.size)).trans ((drewN_below w3 _).mono (Nat.le_trans HBW.out.size HB3.out.size))
        · have HNO : Hid (readB b = none) := hid (by
            unfold readB
            rw [HR.out]
            simp only
            rw [HRO2.out, if_pos (.inr hbk)])
          obtain ⟨e1, he1⟩ : ∃ e1, e1 = bk ls := ⟨_, rfl⟩
          rw [← he1] at HBT hbk
          have hq : (e1 != 0) = true := by simpa using hbk
          clear he1 hbk
          simp only [Nat.sub_zero]
          go_wp2_with (go_at_call 147; refine stop_ (fun Ps hPs => ?_))
          refine hPs ?_
          clear hPs Ps
          refine HBT.out.mono ?_
          rintro e' w3 ⟨rfl, hb3⟩
          have HB3 := hid hb3
          clear hb3
          go_wp2_with fail
          go_ret3
          exact bread_no HNO.out (HBW.out.trans (HB3.out.mono HBW.out.size))
      · obtain ⟨g', rfl⟩ : ∃ g', gk = g' + 1 := ⟨gk - 1, by omega⟩
        have hji : (0 : Int) < ((g' + 1 : Nat) : Int) := by omega
        have hop := op198 HBR.out lk (by omega)
        have hrl := rop_le (b := b) (last := kb lk) (s := (at_, false)) (by rw [HBR.out.len]; exact hsn)
        obtain ⟨⟨p, ky, vl⟩, s2, hro⟩ : ∃ o s2, rop b (kb lk) (at_, false) = (o, s2) := ⟨_, _, rfl⟩
        rw [hro] at hop hrl
        simp only [kb_length] at hrl
        have HOP := hid hop
        have HRP : Hid (rops b m [] s1 = ((ls ++ [⟨p, ky, vl⟩]) ++ (rops b g' (kb ky) s2).1, (rops b g' (kb ky) s2).2)) := hid (by
          rw [HRO.out]
          show (ls ++ (rops b (g' + 1) (kb lk) (at_, false)).1, _) = _
          rw [show rops b (g' + 1) (kb lk) (at_, false) = ((rop b (kb lk) (at_, false)).1 :: (rops b g' (kb (rop b (kb lk) (at_, false)).1.key) (rop b (kb lk) (at_, false)).2).1, (rops b g' (kb (rop b (kb lk) (at_, false)).1.key) (rop b (kb lk) (at_, false)).2).2) from by rw [rops, if_neg (by simp)], hro]
          simp)
        have hky : ky.size ≤ (m - g') * 16 := by omega
        have hs2n : s2.1 ≤ n := by have := HBL.out; omega
        clear hop hro hrl HRO
        go_wp2_with (go_at_call 198; refine stop_ (fun Ps hPs => ?_))
        refine hPs ?_
        clear hPs Ps
        refine HOP.out.mono ?_
        rintro e' w2 ⟨rfl, hL2⟩
        have HSL2 := hid (HSL.out.mv (hL2.2.mv (fun k h1 h2 => by omega)))
        have HBK2 := hid hL2.1.blk
        have HBW2 : Hid (Below w.heap.size w w2) := hid ⟨hL2.2.os.trans HBW.out.os, hL2.2.tape.trans HBW.out.tape, hL2.2.output.trans HBW.out.output, Nat.le_trans HBW.out.size hL2.2.size, fun k hk => (hL2.2.block k (Nat.lt_of_lt_of_le hk HBW.out.size) (by omega)).trans (HBW.out.block k hk)⟩
        have hz2 : w.heap.size < w2.heap.size := HBK2.out.lt
        have k0 := Blk.new w2 77 #[.bool p, .string ky, .string vl]
        obtain ⟨q0, q1, q2, _⟩ := opcells k0
        have K0 := hid k0
        clear hL2 k0
        go_wp2_with (at_builtin; refine stop_ (fun Ps hPs => ?_))
        refine hPs ?_
        clear hPs Ps
        refine wpList_appS1 (c := 1) T28 (.tmp 28) (.tmp 30) rfl rfl (HSL2.out.alloc (.cells #[.bool p, .string ky, .string vl] 77)) rfl rfl (by rw [World.size_alloc]; rfl) (by simp [Value.oneCell']) (by omega) fun v4 w4 hv4 hg4 hat4 => ?_
        have hne : ∀ q, w.heap.size ≤ q → q ≤ w2.heap.size → (q = w.heap.size ∨ q = w2.heap.size) → some q ≠ Value.ownBlock _ := fun q _ _ h e => by
          have := HSL2.out.lt q e.symm
          omega
        have k4 : Blk w4 w2.heap.size 77 #[.bool p, .string ky, .string vl] := K0.out.gb hg4 (hne _ (by omega) (Nat.le_refl _) (.inr rfl))
        have z4 : Blk w4 w.heap.size 274 #[.slice A n c, .int .i64 (s2.1 : Nat), .bool s2.2] := (HBK2.out.alloc _).gb hg4 (hne _ (Nat.le_refl _) (by omega) (.inl rfl))
        have q41 : w4.cell? ⟨w2.heap.size, 1, none⟩ = some (.string ky) := k4.cell 1
        have b4 : Below w.heap.size w w4 := by
          have b3 := HBW2.out.alloc HBW2.out.size (.cells #[.bool p, .string ky, .string vl] 77)
          exact b3.grown hg4 (Nat.le_trans HBW2.out.size (by simp)) (fun g hg => by have := (HSL2.out.lt g hg).1; omega)
        have s4 : Sl w4 (fun q => w.heap.size < q) 77 3 v4 (m - g') (opc (ls ++ [⟨p, ky, vl⟩])) := by
          rw [opc_app]
          have := hv4.to (G := fun q => w.heap.size < q) (fun q hq => by
            rcases hq with h | h
            · exact h
            · simp at h; omega)
          rw [show m - g' = m - (g' + 1) + 1 by omega]
          exact this
        have Z4 := hid z4
        have B4 := hid b4
        have S4 := hid s4
        clear hv4 hg4 hat4 hne k4 z4 b4 s4 q0 q1 q2
        go_wp2_with fail
        go_roundg g'
        case measure => omega
        case rel => exact ⟨g', ls ++ [⟨p, ky, vl⟩], ky, s2, by omega, rfl, by go_num, rfl, hky, hs2n, hid (by rw [List.length_append, HLS.out]; simp; omega), HRP, Z4, B4, S4⟩
end Go.Proofs.YtbpnbcjgkbpmgaaGreat
namespace Go.Proofs.YtbpnbcjgkbpmgaaGreat
open Go.RowKit Go.Lg St
set_option linter.unusedVariables false
set_option linter.unusedSimpArgs false
def DecIs (r : Option Cmt) (w : World) (e : Ending) (w' : World) : Prop :=
  match r with
  | none => e = .returned (.tuple #[.agg #[.int .i64 0, .int .i64 0, .slice none 0 0], .int .i64 5]) ∧ Below w.heap.size w w'
  | some m => ∃ A c, e = .returned (.tuple #[.agg #[.int .i64 m.ep, .int .i64 m.num, .slice A m.os.length c], .int .i64 0]) ∧ Sl w' (fun k => w.heap.size ≤ k) 77 3 (.slice A m.os.length c) m.os.length (opc m.os) ∧ Below w.heap.size w w'
theorem dec_no {r : Option Cmt} {w w' : World} (h : r = none) (hb : Below w.heap.size w w') : DecIs r w (.returned (.tuple #[.agg #[.int .i64 0, .int .i64 0, .slice none 0 0], .int .i64 5])) w' := by
  subst h
  exact ⟨rfl, hb⟩
theorem ccells {W : World} {g : Nat} {x y u : Value} (h : Blk W g 88 #[x, y, u]) : W.cell? ⟨g, 0, none⟩ = some x ∧ W.cell? ⟨g, 1, none⟩ = some y ∧ W.cell? ⟨g, 2, none⟩ = some u ∧ W.frozen? ⟨g, 0, none⟩ = false ∧ W.frozen? ⟨g, 1, none⟩ = false ∧ W.frozen? ⟨g, 2, none⟩ = false := ⟨h.cell 0, h.cell 1, h.cell 2, h.frozen 0, h.frozen 1, h.frozen 2⟩
theorem cstored {W : World} {g : Nat} {x y u x' y' u' : Value} (h : Blk W g 88 #[x, y, u]) : Blk (((W.setCell ⟨g, 0, none⟩ x').setCell ⟨g, 1, none⟩ y').setCell ⟨g, 2, none⟩ u') g 88 #[x', y', u'] := ((h.set_ 0 x').set_ 1 y').set_ 2 u'
theorem small_nil (m : Int) : Vi.small m [] = (0, 0, 5) := by
  unfold Vi.small
  rw [if_pos (.inl (by simp [Vi.dec]))]
theorem small_err {m : Int} {b : Bys} {x k e : Nat} (h : Vi.small m b = (x, k, e)) : e = 0 ∨ (e = 5 ∧ x = 0 ∧ k = 0) := by
  by_cases h1 : (Vi.small m b).2.2 = 0
  · left; rw [h] at h1; exact h1
  · right
    have := Vi.small_bad h1
    rw [h] at this
    injection this with h2 this
    injection this with h3 h4
    exact ⟨h4, h2, h3⟩
theorem readB_nil : readB [] = none := by
  unfold readB
  have e : rnum [] 8 (0, false) = (0, (0, true)) := by
    unfold rnum
    rw [if_neg (by simp), if_pos (by rw [List.drop_nil, small_nil]; simp)]
  rw [e]
  rfl
theorem readB_le {b : Bys} {l : List Op3} {n : Nat} (h : readB b = some (l, n)) : n ≤ b.length ∧ l.length ≤ 8 := by
  have h0 := rnum_le (b := b) (most := 8) (s := (0, false)) (Nat.zero_le _)
  have step : ∀ (k : Nat) (last : Bys) (s : Rs), s.1 ≤ b.length → (rops b k last s).2.1 ≤ b.length ∧ (rops b k last s).1.length ≤ k := by
    intro k
    induction k with
    | zero => intro last s hs; exact ⟨hs, by simp [rops]⟩
    | succ k ih =>
      intro last s hs
      unfold rops
      split
      · exact ⟨hs, by simp⟩
      · have h1 := ih (kb (rop b last s).1.key) (rop b last s).2 (rop_le hs).2
        exact ⟨h1.1, by simp only [List.length_cons]; omega⟩
  have h1 := step (rnum b 8 (0, false)).1 [] (rnum b 8 (0, false)).2 h0.1
  unfold readB at h
  split at h
  · cases h
  · injection h with h
    injection h with h2 h3
    subst h2 h3
    exact ⟨h1.1, by omega⟩
theorem setres {w W : World} {x y u : Value} (hb : Below w.heap.size w W) : Below w.heap.size w (((W.setCell ⟨w.heap.size, 0, none⟩ x).setCell ⟨w.heap.size, 1, none⟩ y).setCell ⟨w.heap.size, 2, none⟩ u) :=
  ((hb.setCell (p := ⟨w.heap.size, 0, none⟩) (Nat.le_refl _) x).setCell (p := ⟨w.heap.size, 1, none⟩) (Nat.le_refl _) y).setCell (p := ⟨w.heap.size, 2, none⟩) (Nat.le_refl _) u
theorem ccheck {W : World} {F : Fp} {A : Option Addr} {c : Nat} {l : List Op3} (x1 x2 : Int) (h : Sl W F 77 3 (.slice A l.length c) l.length (opc l)) (hn : l.length ≤ 9223372036854775807) : Calls Tryz.prog 161 #[.agg #[.int .i64 x1, .int .i64 x2, .slice A l.length c]] W fun e w' => e = .returned (.int .i64 (Cmt.mk x1 x2 l).k) ∧ Below W.heap.size W w' := by
  exact commit41 ⟨x1, x2, A, l.length, c, l⟩ W ⟨h.rdf.rd (by decide), rfl⟩ hn
theorem setmv {w W : World} {x y u : Value} (h : w.heap.size < W.heap.size) : Mv W (((W.setCell ⟨w.heap.size, 0, none⟩ x).setCell ⟨w.heap.size, 1, none⟩ y).setCell ⟨w.heap.size, 2, none⟩ u) (fun k => w.heap.size + 1 ≤ k) (fun k => w.heap.size ≤ k) := fun k hk hf => by
  have hf' : w.heap.size + 1 ≤ k := hf
  refine ⟨by show w.heap.size ≤ k; omega, ?_⟩
  rw [Below.heap_setCell _ _ _ _ (by show k ≠ w.heap.size; omega), Below.heap_setCell _ _ _ _ (by show k ≠ w.heap.size; omega), Below.heap_setCell _ _ _ _ (by show k ≠ w.heap.size; omega)]
theorem dec_some {r : Option Cmt} {x1 x2 : Nat} {l : List Op3} {A : Option Addr} {c : Nat} {w W : World} (h : r = some ⟨x1, x2, l⟩) (hs : Sl W (fun k => w.heap.size + 1 ≤ k) 77 3 (.slice A l.length c) l.length (opc l)) (hlt : w.heap.size < W.heap.size) (hb : Below w.heap.size w W) : DecIs r w (.returned (.tuple #[.agg #[.int .i64 x1, .int .i64 x2, .slice A l.length c], .int .i64 0])) (((W.setCell ⟨w.heap.size, 0, none⟩ (.int .i64 x1)).setCell ⟨w.heap.size, 1, none⟩ (.int .i64 x2)).setCell ⟨w.heap.size, 2, none⟩ (.slice A l.length c)) := by
  subst h
  exact ⟨A, c, rfl, hs.mv (setmv hlt), setres hb⟩
set_option maxHeartbeats 8000000 in
set_option maxRecDepth 100000 in
theorem decode111 {w : World} {F : Fp} {A : Option Addr} {n c : Nat} {b : Bys} (h : RdF w F 1 A n (bts b)) (hc : n ≤ c) (hcm : c ≤ 9223372036854775807) (hfit : n ≤ 140737488000000) : Calls Tryz.prog 111 #[.slice A n c] w (DecIs (decC b) w) := by
  have hbl : b.length = n := by simpa using h.1
  have hb0 := al_below w (.cells #[.int .i64 0, .int .i64 0, .slice none 0 0] 88)
  have k0 := Blk.new w 88 #[.int .i64 0, .int .i64 0, .slice none 0 0]
  have h1 := h.mv (bmv hb0 F)
  obtain ⟨x1, m1, e1, hs1⟩ : ∃ x m e, Vi.small 1048576 b = (x, m, e) := ⟨_, _, _, rfl⟩
  have hc1 := small_at A n c _ b 1048576 x1 m1 e1 _ (h1.rd (by decide)) (by omega) (by omega) hs1
  obtain ⟨p0, p1, p2, f0, f1, f2⟩ := ccells k0
  have K0 := hid k0
  have HC1 := hid hc1
  have HB0 := hid hb0
  have HS1 := hid hs1
  have H1 := hid h1
  have HBL := hid hbl
  clear hc1 hb0 h1 h k0 hbl
  rcases small_err hs1 with rfl | ⟨rfl, rfl, rfl⟩
  · have hm1 : m1 ≤ n ∧ 0 < m1 := by
      have h2 := Vi.small_len (show (Vi.small 1048576 b).2.2 = 0 by rw [hs1])
      rw [hs1, HBL.out] at h2
      simp only at h2
      omega
    have m1i : (m1 : Int) ≤ (c : Int) := by omega
    have m1n : (m1 : Int) ≤ (n : Int) := by omega
    clear hs1
    have hr1 := rd_behind H1.out hm1.1 hc
    rw [Nat.mul_one] at hr1
    obtain ⟨x2, m2, e2, hs2⟩ : ∃ x m e, Vi.small 1048576 (b.drop m1) = (x, m, e) := ⟨_, _, _, rfl⟩
    have HS2 := hid hs2
    by_cases hca : c = m1
    · have hn1 : n = m1 := by omega
      have hno : decC b = none := by
        unfold decC
        rw [HS1.out]
        rw [if_neg (by simp)]
        simp only
        rw [List.drop_of_length_le (by rw [HBL.out, hn1]; exact Nat.le_refl _), small_nil, if_pos (by simp)]
      have HNO := hid hno
      rw [if_pos hca] at hr1
      have hs2' : Vi.small 1048576 (b.drop m1) = (0, 0, 5) := by rw [List.drop_of_length_le (by rw [HBL.out, hn1]; exact Nat.le_refl _), small_nil]
      have HC2 := hid (small_at A (n - m1) 0 _ (b.drop m1) 1048576 0 0 5 _ (hr1.rd (by decide)) (by omega) (by omega) hs2')
      rw [show n - m1 = 0 by omega] at HC2
      clear hs2 hs2' hno hn1 hr1
      subst hca
      go_enter Tryz.func111, Tryz.ntmps111
      go_wp2_with (first | (go_at_call 108; (with_reducible refine HC1.out.mono ?_); rintro e' w1 ⟨rfl, rfl⟩) | (go_at_call 108; (with_reducible refine HC2.out.mono ?_); rintro e' w1 ⟨rfl, rfl⟩))
      all_goals
        refine bodyPost_ret (by simp [results, Tryz.results111, go_sem, p0, p1, p2]; try rfl) rfl ?_
        exact dec_no HNO.out HB0.out
    · rw [if_neg hca] at hr1
      have HC2 := hid (fun c' => small_at (A.map (·.add m1)) (n - m1) c' _ (b.drop m1) 1048576 x2 m2 e2 _ (hr1.rd (by decide)) (by omega) (by omega) hs2)
      rcases small_err hs2 with rfl | ⟨rfl, rfl, rfl⟩
      · have hm2 : m2 ≤ n - m1 ∧ 0 < m2 := by
          have h2 := Vi.small_len (show (Vi.small 1048576 (b.drop m1)).2.2 = 0 by rw [hs2])
          rw [hs2, List.length_drop, HBL.out] at h2
          simp only at h2
          omega
        have m2i : (m1 : Int) + (m2 : Int) ≤ (c : Int) := by omega
        have m2n : (m1 : Int) + (m2 : Int) ≤ (n : Int) := by omega
        clear hs2 hr1
        have hr2 := rd_behind H1.out (show m1 + m2 ≤ n by omega) hc
        rw [Nat.mul_one] at hr2
        by_cases hcb : c = m1 + m2
        · have hn1 : n = m1 + m2 := by omega
          have hno : decC b = none := by
            unfold decC
            rw [HS1.out]
            rw [if_neg (by simp)]
            simp only
            rw [HS2.out, if_neg (by simp)]
            simp only
            rw [List.drop_of_length_le (by rw [HBL.out, hn1]; exact Nat.le_refl _), readB_nil]
          have HNO := hid hno
          rw [if_pos hcb] at hr2
          have hrn : readB (b.drop (m1 + m2)) = none := by rw [List.drop_of_length_le (by rw [HBL.out, hn1]; exact Nat.le_refl _), readB_nil]
          have HC3 := hid (bread160 (c := 0) hr2 (by omega) (by omega) (by omega))
          rw [hrn, show n - (m1 + m2) = 0 by omega] at HC3
          clear hrn hno hn1 hr2
          subst hcb
          go_enter Tryz.func111, Tryz.ntmps111
          go_wp2_with (first | (go_at_call 108; (with_reducible refine HC1.out.mono ?_); rintro e' w1 ⟨rfl, rfl⟩) | (go_at_call 108; (with_reducible refine (HC2.out _).mono ?_); rintro e' w1 ⟨rfl, rfl⟩) | (go_at_call 160; (with_reducible refine HC3.out.mono ?_); rintro e' w1 ⟨rfl, hb1⟩; have hk1 := K0.out.later hb1; obtain ⟨q0, q1, q2, g0, g1, g2⟩ := ccells (hk1.alloc (.cells #[.int .i64 x1, .int .i64 x2, .slice none 0 0] 88))))
          all_goals
            have hst := cstored (x' := .int .i64 0) (y' := .int .i64 0) (u' := .slice none 0 0) (hk1.alloc (.cells #[.int .i64 x1, .int .i64 x2, .slice none 0 0] 88))
            obtain ⟨s0, s1, s2, _⟩ := ccells hst
            refine bodyPost_ret (by simp [results, Tryz.results111, go_sem, s0, s1, s2]; try rfl) rfl ?_
            exact dec_no HNO.out (setres ((bl_trans HB0.out hb1 (by simp)).alloc (by have := HB0.out.size; have := hb1.size; omega) _))
        · rw [if_neg hcb] at hr2
          have m1b : (m1 : Int) + (m2 : Int) ≤ 9223372036854775807 := by omega
          rcases hrb : readB (b.drop (m1 + m2)) with _ | ⟨l, k⟩
          · have hno : decC b = none := by
              unfold decC
              rw [HS1.out]
              rw [if_neg (by simp)]
              simp only
              rw [HS2.out, if_neg (by simp)]
              simp only
              rw [hrb]
            have HNO := hid hno
            have HC3 := hid (bread160 (c := c - (m1 + m2)) hr2 (by omega) (by omega) (by omega))
            rw [hrb] at HC3
            clear hrb hno hr2
            go_enter Tryz.func111, Tryz.ntmps111
            go_wp2_with (first | (go_at_call 108; (with_reducible refine HC1.out.mono ?_); rintro e' w1 ⟨rfl, rfl⟩) | (go_at_call 108; (with_reducible refine (HC2.out _).mono ?_); rintro e' w1 ⟨rfl, rfl⟩) | (go_at_call 160; (with_reducible refine HC3.out.mono ?_); rintro e' w1 ⟨rfl, hb1⟩; have hk1 := K0.out.later hb1; obtain ⟨q0, q1, q2, g0, g1, g2⟩ := ccells (hk1.alloc (.cells #[.int .i64 x1, .int .i64 x2, .slice none 0 0] 88))))
            all_goals
              have hst := cstored (x' := .int .i64 0) (y' := .int .i64 0) (u' := .slice none 0 0) (hk1.alloc (.cells #[.int .i64 x1, .int .i64 x2, .slice none 0 0] 88))
              obtain ⟨s0, s1, s2, _⟩ := ccells hst
              refine bodyPost_ret (by simp [results, Tryz.results111, go_sem, s0, s1, s2]; try rfl) rfl ?_
              exact dec_no HNO.out (setres ((bl_trans HB0.out hb1 (by simp)).alloc (by have := HB0.out.size; have := hb1.size; omega) _))
          · have hle := readB_le hrb
            rw [List.length_drop, HBL.out] at hle
            have hkn : (m1 : Int) + (m2 : Int) + (k : Int) ≤ 9223372036854775807 := by omega
            have HC3 := hid (bread160 (c := c - (m1 + m2)) hr2 (by omega) (by omega) (by omega))
            rw [hrb] at HC3
            have HD : Hid (decC b = if m1 + m2 + k = n ∧ (Cmt.mk x1 x2 l).k = 0 then some ⟨x1, x2, l⟩ else none) := by
              refine hid ?_
              unfold decC
              rw [HS1.out]
              rw [if_neg (by simp)]
              simp only
              rw [HS2.out, if_neg (by simp)]
              simp only
              rw [hrb, HBL.out]
            clear hrb hr2
            by_cases hfull : m1 + m2 + k = n
            · have hfi : (m1 : Int) + (m2 : Int) + (k : Int) = (n : Int) := by omega
              by_cases hck : (Cmt.mk x1 x2 l).k = 0
              · have hck' := hck
                go_enter Tryz.func111, Tryz.ntmps111
                go_wp2_with (first | (go_at_call 108; (with_reducible refine HC1.out.mono ?_); rintro e' w1 ⟨rfl, rfl⟩) | (go_at_call 108; (with_reducible refine (HC2.out _).mono ?_); rintro e' w1 ⟨rfl, rfl⟩) | (go_at_call 160; (with_reducible refine HC3.out.mono ?_); rintro e' w1 ⟨v, rfl, hsl, hb1⟩; obtain ⟨A', c', rfl, _, _⟩ := hsl.slice_; have hk1 := K0.out.later hb1; have HSL := hid hsl; have HB1 := hid hb1; have HK1 := hid hk1; clear hsl hk1 hb1; obtain ⟨q0, q1, q2, g0, g1, g2⟩ := ccells (HK1.out.alloc (.cells #[.int .i64 x1, .int .i64 x2, .slice A' l.length c'] 88)); obtain ⟨z0, z1, z2, y0, y1, y2⟩ := ccells (Blk.new w1 88 #[.int .i64 x1, .int .i64 x2, .slice A' l.length c'])) | (go_at_call 161; (with_reducible refine (ccheck _ _ (HSL.out.alloc _) (by omega)).mono ?_); rintro e' w2 ⟨rfl, hb2⟩; obtain ⟨r0, r1, r2, j0, j1, j2⟩ := ccells ((HK1.out.alloc _).later hb2); obtain ⟨t0, t1, t2, u0, u1, u2⟩ := ccells ((Blk.new w1 88 #[.int .i64 x1, .int .i64 x2, .slice A' l.length c']).later hb2); have HB2 := hid hb2; have HK2 := hid ((HK1.out.alloc (.cells #[.int .i64 x1, .int .i64 x2, .slice A' l.length c'] 88)).later hb2); have HB3 := hid (bl_trans ((bl_trans HB0.out HB1.out (by simp)).alloc (by have := HB0.out.size; have := HB1.out.size; omega) (.cells #[.int .i64 x1, .int .i64 x2, .slice A' l.length c'] 88)) hb2 (by have := HB0.out.size; have := HB1.out.size; simp only [World.size_alloc] at *; omega)); clear hb2))
                all_goals
                  have hst := cstored (x' := .int .i64 x1) (y' := .int .i64 x2) (u' := .slice A' l.length c') HK2.out
                  obtain ⟨s0, s1, s2, _⟩ := ccells hst
                  refine bodyPost_ret (by simp [results, Tryz.results111, go_sem, s0, s1, s2]; try rfl) rfl ?_
                  exact dec_some (HD.out.trans (if_pos ⟨hfull, hck'⟩)) (((HSL.out.alloc _).later HB2.out).to fun k hk => by simpa using hk) (by have h1 := HB0.out.size; have h2 := HB1.out.size; have h3 := HB2.out.size; simp only [World.size_alloc] at *; omega) HB3.out
              · have hck' := hck
                go_enter Tryz.func111, Tryz.ntmps111
                go_wp2_with (first | (go_at_call 108; (with_reducible refine HC1.out.mono ?_); rintro e' w1 ⟨rfl, rfl⟩) | (go_at_call 108; (with_reducible refine (HC2.out _).mono ?_); rintro e' w1 ⟨rfl, rfl⟩) | (go_at_call 160; (with_reducible refine HC3.out.mono ?_); rintro e' w1 ⟨v, rfl, hsl, hb1⟩; obtain ⟨A', c', rfl, _, _⟩ := hsl.slice_; have hk1 := K0.out.later hb1; have HSL := hid hsl; have HB1 := hid hb1; have HK1 := hid hk1; clear hsl hk1 hb1; obtain ⟨q0, q1, q2, g0, g1, g2⟩ := ccells (HK1.out.alloc (.cells #[.int .i64 x1, .int .i64 x2, .slice A' l.length c'] 88)); obtain ⟨z0, z1, z2, y0, y1, y2⟩ := ccells (Blk.new w1 88 #[.int .i64 x1, .int .i64 x2, .slice A' l.length c'])) | (go_at_call 161; (with_reducible refine (ccheck _ _ (HSL.out.alloc _) (by omega)).mono ?_); rintro e' w2 ⟨rfl, hb2⟩; obtain ⟨r0, r1, r2, j0, j1, j2⟩ := ccells ((HK1.out.alloc _).later hb2); obtain ⟨t0, t1, t2, u0, u1, u2⟩ := ccells ((Blk.new w1 88 #[.int .i64 x1, .int .i64 x2, .slice A' l.length c']).later hb2); have HB2 := hid hb2; have HK2 := hid ((HK1.out.alloc (.cells #[.int .i64 x1, .int .i64 x2, .slice A' l.length c'] 88)).later hb2); have HB3 := hid (bl_trans ((bl_trans HB0.out HB1.out (by simp)).alloc (by have := HB0.out.size; have := HB1.out.size; omega) (.cells #[.int .i64 x1, .int .i64 x2, .slice A' l.length c'] 88)) hb2 (by have := HB0.out.size; have := HB1.out.size; simp only [World.size_alloc] at *; omega)); clear hb2))
                all_goals
                  have hst := cstored (x' := .int .i64 0) (y' := .int .i64 0) (u' := .slice none 0 0) HK2.out
                  obtain ⟨s0, s1, s2, _⟩ := ccells hst
                  refine bodyPost_ret (by simp [results, Tryz.results111, go_sem, s0, s1, s2]; try rfl) rfl ?_
                  exact dec_no (HD.out.trans (if_neg fun h => hck' h.2)) (setres HB3.out)
            · have hfi : ¬ (m1 : Int) + (m2 : Int) + (k : Int) = (n : Int) := by omega
              go_enter Tryz.func111, Tryz.ntmps111
              go_wp2_with (first | (go_at_call 108; (with_reducible refine HC1.out.mono ?_); rintro e' w1 ⟨rfl, rfl⟩) | (go_at_call 108; (with_reducible refine (HC2.out _).mono ?_); rintro e' w1 ⟨rfl, rfl⟩) | (go_at_call 160; (with_reducible refine HC3.out.mono ?_); rintro e' w1 ⟨v, rfl, hsl, hb1⟩; obtain ⟨A', c', rfl, _, _⟩ := hsl.slice_; have hk1 := K0.out.later hb1; have HSL := hid hsl; have HB1 := hid hb1; have HK1 := hid hk1; clear hsl hk1 hb1; obtain ⟨q0, q1, q2, g0, g1, g2⟩ := ccells (HK1.out.alloc (.cells #[.int .i64 x1, .int .i64 x2, .slice A' l.length c'] 88)); obtain ⟨z0, z1, z2, y0, y1, y2⟩ := ccells (Blk.new w1 88 #[.int .i64 x1, .int .i64 x2, .slice A' l.length c'])))
              all_goals
                have hst := cstored (x' := .int .i64 0) (y' := .int .i64 0) (u' := .slice none 0 0) (HK1.out.alloc (.cells #[.int .i64 x1, .int .i64 x2, .slice A' l.length c'] 88))
                obtain ⟨s0, s1, s2, _⟩ := ccells hst
                refine bodyPost_ret (by simp [results, Tryz.results111, go_sem, s0, s1, s2]; try rfl) rfl ?_
                exact dec_no (HD.out.trans (if_neg fun h => hfull h.1)) (setres ((bl_trans HB0.out HB1.out (by simp)).alloc (by have := HB0.out.size; have := HB1.out.size; omega) _))
      · have hno : decC b = none := by
          unfold decC
          rw [HS1.out]
          rw [if_neg (by simp)]
          simp only
          rw [HS2.out, if_pos (by simp)]
        have HNO := hid hno
        clear hno hs2 hr1
        go_enter Tryz.func111, Tryz.ntmps111
        go_wp2_with (first | (go_at_call 108; (with_reducible refine HC1.out.mono ?_); rintro e' w1 ⟨rfl, rfl⟩) | (go_at_call 108; (with_reducible refine (HC2.out _).mono ?_); rintro e' w1 ⟨rfl, rfl⟩))
        all_goals
          refine bodyPost_ret (by simp [results, Tryz.results111, go_sem, p0, p1, p2]; try rfl) rfl ?_
          exact dec_no HNO.out HB0.out
  · have hno : decC b = none := by
      unfold decC
      rw [HS1.out, if_pos (by simp)]
    have HNO := hid hno
    clear hno hs1
    go_enter Tryz.func111, Tryz.ntmps111
    go_wp2_with (first | (go_at_call 108; (with_reducible refine HC1.out.mono ?_); rintro e' w1 ⟨rfl, rfl⟩))
    all_goals
      refine bodyPost_ret (by simp [results, Tryz.results111, go_sem, p0, p1, p2]; try rfl) rfl ?_
      exact dec_no HNO.out HB0.out
end Go.Proofs.YtbpnbcjgkbpmgaaGreat
