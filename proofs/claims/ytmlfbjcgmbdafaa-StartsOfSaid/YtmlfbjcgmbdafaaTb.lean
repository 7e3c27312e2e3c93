/- Commits copied. -/
import Derived.Test.YtmlfbjcgmbdafaaTa
namespace Go.Proofs.Ytmlfbjcgmbdafaa
open Go.RowKit Go.Lg
set_option linter.unusedVariables false
set_option linter.unusedSimpArgs false

theorem T38 : SlT Try.prog 38 68 3 40 := SlT.mk' (.agg #[.bool false, .string ⟨#[]⟩, .string ⟨#[]⟩]) Try.underlying38 (by kernel_rfl) rfl (by decide) (by decide)
theorem opc_one (os : List Op3) : ∀ u ∈ opc os, u.oneCell' = true := by
  intro u hu
  simp only [opc, List.mem_flatMap] at hu
  obtain ⟨s, _, hu⟩ := hu
  simp at hu
  rcases hu with rfl | rfl | rfl <;> rfl
def NewO (os : List Op3) (n : Nat) (w : World) (e : Ending) (w' : World) : Prop := ∃ v, e = .returned v ∧ w'.ownsRow w.heap.size 68 3 v n (opc os) ∧ Below w.heap.size w w'
theorem newo_eq {os : List Op3} {n : Nat} {v : Value} {w w' : World} (ho : w'.ownsRow w.heap.size 68 3 v n (opc os)) (hb : Below w.heap.size w w') : NewO os n w (.returned v) w' := ⟨v, rfl, ho, hb⟩
set_option maxHeartbeats 1000000 in
set_option maxRecDepth 100000 in
theorem copyops49 (A : Option Addr) (n c : Nat) (os : List Op3) (w : World) (h : OS w w.heap.size A n os) (hn : n ≤ 3518437208790) :
    Calls Try.prog 49 #[.slice A n c] w (NewO os n w) := by
  go_enter Try.func49, Try.ntmps49
  go_wp2_with (at_builtin; refine stop_ (fun Ps hPs => ?_))
  refine hPs ?_
  clear hPs Ps
  refine wpList_app T38 (.tmp 3) (.tmp 4) rfl rfl (World.ownsRow_lit w #[] 0 (Nat.le_refl _) (Nat.zero_le _) rfl) rfl (h.1.alloc (Nat.le_refl _) _) rfl (opc_one os) (by omega) (by simp) fun v1 w1 hown hg hat => ?_
  have hb : Below w.heap.size w w1 := ((Below.refl _ _).alloc (Nat.le_refl _) _).grown hg (by simp) (by intro k hk; simp [Value.ownBlock] at hk; omega)
  have HO := hid hown
  clear hown hg hat
  go_wp2_with fail
  go_ret
  exact newo_eq (by simpa using HO.out) hb
/-- A copy of a commit. -/
def CopyIs (m : Cm) (w : World) (e : Ending) (w' : World) : Prop := ∃ A c, e = .returned (.agg #[.int .i64 m.ep, .int .i64 m.num, .slice A m.n c]) ∧ w'.ownsRow w.heap.size 68 3 (.slice A m.n c) m.n (opc m.os) ∧ Below w.heap.size w w'
theorem far3 {v : World} {p : Addr} {u : Value} {g : Nat} (h : v.cell? p = some u) (hg : p.block ≠ g) (y0 y1 y2 : Value) :
    (((v.setCell ⟨g, 0, none⟩ y0).setCell ⟨g, 1, none⟩ y1).setCell ⟨g, 2, none⟩ y2).cell? p = some u := by
  have hne : ∀ i, (⟨g, i, none⟩ : Addr) ≠ p := fun i e => hg (by rw [← e])
  rw [World.cell?_setCell_other _ _ _ _ (hne 2), World.cell?_setCell_other _ _ _ _ (hne 1), World.cell?_setCell_other _ _ _ _ (hne 0)]
  exact h
set_option maxHeartbeats 4000000 in
set_option maxRecDepth 100000 in
theorem copycommit54 (m : Cm) (w : World) (h : OS w w.heap.size m.A m.n m.os) (hn : m.n ≤ 3518437208790) : Calls Try.prog 54 #[m.v] w (CopyIs m w) := by
  obtain ⟨me, mn, Ao, no, co, os⟩ := m
  simp only at h hn
  have kb := (Blk.new w 40 #[.int .i64 me, .int .i64 mn, .slice Ao no co]).alloc (.cells #[.int .i64 0, .int .i64 0, .slice none 0 0] 40)
  have kr := Blk.new (w.alloc (.cells #[.int .i64 me, .int .i64 mn, .slice Ao no co] 40)) 40 #[.int .i64 0, .int .i64 0, .slice none 0 0]
  rw [World.size_alloc] at kr
  have hb := ((Below.refl w.heap.size w).alloc (Nat.le_refl _) (.cells #[.int .i64 me, .int .i64 mn, .slice Ao no co] 40)).alloc (by simp) (.cells #[.int .i64 0, .int .i64 0, .slice none 0 0] 40)
  obtain ⟨W, hW⟩ : ∃ W, W = (w.alloc (.cells #[.int .i64 me, .int .i64 mn, .slice Ao no co] 40)).alloc (.cells #[.int .i64 0, .int .i64 0, .slice none 0 0] 40) := ⟨_, rfl⟩
  rw [← hW] at kb kr hb
  have hs := hb.size
  have hos := (h.keep hb).more hs
  have K1 : Hid (W.drew.cell? ⟨w.heap.size, 0, none⟩ = some (Value.int .i64 me) ∧ W.drew.cell? ⟨w.heap.size, 1, none⟩ = some (Value.int .i64 mn) ∧ W.drew.cell? ⟨w.heap.size, 2, none⟩ = some (Value.slice Ao no co)) := hid ⟨(drew_cell _ _).trans (kb.cell 0), (drew_cell _ _).trans (kb.cell 1), (drew_cell _ _).trans (kb.cell 2)⟩
  have b0 : W.cell? ⟨w.heap.size, 0, none⟩ = some (.int .i64 me) := kb.cell 0
  have b1 : W.cell? ⟨w.heap.size, 1, none⟩ = some (.int .i64 mn) := kb.cell 1
  have b2 : W.cell? ⟨w.heap.size, 2, none⟩ = some (.slice Ao no co) := kb.cell 2
  have nbr : w.heap.size ≠ w.heap.size + 1 := by omega
  have HKB := hid kb
  have HKR := hid kr
  have HB := hid hb
  clear kb kr hb h
  go_enter Try.func54, Try.ntmps54
  go_wp2_with fail
  rw [← hW]
  clear hW
  go_region_held3 (fun w' => w'.cell? ⟨w.heap.size, 0, none⟩ = some (Value.int .i64 me) ∧ w'.cell? ⟨w.heap.size, 1, none⟩ = some (Value.int .i64 mn) ∧ w'.cell? ⟨w.heap.size, 2, none⟩ = some (Value.slice Ao no co)) (first | (with_reducible exact K1.out) | (with_reducible exact ⟨q0, q1, q2⟩) | (with_reducible exact K3.out))
    (first
      | (go_at_call 49; refine (copyops49 Ao no co os _ ⟨hos.1.drew, hos.2⟩ hn).mono ?_; rintro e5 w5 ⟨v5, rfl, ho5, hq0⟩; obtain ⟨A5, c5, rfl, g5, h5⟩ := owned_slice ho5; have hq1 := below_src hq0; have kb5 := HKB.out.later hq1; have kr5 := HKR.out.later hq1; have q0 : w5.cell? ⟨w.heap.size, 0, none⟩ = some (.int .i64 me) := kb5.cell 0; have q1 : w5.cell? ⟨w.heap.size, 1, none⟩ = some (.int .i64 mn) := kb5.cell 1; have q2 : w5.cell? ⟨w.heap.size, 2, none⟩ = some (.slice Ao no co) := kb5.cell 2; have r0 : w5.cell? ⟨w.heap.size + 1, 0, none⟩ = some (.int .i64 0) := kr5.cell 0; have r1 : w5.cell? ⟨w.heap.size + 1, 1, none⟩ = some (.int .i64 0) := kr5.cell 1; have r2 : w5.cell? ⟨w.heap.size + 1, 2, none⟩ = some (.slice none 0 0) := kr5.cell 2; have y0 := kr5.frozen 0; have y1 := kr5.frozen 1; have y2 := kr5.frozen 2; have K3 := hid (show (((w5.setCell ⟨w.heap.size + 1, 0, none⟩ (.int .i64 me)).setCell ⟨w.heap.size + 1, 1, none⟩ (.int .i64 mn)).setCell ⟨w.heap.size + 1, 2, none⟩ (.slice A5 no c5)).cell? ⟨w.heap.size, 0, none⟩ = some (Value.int .i64 me) ∧ (((w5.setCell ⟨w.heap.size + 1, 0, none⟩ (.int .i64 me)).setCell ⟨w.heap.size + 1, 1, none⟩ (.int .i64 mn)).setCell ⟨w.heap.size + 1, 2, none⟩ (.slice A5 no c5)).cell? ⟨w.heap.size, 1, none⟩ = some (Value.int .i64 mn) ∧ (((w5.setCell ⟨w.heap.size + 1, 0, none⟩ (.int .i64 me)).setCell ⟨w.heap.size + 1, 1, none⟩ (.int .i64 mn)).setCell ⟨w.heap.size + 1, 2, none⟩ (.slice A5 no c5)).cell? ⟨w.heap.size, 2, none⟩ = some (Value.slice Ao no co) from ⟨far3 q0 nbr _ _ _, far3 q1 nbr _ _ _, far3 q2 nbr _ _ _⟩)))
  have hg := gb_setCell (p := ⟨w.heap.size + 1, 2, none⟩) (.slice A5 no c5) (gb_setCell (p := ⟨w.heap.size + 1, 1, none⟩) (.int .i64 mn) (gb_setCell (p := ⟨w.heap.size + 1, 0, none⟩) (.int .i64 me) (World.grownBy.refl w5 (some (w.heap.size + 1)))))
  have ho6 := owned_less (owned_gb_far' ho5 hg HKR.out.lt) hs
  have hb6 := (((bl_trans HB.out hq1 hs).setCell (p := ⟨w.heap.size + 1, 0, none⟩) (Nat.le_succ _) (.int .i64 me)).setCell (p := ⟨w.heap.size + 1, 1, none⟩) (Nat.le_succ _) (.int .i64 mn)).setCell (p := ⟨w.heap.size + 1, 2, none⟩) (Nat.le_succ _) (.slice A5 no c5)
  rename_i hheld
  clear hheld K1 K3 hg kb5 kr5
  have HO6 := hid ho6
  have HB6 := hid hb6
  clear ho6 hb6 ho5 hq0 hq1
  go_wp2_with fail
  refine bodyPost_ret (by simp [results, Try.results54, go_sem, r0, r1, r2]; try rfl) rfl ?_
  exact ⟨A5, c5, rfl, HO6.out, HB6.out⟩

theorem bl_trans' {B : Nat} {a b c : World} (h : Below B a b) (k : Below b.heap.size b c) (hB : B ≤ b.heap.size) : Below B a c := h.trans (k.mono hB)
theorem copy_step {w wr w2 w3 : World} {B k : Nat} {v : Value} {cs : List Cm} {m : Cm} {A : Option Addr} {c : Nat} (ho : wr.ownsRow B 40 3 v k (cmc cs)) (hk : ∀ m ∈ cs, KC B wr m) (hb : Below B w wr) (hB : B ≤ wr.heap.size) (hm : m.os = [kop] ∧ m.n = 1)
    (ho2 : w2.ownsRow wr.heap.size 68 3 (.slice A m.n c) m.n (opc m.os)) (hb2 : Below wr.heap.size wr w2) (hg : w2.grownBy w3 v.ownBlock) :
    (∀ x ∈ cs ++ [⟨m.ep, m.num, A, 1, c, [kop]⟩], KC B w3 x) ∧ Below B w w3 := by
  have ho1 := owned_later ho hb2
  have hs2 := hb2.size
  refine ⟨?_, below_append (bl_trans' hb hb2 hB) ho1 hg (by omega)⟩
  have far : ∀ (A : Option Addr) (c : Nat), w2.ownsRow B 68 3 (.slice A 1 c) 1 (opc [kop]) → w3.ownsRow B 68 3 (.slice A 1 c) 1 (opc [kop]) := fun A c h =>
    owned_gb h hg fun g hg1 he => ne_by_type h ho1 (by decide) g hg1 he.symm
  intro x hx
  rw [List.mem_append, List.mem_singleton] at hx
  rcases hx with hx | rfl
  · obtain ⟨h1, h2, h3⟩ := hk x hx
    exact ⟨h1, h2, far _ _ (owned_later h3 hb2)⟩
  · obtain ⟨m1, m2⟩ := hm
    rw [m1, m2] at ho2
    exact ⟨rfl, rfl, far _ _ (owned_less ho2 hB)⟩

set_option maxHeartbeats 4000000 in
set_option maxRecDepth 100000 in
theorem copy46 (A : Option Addr) (n c : Nat) (cs : List Cm) (w : World) (h : CS w w.heap.size A n cs) (hm : ∀ m ∈ cs, m.os = [kop] ∧ m.n = 1) (hn : n ≤ 1000) :
    Calls Try.prog 46 #[.slice A n c] w (Logs (cs.map pairOf) w) := by
  have HL := hid h.2.1
  go_enter Try.func46, Try.ntmps46
  go_wp2_with fail
  go_loopg [3, 4] n (fun k v i wr => ∃ (j : Nat) (cs' : List Cm) (vv : Value), v = vv ∧ j ≤ n ∧ k = n - j ∧ i = .int .i64 j ∧ Hid (cs'.map pairOf = (cs.take j).map pairOf) ∧ wr.ownsRow w.heap.size 40 3 vv j (cmc cs') ∧ Hid (∀ m ∈ cs', KC w.heap.size wr m) ∧ Below w.heap.size w wr)
  case atStart => exact ⟨0, [], _, rfl, by omega, rfl, rfl, hid rfl, World.ownsRow_nil _ _ _ _, hid (fun m hm => by cases hm), Below.refl _ _⟩
  case round =>
    obtain ⟨j, cs', vv, rfl, hj, rfl, rfl, hps, ho, hk, hb⟩ := hrel
    have hsz := hb.size
    by_cases hlt : j < n
    · have hw := h.keep hb
      obtain ⟨b, off, me, mn, Ao, no, co, os, rfl, hbB, hcj, hos, hno, c0, c1, c2⟩ := hw.at_ hlt
      have hm9 := hm _ (List.mem_of_getElem? hcj)
      have hji : (j : Int) < (n : Int) := by omega
      have hcp := copycommit54 ⟨me, mn, Ao, no, co, os⟩ wr (hos.more hsz) (by rw [hm9.2]; omega)
      have HCJ := hid hcj
      have HO := hid ho
      have HB := hid hb
      have HM9 := hid hm9
      clear hcj hos hno hw ho hb hm9
      go_wp2_with (go_at_call 54; refine stop_ (fun Ps hPs => ?_))
      refine hPs ?_
      clear hPs Ps
      refine hcp.mono ?_
      clear hcp c0 c1 c2
      rintro e w2 ⟨A5, c5, rfl, ho5, hb5⟩
      have hn1 : no = 1 := HM9.out.2
      have HO2 := hid ((owned_later HO.out hb5))
      have hs5 : w.heap.size ≤ w2.heap.size := Nat.le_trans hsz hb5.size
      have HO5 := hid ho5
      have HB5 := hid hb5
      clear ho5 hb5
      subst hn1
      go_wp2_with (at_builtin; refine stop_ (fun Ps hPs => ?_))
      refine hPs ?_
      clear hPs Ps
      refine wpList_app1 T37 (.tmp 11) (.tmp 17) rfl rfl HO2.out rfl rfl rfl (by simp [Value.oneCell']) (by omega) hs5 fun v' w3 ho3 hg hat => ?_
      obtain ⟨hk3, hb3⟩ := copy_step (m := ⟨me, mn, Ao, 1, co, os⟩) HO.out hk.out HB.out hsz ⟨HM9.out.1, rfl⟩ HO5.out HB5.out hg
      have HO3 := hid ho3
      have HK3 := hid hk3
      have HB3 := hid hb3
      clear ho3 hk3 hb3 hg hat
      go_wp2_with fail
      go_roundg (n - (j + 1))
      case measure => omega
      case rel =>
        refine ⟨j + 1, _, v', rfl, by omega, rfl, by go_num, hid ?_, ?_, HK3, HB3.out⟩
        · rw [List.map_append, hps.out, take_succ_get? HCJ.out, List.map_append]
          rfl
        · rw [cmc_snoc]
          exact HO3.out
    · obtain rfl : j = n := by omega
      have htk : cs.take j = cs := List.take_of_length_le (by rw [HL.out]; omega)
      have HPS : Hid (cs'.map pairOf = cs.map pairOf) := by rw [hps.out, htk]; exact hid rfl
      have hcl : j = cs'.length := by
        have := congrArg List.length HPS.out
        simp only [List.length_map] at this
        rw [this, HL.out]
      have HO := hid ho
      have HCL := hid hcl
      clear ho htk hcl
      go_wp2_with fail
      go_ret
      exact logs_eq HPS.out HCL.out HO.out hk.out hb
end Go.Proofs.Ytmlfbjcgmbdafaa
