/- Commits kept. -/
import Derived.Test.YtmlfbjcgmbdafaaUi
namespace Go.Proofs.Ytmlfbjcgmbdafaa
open Go.RowKit Go.Lg
set_option linter.unusedVariables false
set_option linter.unusedSimpArgs false

/-- A lent commit, read. -/
def LR (B : Nat) (w : World) (m m' : Cm) : Prop := m'.ep = m.ep ∧ m'.num = m.num ∧ m'.n = m.n ∧ m'.os = m.os ∧ OS w B m'.A (m.n + 3) (lentO m.os) ∧ m.n + 3 ≤ m'.c
theorem OS.drew_ {w : World} {B n : Nat} {A : Option Addr} {os : List Op3} (h : OS w B A n os) : OS w.drew B A n os := ⟨h.1.drew, h.2⟩
def LRs (B : Nat) (w : World) (cs cs' : List Cm) : Prop := ∀ (i : Nat) (m m' : Cm), cs[i]? = some m → cs'[i]? = some m' → LR B w m m'
set_option maxHeartbeats 4000000 in
set_option maxRecDepth 100000 in
theorem kept28 (A A' : Option Addr) (n c c' : Nat) (cs cs' : List Cm) (w : World) (hF : CS w w.heap.size A (n + 3) (cs' ++ spareC)) (hl : cs'.length = n) (h' : CS w w.heap.size A' n cs) (hr : LRs w.heap.size w cs cs') (hm : ∀ m ∈ cs, m.n ≤ 3518437208780) (hn : n ≤ 900) :
    Calls Try.prog 28 #[.slice A (n + 3) c, .slice A' n c'] w (Yes w) := by
  have HL := hid hl
  have d1 : wrap64 ((n : Int) + 3) = ((n + 3 : Nat) : Int) := by simp only [wrap64]; omega
  have HM := hid hm
  have HR := hid hr
  clear hl hm hr
  go_enter Try.func28, Try.ntmps28
  go_wp2_with fail
  clear d1
  go_loopg [5] n (fun k i wr => ∃ (j : Nat), j ≤ n ∧ k = n - j ∧ i = .int .i64 j ∧ Below w.heap.size w wr)
  case atStart => exact ⟨0, by omega, rfl, rfl, Below.refl _ _⟩
  case round =>
    obtain ⟨j, hj, rfl, rfl, hb⟩ := hrel
    have hsz := hb.size
    by_cases hlt : j < n
    · have hw := hF.keep hb
      have hw' := h'.keep hb
      obtain ⟨b, off, me, mn, Ao, no, co, os, rfl, hbB, hcj, _, _, c0, c1, c2⟩ := hw.at_ (j := j) (by omega)
      obtain ⟨b2, off2, me2, mn2, Ao2, no2, co2, os2, rfl, hbB2, hcj2, hos2, _, e0, e1, e2⟩ := hw'.at_ hlt
      rw [List.getElem?_append_left (by rw [HL.out]; exact hlt)] at hcj
      have hm9 : no2 ≤ 3518437208780 := HM.out _ (List.mem_of_getElem? hcj2)
      obtain ⟨r1, r2, r3, r4, r5, r6⟩ := HR.out j _ _ hcj2 hcj
      simp only at r1 r2 r3 r4 r5 r6
      subst r1 r2 r3 r4
      have hji : (j : Int) < (n : Int) := by omega
      have hji2 : (j : Int) < ((n + 3 : Nat) : Int) := by omega
      have hji3 : (j : Int) < (n : Int) + 3 := by omega
      have HK := hid (keptcommit29 me mn Ao Ao2 no co co2 os wr.drew (OS.drew_ ((r5.keep hb).more hsz)) (OS.drew_ (hos2.more hsz)) r6 hm9)
      have hbw : b < wr.heap.size := by omega
      have hbw2 : b2 < wr.heap.size := by omega
      have K1 : Hid (wr.drew.cell? ⟨b, off + j * 3, none⟩ = some (.int .i64 me) ∧ wr.drew.cell? ⟨b, off + j * 3 + 1, none⟩ = some (.int .i64 mn) ∧ wr.drew.cell? ⟨b, off + j * 3 + 2, none⟩ = some (.slice Ao no co) ∧ wr.drew.cell? ⟨b2, off2 + j * 3, none⟩ = some (.int .i64 me) ∧ wr.drew.cell? ⟨b2, off2 + j * 3 + 1, none⟩ = some (.int .i64 mn) ∧ wr.drew.cell? ⟨b2, off2 + j * 3 + 2, none⟩ = some (.slice Ao2 no co2)) :=
        hid ⟨(drew_cell _ _).trans c0, (drew_cell _ _).trans c1, (drew_cell _ _).trans c2, (drew_cell _ _).trans e0, (drew_cell _ _).trans e1, (drew_cell _ _).trans e2⟩
      have HB := hid hb
      clear hcj hcj2 hos2 hw hw' hb hm9 r5 r6
      go_wp2_with fail
      go_region_held3 (fun w' => w'.cell? ⟨b, off + j * 3, none⟩ = some (.int .i64 me) ∧ w'.cell? ⟨b, off + j * 3 + 1, none⟩ = some (.int .i64 mn) ∧ w'.cell? ⟨b, off + j * 3 + 2, none⟩ = some (.slice Ao no co) ∧ w'.cell? ⟨b2, off2 + j * 3, none⟩ = some (.int .i64 me) ∧ w'.cell? ⟨b2, off2 + j * 3 + 1, none⟩ = some (.int .i64 mn) ∧ w'.cell? ⟨b2, off2 + j * 3 + 2, none⟩ = some (.slice Ao2 no co2)) (first | (with_reducible exact K1.out) | (with_reducible exact ⟨q0, q1, q2, q3, q4, q5⟩))
        (first
          | (go_at_call 29; refine HK.out.mono ?_; rintro e5 w5 ⟨rfl, hq0⟩; have hq1 := below_src hq0; have q0 := (hq1.cell (p := ⟨b, off + j * 3, none⟩) hbw).trans c0; have q1 := (hq1.cell (p := ⟨b, off + j * 3 + 1, none⟩) hbw).trans c1; have q2 := (hq1.cell (p := ⟨b, off + j * 3 + 2, none⟩) hbw).trans c2; have q3 := (hq1.cell (p := ⟨b2, off2 + j * 3, none⟩) hbw2).trans e0; have q4 := (hq1.cell (p := ⟨b2, off2 + j * 3 + 1, none⟩) hbw2).trans e1; have q5 := (hq1.cell (p := ⟨b2, off2 + j * 3 + 2, none⟩) hbw2).trans e2))
      have hb6 := bl_trans HB.out hq1 hsz
      clear hq0 hq1 q0 q1 q2 q3 q4 q5 K1
      go_wp2_with fail
      go_roundg (n - (j + 1))
      case measure => omega
      case rel => exact ⟨j + 1, by omega, rfl, by go_num, hb6⟩
    · obtain rfl : j = n := by omega
      go_wp2_with fail
      go_loopg [6] 3 (fun k i wq => ∃ (j2 : Nat), j2 ≤ 3 ∧ k = 3 - j2 ∧ i = .int .i64 ((j + j2 : Nat) : Int) ∧ Below w.heap.size w wq)
      case atStart => exact ⟨0, by omega, rfl, rfl, hb⟩
      case round =>
        clear hb hsz
        obtain ⟨j2, hj2, rfl, rfl, hb⟩ := hrel
        have hsz := hb.size
        by_cases hlt2 : j2 < 3
        · have hw := hF.keep hb
          obtain ⟨b, off, me, mn, Ao, no, co, os, rfl, hbB, hcj, _, _, c0, c1, c2⟩ := hw.at_ (j := j + j2) (by omega)
          rw [List.getElem?_append_right (by rw [HL.out]; omega), HL.out, Nat.add_sub_cancel_left] at hcj
          have hsp : spareC[j2]? = some ⟨-7, 0, none, 0, 0, []⟩ := by
            obtain rfl | rfl | rfl : j2 = 0 ∨ j2 = 1 ∨ j2 = 2 := by omega
            all_goals rfl
          rw [hsp] at hcj
          simp only [Option.some.injEq, Cm.mk.injEq] at hcj
          obtain ⟨rfl, rfl, rfl, rfl, rfl, rfl⟩ := hcj
          have hji2 : ((j + j2 : Nat) : Int) < ((j + 3 : Nat) : Int) := by omega
          have hji3 : (j2 : Int) < 3 := by omega
          have hji4 : (j : Int) + (j2 : Int) < (j : Int) + 3 := by omega
          have hsc := samecommit44 (-7) 0 none none 0 0 0 0 0 [] wr ⟨Rd.nil_, rfl⟩ ⟨Rd.nil_, rfl⟩ (Nat.zero_le _) (Nat.zero_le _) (by omega)
          have HB := hid hb
          clear hb hw
          go_wp2_with (go_at_call 44; refine stop_ (fun Ps hPs => ?_))
          refine hPs ?_
          clear hPs Ps
          refine hsc.mono ?_
          rintro e5 w5 ⟨rfl, hb5⟩
          have hb6 := bl_trans HB.out hb5 hsz
          go_wp2_with fail
          go_roundg (3 - (j2 + 1))
          case measure => omega
          case rel => exact ⟨j2 + 1, by omega, rfl, by go_num, hb6⟩
        · obtain rfl : j2 = 3 := by omega
          go_wp2_with fail
          go_ret
          exact ⟨rfl, hb⟩
end Go.Proofs.Ytmlfbjcgmbdafaa
