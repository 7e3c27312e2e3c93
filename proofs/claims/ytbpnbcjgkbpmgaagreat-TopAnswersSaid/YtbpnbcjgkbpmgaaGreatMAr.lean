/- A primary answers without waiting for the other site, as many times as its leash allows: of any acts. No condition. (part 18) -/
import Derived.Test.YtbpnbcjgkbpmgaaGreatMAg
import Derived.Test.YtbpnbcjgkbpmgaaGreatMAq
namespace Go.Proofs.YtbpnbcjgkbpmgaaGreat.Pp
open Go.RowKit Go.Lg
set_option linter.unusedVariables false
set_option linter.unusedSimpArgs false
def nums (p : Pg) : List Nat := [p.ep.toNat, p.ro.toNat, p.ac.toNat, p.ph.toNat, p.fo.toNat, p.ba.toNat]
def encN (l : List Nat) : List UInt8 := l.flatMap Vi.enc
def encP (p : Pg) : List UInt8 := encN (nums p)
theorem encN_snoc (l : List Nat) (x : Nat) : encN (l ++ [x]) = encN l ++ Vi.enc x := by simp [encN]
theorem enc_le (x : Nat) : (Vi.enc x).length ≤ 10 := Vi.encF_len_le 9 x
theorem encN_le (l : List Nat) : (encN l).length ≤ l.length * 10 := by
  induction l with
  | nil => simp [encN]
  | cons x l ih =>
    have := enc_le x
    simp only [encN, List.flatMap_cons, List.length_append, List.length_cons] at ih ⊢
    omega
set_option maxHeartbeats 800000 in
set_option maxRecDepth 100000 in
theorem fields28 (a1 a2 a3 a4 a5 a6 : Nat) (h2 : a2 < 256) (h4 : a4 < 256) (w : World) : Calls Tryz.prog 166 #[(Pg.mk a1 a2 a3 a4 a5 a6).v] w fun e w' =>
    e = .returned (.agg #[.int .i64 a1, .int .i64 a2, .int .i64 a3, .int .i64 a4, .int .i64 a5, .int .i64 a6]) ∧ Below w.heap.size w w' := by
  have i2 : (a2 : Int) < 256 := by omega
  have i4 : (a4 : Int) < 256 := by omega
  have w2 : wrap64 (a2 : Int) = a2 := by simp only [wrap64]; omega
  have w4 : wrap64 (a4 : Int) = a4 := by simp only [wrap64]; omega
  go_enter Tryz.func166, Tryz.ntmps166
  go_wp2_with fail
  refine bodyPost_ret (by simp [results, Tryz.results166, go_sem]; try rfl) rfl ?_
  exact ⟨rfl, by repeat (first | (with_reducible exact Below.refl _ _) | (with_reducible refine Below.alloc ?_ (by simp) _) | (with_reducible refine Below.setCell ?_ (by simp) _))⟩
def Coded (l : List UInt8) (w : World) (e : Ending) (w' : World) : Prop := ∃ v, e = .returned (.tuple #[v, .int .i64 0]) ∧ w'.ownsRow w.heap.size 5 1 v l.length (bts l) ∧ Below w.heap.size w w'
def NotCoded (w : World) (e : Ending) (w' : World) : Prop := e = .returned (.tuple #[.slice none 0 0, .int .i64 2]) ∧ Below w.heap.size w w'
theorem take_grow {L : List Nat} {j x : Nat} (h : L[j]? = some x) : encN (L.take (j + 1)) = encN (L.take j) ++ Vi.enc x := by
  rw [take_succ_get? h, encN_snoc]
theorem take_small {L : List Nat} (h : L.length = 6) (j : Nat) : (encN (L.take j)).length ≤ 60 := by
  have := encN_le (L.take j)
  rw [List.length_take] at this
  omega
theorem nat_page {a1 a2 a3 a4 a5 a6 : Int} (h : Ok ⟨a1, a2, a3, a4, a5, a6⟩) : ∃ x1 x2 x3 x4 x5 x6 : Nat, a1 = x1 ∧ a2 = x2 ∧ a3 = x3 ∧ a4 = x4 ∧ a5 = x5 ∧ a6 = x6 ∧ x1 ≤ 1048576 ∧ x2 ≤ 3 ∧ x3 ≤ 1048576 ∧ x4 ≤ 4 ∧ x5 ≤ 1048576 ∧ x6 ≤ 1073741824 := by
  simp only [Ok, Dep] at h
  exact ⟨a1.toNat, a2.toNat, a3.toNat, a4.toNat, a5.toNat, a6.toNat, by omega, by omega, by omega, by omega, by omega, by omega, by omega, by omega, by omega, by omega, by omega, by omega⟩
theorem ix0 (x1 x2 x3 x4 x5 x6 : Int) (w : World) : Sem.run Tryz.prog (Instr.index 181 (.agg #[.int .i64 x1, .int .i64 x2, .int .i64 x3, .int .i64 x4, .int .i64 x5, .int .i64 x6]) (.int .i64 0)) w = .ok (.int .i64 x1) w := by kernel_rfl
theorem ix1 (x1 x2 x3 x4 x5 x6 : Int) (w : World) : Sem.run Tryz.prog (Instr.index 181 (.agg #[.int .i64 x1, .int .i64 x2, .int .i64 x3, .int .i64 x4, .int .i64 x5, .int .i64 x6]) (.int .i64 1)) w = .ok (.int .i64 x2) w := by kernel_rfl
theorem ix2 (x1 x2 x3 x4 x5 x6 : Int) (w : World) : Sem.run Tryz.prog (Instr.index 181 (.agg #[.int .i64 x1, .int .i64 x2, .int .i64 x3, .int .i64 x4, .int .i64 x5, .int .i64 x6]) (.int .i64 2)) w = .ok (.int .i64 x3) w := by kernel_rfl
theorem ix3 (x1 x2 x3 x4 x5 x6 : Int) (w : World) : Sem.run Tryz.prog (Instr.index 181 (.agg #[.int .i64 x1, .int .i64 x2, .int .i64 x3, .int .i64 x4, .int .i64 x5, .int .i64 x6]) (.int .i64 3)) w = .ok (.int .i64 x4) w := by kernel_rfl
theorem ix4 (x1 x2 x3 x4 x5 x6 : Int) (w : World) : Sem.run Tryz.prog (Instr.index 181 (.agg #[.int .i64 x1, .int .i64 x2, .int .i64 x3, .int .i64 x4, .int .i64 x5, .int .i64 x6]) (.int .i64 4)) w = .ok (.int .i64 x5) w := by kernel_rfl
theorem ix5 (x1 x2 x3 x4 x5 x6 : Int) (w : World) : Sem.run Tryz.prog (Instr.index 181 (.agg #[.int .i64 x1, .int .i64 x2, .int .i64 x3, .int .i64 x4, .int .i64 x5, .int .i64 x6]) (.int .i64 5)) w = .ok (.int .i64 x6) w := by kernel_rfl
set_option maxHeartbeats 4000000 in
set_option maxRecDepth 100000 in
theorem encode14_ok {p : Pg} (hok : Ok p) (w : World) : Calls Tryz.prog 125 #[p.v] w (Coded (encP p) w) := by
  obtain ⟨a1, a2, a3, a4, a5, a6⟩ := p
  have hc := check18_ok hok
  obtain ⟨x1, x2, x3, x4, x5, x6, rfl, rfl, rfl, rfl, rfl, rfl, b1, b2, b3, b4, b5, b6⟩ := nat_page hok
  clear hok
  have hen : encP ⟨x1, x2, x3, x4, x5, x6⟩ = encN [x1, x2, x3, x4, x5, x6] := by simp [encP, nums]
  rw [hen]
  clear hen
  obtain ⟨L, hL⟩ : ∃ L : List Nat, [x1, x2, x3, x4, x5, x6] = L := ⟨_, rfl⟩
  rw [hL]
  have h6 : L.length = 6 := by rw [← hL]; rfl
  have g0 : L[0]? = some x1 := by rw [← hL]; rfl
  have g1 : L[1]? = some x2 := by rw [← hL]; rfl
  have g2 : L[2]? = some x3 := by rw [← hL]; rfl
  have g3 : L[3]? = some x4 := by rw [← hL]; rfl
  have g4 : L[4]? = some x5 := by rw [← hL]; rfl
  have g5 : L[5]? = some x6 := by rw [← hL]; rfl
  have G0 := hid g0
  have G1 := hid g1
  have G2 := hid g2
  have G3 := hid g3
  have G4 := hid g4
  have G5 := hid g5
  have HSM := hid (take_small h6)
  have HT : Hid (L.take 6 = L) := hid (by rw [← h6, List.take_length])
  clear hL h6 g0 g1 g2 g3 g4 g5
  obtain ⟨B, hB⟩ : ∃ B, B = w.heap.size := ⟨_, rfl⟩
  have hf := fields28 x1 x2 x3 x4 x5 x6 (by omega) (by omega)
  go_enter Tryz.func125, Tryz.ntmps125
  go_wp2_with (first | (go_at_call 109; refine (hc _).mono ?_; clear hc; rintro e w1 ⟨rfl, hb⟩; obtain ⟨hb, hA⟩ := one_block hb; obtain ⟨⟨c0, c1, c2, c3, c4, c5⟩, f0, f1, f2, f3, f4, f5⟩ := page_cells hA) | (go_at_call 166; refine (hf _).mono ?_; clear hf; rintro e w2 ⟨rfl, hb2⟩; have hb := bl_trans hb hb2 hb.size))
  have hw2 := World.ownsRow_nil w2 w.heap.size 5 1
  clear hA c0 c1 c2 c3 c4 c5 f0 f1 f2 f3 f4 f5 hb2
  rw [← hB] at hb hw2
  have hB' := hid hB
  clear hB
  go_loopg [5, 15] 6 (fun k v i wr => ∃ j : Nat, j ≤ 6 ∧ k = 6 - j ∧ i = .int .i64 j ∧ wr.ownsRow B 5 1 v (encN (L.take j)).length (bts (encN (L.take j))) ∧ Below B w wr)
  case atStart => exact ⟨0, by omega, rfl, rfl, hw2, hb⟩
  case round =>
    clear hw2 hb
    obtain ⟨j, hj, rfl, rfl, ho, hb⟩ := hrel
    by_cases hlt : j < 6
    · have hs9 := hb.size
      rw [← hB'.out] at hs9
      obtain rfl | rfl | rfl | rfl | rfl | rfl : j = 0 ∨ j = 1 ∨ j = 2 ∨ j = 3 ∨ j = 4 ∨ j = 5 := by omega
      · obtain ⟨acc, hac⟩ : ∃ acc, encN (L.take 0) = acc := ⟨_, rfl⟩
        obtain ⟨acc', hac'⟩ : ∃ acc, encN (L.take (0 + 1)) = acc := ⟨_, rfl⟩
        have HG := hid (take_grow G0.out)
        rw [hac, hac'] at HG
        have HSA := hid (HSM.out 0)
        rw [hac] at HSA
        rw [hac] at ho
        have HAC := hid hac'
        clear hac hac'
        obtain ⟨A, c, rfl, hc1, hc2⟩ := owned_slice ho
        obtain ⟨m, hm⟩ : ∃ m, acc.length = m := ⟨_, rfl⟩
        have hm60 : m ≤ 60 := by rw [← hm]; exact HSA.out
        rw [hm] at ho ⊢
        have hu : IntKind.u64.wrap (x1 : Int) = x1 := by rw [IntWalk.u64_in _ (by omega)]
        clear hm
        have hx := ix0 x1 x2 x3 x4 x5 x6 wr
        go_wp2_with fail
        refine (append_as A m c acc acc' x1 _ HG.out (Rd.of_own ho) (by omega) (by omega)).mono ?_
        rintro e w3 ⟨v', rfl, ho', hb'⟩
        have hbn := bl_trans hb hb' hs9
        have hon := owned_less ho' hs9
        go_wp2_with fail
        go_roundg 5
        case measure => omega
        case rel => exact ⟨1, by omega, rfl, by go_num, by rw [HAC.out]; exact hon, hbn⟩
      · obtain ⟨acc, hac⟩ : ∃ acc, encN (L.take 1) = acc := ⟨_, rfl⟩
        obtain ⟨acc', hac'⟩ : ∃ acc, encN (L.take (1 + 1)) = acc := ⟨_, rfl⟩
        have HG := hid (take_grow G1.out)
        rw [hac, hac'] at HG
        have HSA := hid (HSM.out 1)
        rw [hac] at HSA
        rw [hac] at ho
        have HAC := hid hac'
        clear hac hac'
        obtain ⟨A, c, rfl, hc1, hc2⟩ := owned_slice ho
        obtain ⟨m, hm⟩ : ∃ m, acc.length = m := ⟨_, rfl⟩
        have hm60 : m ≤ 60 := by rw [← hm]; exact HSA.out
        rw [hm] at ho ⊢
        have hu : IntKind.u64.wrap (x2 : Int) = x2 := by rw [IntWalk.u64_in _ (by omega)]
        clear hm
        have hx := ix1 x1 x2 x3 x4 x5 x6 wr
        go_wp2_with fail
        refine (append_as A m c acc acc' x2 _ HG.out (Rd.of_own ho) (by omega) (by omega)).mono ?_
        rintro e w3 ⟨v', rfl, ho', hb'⟩
        have hbn := bl_trans hb hb' hs9
        have hon := owned_less ho' hs9
        go_wp2_with fail
        go_roundg 4
        case measure => omega
        case rel => exact ⟨2, by omega, rfl, by go_num, by rw [HAC.out]; exact hon, hbn⟩
      · obtain ⟨acc, hac⟩ : ∃ acc, encN (L.take 2) = acc := ⟨_, rfl⟩
        obtain ⟨acc', hac'⟩ : ∃ acc, encN (L.take (2 + 1)) = acc := ⟨_, rfl⟩
        have HG := hid (take_grow G2.out)
        rw [hac, hac'] at HG
        have HSA := hid (HSM.out 2)
        rw [hac] at HSA
        rw [hac] at ho
        have HAC := hid hac'
        clear hac hac'
        obtain ⟨A, c, rfl, hc1, hc2⟩ := owned_slice ho
        obtain ⟨m, hm⟩ : ∃ m, acc.length = m := ⟨_, rfl⟩
        have hm60 : m ≤ 60 := by rw [← hm]; exact HSA.out
        rw [hm] at ho ⊢
        have hu : IntKind.u64.wrap (x3 : Int) = x3 := by rw [IntWalk.u64_in _ (by omega)]
        clear hm
        have hx := ix2 x1 x2 x3 x4 x5 x6 wr
        go_wp2_with fail
        refine (append_as A m c acc acc' x3 _ HG.out (Rd.of_own ho) (by omega) (by omega)).mono ?_
        rintro e w3 ⟨v', rfl, ho', hb'⟩
        have hbn := bl_trans hb hb' hs9
        have hon := owned_less ho' hs9
        go_wp2_with fail
        go_roundg 3
        case measure => omega
        case rel => exact ⟨3, by omega, rfl, by go_num, by rw [HAC.out]; exact hon, hbn⟩
      · obtain ⟨acc, hac⟩ : ∃ acc, encN (L.take 3) = acc := ⟨_, rfl⟩
        obtain ⟨acc', hac'⟩ : ∃ acc, encN (L.take (3 + 1)) = acc := ⟨_, rfl⟩
        have HG := hid (take_grow G3.out)
        rw [hac, hac'] at HG
        have HSA := hid (HSM.out 3)
        rw [hac] at HSA
        rw [hac] at ho
        have HAC := hid hac'
        clear hac hac'
        obtain ⟨A, c, rfl, hc1, hc2⟩ := owned_slice ho
        obtain ⟨m, hm⟩ : ∃ m, acc.length = m := ⟨_, rfl⟩
        have hm60 : m ≤ 60 := by rw [← hm]; exact HSA.out
        rw [hm] at ho ⊢
        have hu : IntKind.u64.wrap (x4 : Int) = x4 := by rw [IntWalk.u64_in _ (by omega)]
        clear hm
        have hx := ix3 x1 x2 x3 x4 x5 x6 wr
        go_wp2_with fail
        refine (append_as A m c acc acc' x4 _ HG.out (Rd.of_own ho) (by omega) (by omega)).mono ?_
        rintro e w3 ⟨v', rfl, ho', hb'⟩
        have hbn := bl_trans hb hb' hs9
        have hon := owned_less ho' hs9
        go_wp2_with fail
        go_roundg 2
        case measure => omega
        case rel => exact ⟨4, by omega, rfl, by go_num, by rw [HAC.out]; exact hon, hbn⟩
      · obtain ⟨acc, hac⟩ : ∃ acc, encN (L.take 4) = acc := ⟨_, rfl⟩
        obtain ⟨acc', hac'⟩ : ∃ acc, encN (L.take (4 + 1)) = acc := ⟨_, rfl⟩
        have HG := hid (take_grow G4.out)
        rw [hac, hac'] at HG
        have HSA := hid (HSM.out 4)
        rw [hac] at HSA
        rw [hac] at ho
        have HAC := hid hac'
        clear hac hac'
        obtain ⟨A, c, rfl, hc1, hc2⟩ := owned_slice ho
        obtain ⟨m, hm⟩ : ∃ m, acc.length = m := ⟨_, rfl⟩
        have hm60 : m ≤ 60 := by rw [← hm]; exact HSA.out
        rw [hm] at ho ⊢
        have hu : IntKind.u64.wrap (x5 : Int) = x5 := by rw [IntWalk.u64_in _ (by omega)]
        clear hm
        have hx := ix4 x1 x2 x3 x4 x5 x6 wr
        go_wp2_with fail
        refine (append_as A m c acc acc' x5 _ HG.out (Rd.of_own ho) (by omega) (by omega)).mono ?_
        rintro e w3 ⟨v', rfl, ho', hb'⟩
        have hbn := bl_trans hb hb' hs9
        have hon := owned_less ho' hs9
        go_wp2_with fail
        go_roundg 1
        case measure => omega
        case rel => exact ⟨5, by omega, rfl, by go_num, by rw [HAC.out]; exact hon, hbn⟩
      · obtain ⟨acc, hac⟩ : ∃ acc, encN (L.take 5) = acc := ⟨_, rfl⟩
        obtain ⟨acc', hac'⟩ : ∃ acc, encN (L.take (5 + 1)) = acc := ⟨_, rfl⟩
        have HG := hid (take_grow G5.out)
        rw [hac, hac'] at HG
        have HSA := hid (HSM.out 5)
        rw [hac] at HSA
        rw [hac] at ho
        have HAC := hid hac'
        clear hac hac'
        obtain ⟨A, c, rfl, hc1, hc2⟩ := owned_slice ho
        obtain ⟨m, hm⟩ : ∃ m, acc.length = m := ⟨_, rfl⟩
        have hm60 : m ≤ 60 := by rw [← hm]; exact HSA.out
        rw [hm] at ho ⊢
        have hu : IntKind.u64.wrap (x6 : Int) = x6 := by rw [IntWalk.u64_in _ (by omega)]
        clear hm
        have hx := ix5 x1 x2 x3 x4 x5 x6 wr
        go_wp2_with fail
        refine (append_as A m c acc acc' x6 _ HG.out (Rd.of_own ho) (by omega) (by omega)).mono ?_
        rintro e w3 ⟨v', rfl, ho', hb'⟩
        have hbn := bl_trans hb hb' hs9
        have hon := owned_less ho' hs9
        go_wp2_with fail
        go_roundg 0
        case measure => omega
        case rel => exact ⟨6, by omega, rfl, by go_num, by rw [HAC.out]; exact hon, hbn⟩
    · obtain rfl : j = 6 := by omega
      rw [HT.out] at ho
      go_wp2_with fail
      go_ret2
      rw [hB'.out] at ho hb
      exact ⟨_, rfl, ho, hb⟩
end Go.Proofs.YtbpnbcjgkbpmgaaGreat.Pp
