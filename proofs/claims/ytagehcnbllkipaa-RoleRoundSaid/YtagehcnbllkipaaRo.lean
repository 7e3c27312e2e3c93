/- A deposed primary goes through its phases: the walk. -/
import Derived.Test.YtagehcnbllkipaaWs
namespace Go.Proofs.Ytagehcnbllkipaa
open Go.RowKit Go.Lg
set_option linter.unusedVariables false
set_option linter.unusedSimpArgs false

theorem pick_in (x n : Int) (h : 0 < n) : 0 ≤ pick x n ∧ pick x n < n := by
  have ha := Int.tmod_lt_of_pos x h
  have hb := Int.tmod_lt_of_pos (-x) h
  rw [Int.neg_tmod] at hb
  unfold pick
  split <;> omega
set_option maxHeartbeats 40000000 in
set_option maxRecDepth 100000 in
theorem round4 (ep mo fk ba en : Int) (w : World) (h1 : -9223372036854775808 ≤ ep ∧ ep ≤ 9223372036854775807) (h2 : -9223372036854775808 ≤ mo ∧ mo ≤ 9223372036854775807) (h3 : -9223372036854775808 ≤ fk ∧ fk ≤ 9223372036854775807)
    (h4 : -9223372036854775808 ≤ ba ∧ ba ≤ 9223372036854775807) (h5 : -9223372036854775808 ≤ en ∧ en ≤ 9223372036854775807) : Calls Try.prog 4 #[.int .i64 ep, .int .i64 mo, .int .i64 fk, .int .i64 ba, .int .i64 en] w (Yes w) := by
  obtain ⟨E0, hE0⟩ : ∃ r, pick ep 1000 = r := ⟨_, rfl⟩
  obtain ⟨ac, hac⟩ : ∃ r, pick en 1000 = r := ⟨_, rfl⟩
  obtain ⟨M, hM⟩ : ∃ r, pick mo 1000 = r := ⟨_, rfl⟩
  obtain ⟨f, hf⟩ : ∃ r, pick fk 1000 = r := ⟨_, rfl⟩
  obtain ⟨b, hb⟩ : ∃ r, pick ba 1000 = r := ⟨_, rfl⟩
  have hpe := pick17 ep 1000 (by decide) (by decide) h1
  have hpm := pick17 mo 1000 (by decide) (by decide) h2
  have hpf := pick17 fk 1000 (by decide) (by decide) h3
  have hpb := pick17 ba 1000 (by decide) (by decide) h4
  have hpa := pick17 en 1000 (by decide) (by decide) h5
  have be := pick_in ep 1000 (by decide)
  have bm := pick_in mo 1000 (by decide)
  have bf := pick_in fk 1000 (by decide)
  have bb := pick_in ba 1000 (by decide)
  have ba' := pick_in en 1000 (by decide)
  rw [hE0] at hpe be
  rw [hM] at hpm bm
  rw [hf] at hpf bf
  rw [hb] at hpb bb
  rw [hac] at hpa ba'
  clear hE0 hM hf hb hac
  obtain ⟨E, hE⟩ : ∃ E, 1 + E0 = E := ⟨_, rfl⟩
  have hw1 : wrap64 (1 + E0) = E := by simp only [wrap64]; omega
  have hw2 : wrap64 (E + 1) = E + 1 := by simp only [wrap64]; omega
  obtain ⟨n, hn⟩ : ∃ n, E + 1 + M = n := ⟨_, rfl⟩
  have hw3 : wrap64 (E + 1 + M) = n := by simp only [wrap64]; omega
  have hw4 : wrap64 (n + 1) = n + 1 := by simp only [wrap64]; omega
  have bE : 1 ≤ E ∧ E ≤ 1000 := by omega
  have bn : E < n ∧ n ≤ 3000 := by omega
  have HE := hid hE
  have hw5 : IntKind.i64.wrap (IntKind.i64.wrap (E + 1) + M) = n := by simp only [IntKind.wrap_i64, wrap64]; omega
  have HN := hid hw5
  clear hw5
  have bE1 := bE.1
  have bE2 := bE.2
  have bn1 := bn.1
  have bn2 := bn.2
  clear hE hn be bm
  have hl := lives14
  have okp : Ok ⟨E, 1, ac, 0, 0, 0⟩ := ok_of ⟨by omega, by omega, .inl ⟨rfl, by omega, by omega, rfl, rfl, rfl⟩⟩
  have okq : Ok ⟨n, 3, 0, 1, 0, 0⟩ := ok_of ⟨by omega, by omega, .inr (.inr ⟨rfl, rfl, .inl ⟨rfl, rfl, rfl⟩⟩)⟩
  have okr : Ok ⟨n, 3, 0, 2, f, b⟩ := ok_of ⟨by omega, by omega, .inr (.inr ⟨rfl, rfl, .inr ⟨by decide, by decide, by omega, by omega, by omega, by omega⟩⟩)⟩
  have oks : Ok ⟨n, 3, 0, 3, f, b⟩ := ok_of ⟨by omega, by omega, .inr (.inr ⟨rfl, rfl, .inr ⟨by decide, by decide, by omega, by omega, by omega, by omega⟩⟩)⟩
  have okt : Ok ⟨n, 3, 0, 4, f, b⟩ := ok_of ⟨by omega, by omega, .inr (.inr ⟨rfl, rfl, .inr ⟨by decide, by decide, by omega, by omega, by omega, by omega⟩⟩)⟩
  have oku : Ok ⟨n, 2, 0, 0, 0, 0⟩ := ok_of ⟨by omega, by omega, .inr (.inl ⟨rfl, rfl, rfl, rfl, rfl⟩)⟩
  have okv : Ok ⟨n + 1, 1, f, 0, 0, 0⟩ := ok_of ⟨by omega, by omega, .inl ⟨rfl, by omega, by omega, rfl, rfl, rfl⟩⟩
  have hx : 1 ≤ n ∧ n ≤ 1048576 := by omega
  have hlt : E < n := bn.1
  have hf0 : 0 ≤ f ∧ f ≤ 1048576 := by omega
  have hfb : (0 ≤ f ∧ f ≤ 1048576) ∧ (0 ≤ b ∧ b ≤ 1073741824) := by omega
  have hn0 : ¬n = 1048576 := by omega
  have h13 : ∀ w, Calls Try.prog 13 #[(Pg.mk E 1 ac 0 0 0).v, .int .i64 n] w (Gives3 (⟨n, 3, 0, 1, 0, 0⟩, true, 0) w) := fun w => by
    have h := hear13 ⟨E, 1, ac, 0, 0, 0⟩ n w
    rwa [show hear ⟨E, 1, ac, 0, 0, 0⟩ n = (⟨n, 3, 0, 1, 0, 0⟩, true, 0) by simp only [hear, if_pos okp, if_pos hx, if_pos hlt]] at h
  have h16 : ∀ w, Calls Try.prog 16 #[(Pg.mk n 3 0 1 0 0).v] w (Num 9 w) := fun w => by
    have h := reads16 ⟨n, 3, 0, 1, 0, 0⟩  w
    rwa [show reads ⟨n, 3, 0, 1, 0, 0⟩ = 9 by simp [reads, okq, z]] at h
  have h15 : ∀ w, Calls Try.prog 15 #[(Pg.mk n 3 0 1 0 0).v] w (Num 9 w) := fun w => by
    have h := writes15 ⟨n, 3, 0, 1, 0, 0⟩  w
    rwa [show writes ⟨n, 3, 0, 1, 0, 0⟩ = 9 by simp [writes, okq, z]] at h
  have h8 : ∀ w, Calls Try.prog 8 #[(Pg.mk n 3 0 1 0 0).v] w (Gives (⟨0, 0, 0, 0, 0, 0⟩, 15) w) := fun w => by
    have h := file8 ⟨n, 3, 0, 1, 0, 0⟩  w
    rwa [show step ⟨n, 3, 0, 1, 0, 0⟩ 2 = (⟨0, 0, 0, 0, 0, 0⟩, 15) by simp [step, okq, z]] at h
  have h10 : ∀ w, Calls Try.prog 10 #[(Pg.mk n 3 0 1 0 0).v] w (Gives (⟨0, 0, 0, 0, 0, 0⟩, 15) w) := fun w => by
    have h := cut10 ⟨n, 3, 0, 1, 0, 0⟩  w
    rwa [show step ⟨n, 3, 0, 1, 0, 0⟩ 3 = (⟨0, 0, 0, 0, 0, 0⟩, 15) by simp [step, okq, z]] at h
  have h11 : ∀ w, Calls Try.prog 11 #[(Pg.mk n 3 0 1 0 0).v] w (Gives (⟨0, 0, 0, 0, 0, 0⟩, 15) w) := fun w => by
    have h := rejoin11 ⟨n, 3, 0, 1, 0, 0⟩  w
    rwa [show rejoin ⟨n, 3, 0, 1, 0, 0⟩ = (⟨0, 0, 0, 0, 0, 0⟩, 15) by simp [rejoin, okq, z]] at h
  have h7 : ∀ w, Calls Try.prog 7 #[(Pg.mk n 3 0 1 0 0).v, .int .i64 0] w (Gives (⟨0, 0, 0, 0, 0, 0⟩, 9) w) := fun w => by
    have h := promote7 ⟨n, 3, 0, 1, 0, 0⟩ 0 w
    rwa [show promote ⟨n, 3, 0, 1, 0, 0⟩ 0 = (⟨0, 0, 0, 0, 0, 0⟩, 9) by simp [promote, okq, z]] at h
  have h9 : ∀ w, Calls Try.prog 9 #[(Pg.mk n 3 0 1 0 0).v, .int .i64 f, .int .i64 b] w (Gives (⟨n, 3, 0, 2, f, b⟩, 0) w) := fun w => by
    have h := fork9 ⟨n, 3, 0, 1, 0, 0⟩ f b w
    rwa [show fork ⟨n, 3, 0, 1, 0, 0⟩ f b = (⟨n, 3, 0, 2, f, b⟩, 0) by simp only [fork, if_pos okq, if_pos hfb, if_pos]] at h
  have h8b : ∀ w, Calls Try.prog 8 #[(Pg.mk n 3 0 2 f b).v] w (Gives (⟨n, 3, 0, 3, f, b⟩, 0) w) := fun w => by
    have h := file8 ⟨n, 3, 0, 2, f, b⟩  w
    rwa [show step ⟨n, 3, 0, 2, f, b⟩ 2 = (⟨n, 3, 0, 3, f, b⟩, 0) by simp [step, okr, z]] at h
  have h10b : ∀ w, Calls Try.prog 10 #[(Pg.mk n 3 0 3 f b).v] w (Gives (⟨n, 3, 0, 4, f, b⟩, 0) w) := fun w => by
    have h := cut10 ⟨n, 3, 0, 3, f, b⟩  w
    rwa [show step ⟨n, 3, 0, 3, f, b⟩ 3 = (⟨n, 3, 0, 4, f, b⟩, 0) by simp [step, oks, z]] at h
  have h11b : ∀ w, Calls Try.prog 11 #[(Pg.mk n 3 0 4 f b).v] w (Gives (⟨n, 2, 0, 0, 0, 0⟩, 0) w) := fun w => by
    have h := rejoin11 ⟨n, 3, 0, 4, f, b⟩  w
    rwa [show rejoin ⟨n, 3, 0, 4, f, b⟩ = (⟨n, 2, 0, 0, 0, 0⟩, 0) by simp [rejoin, okt, z]] at h
  have okg : ∀ ph : Int, 2 ≤ ph → ph ≤ 4 → Ok ⟨n, 3, 0, ph, f, b⟩ := fun ph a1 a2 => ok_of ⟨by omega, by omega, .inr (.inr ⟨rfl, rfl, .inr ⟨a1, a2, by omega, by omega, by omega, by omega⟩⟩)⟩
  have g18 : ∀ ph : Int, 2 ≤ ph → ph ≤ 4 → ∀ w, Calls Try.prog 18 #[(Pg.mk n 3 0 ph f b).v] w (Num 0 w) := fun ph a1 a2 w => check18_ok (okg ph a1 a2) w
  have g15 : ∀ ph : Int, 2 ≤ ph → ph ≤ 4 → ∀ w, Calls Try.prog 15 #[(Pg.mk n 3 0 ph f b).v] w (Num 9 w) := fun ph a1 a2 w => by
    have h := writes15 ⟨n, 3, 0, ph, f, b⟩ w
    rwa [show writes ⟨n, 3, 0, ph, f, b⟩ = 9 by simp [writes, okg ph a1 a2]] at h
  clear okg
  have h7b : ∀ w, Calls Try.prog 7 #[(Pg.mk n 2 0 0 0 0).v, .int .i64 f] w (Gives (⟨n + 1, 1, f, 0, 0, 0⟩, 0) w) := fun w => by
    have h := promote7 ⟨n, 2, 0, 0, 0, 0⟩ f w
    rwa [show promote ⟨n, 2, 0, 0, 0, 0⟩ f = (⟨n + 1, 1, f, 0, 0, 0⟩, 0) by simp [promote, oku, hf0, hn0]] at h
  have hs1 := same12_yes ⟨n, 2, 0, 0, 0, 0⟩
  have hs2 := same12_yes ⟨n + 1, 1, f, 0, 0, 0⟩
  have k15u : ∀ w, Calls Try.prog 15 #[(Pg.mk n 2 0 0 0 0).v] w (Num 11 w) := fun w => by
    have h := writes15 ⟨n, 2, 0, 0, 0, 0⟩  w
    rwa [show writes ⟨n, 2, 0, 0, 0, 0⟩ = 11 by simp [writes, oku, z]] at h
  have k16u : ∀ w, Calls Try.prog 16 #[(Pg.mk n 2 0 0 0 0).v] w (Num 0 w) := fun w => by
    have h := reads16 ⟨n, 2, 0, 0, 0, 0⟩  w
    rwa [show reads ⟨n, 2, 0, 0, 0, 0⟩ = 0 by simp [reads, oku, z]] at h
  have k15v : ∀ w, Calls Try.prog 15 #[(Pg.mk (n + 1) 1 f 0 0 0).v] w (Num 0 w) := fun w => by
    have h := writes15 ⟨n + 1, 1, f, 0, 0, 0⟩  w
    rwa [show writes ⟨n + 1, 1, f, 0, 0, 0⟩ = 0 by simp [writes, okv, z]] at h
  clear okp okq okr oks okt oku okv
  go_enter Try.func4, Try.ntmps4
  go_wp2_with (go_at_call 14; refine stop_ (fun Ps hPs => ?_))
  refine hPs ?_
  clear hPs Ps
  refine (hl _).mono ?_
  clear hl
  rintro e w1 ⟨rfl, hbn⟩
  have hb := hbn
  clear hbn
  go_wp2_with (first | (go_at_call 17; refine (hpe _).mono ?_; clear hpe; rintro e v0 ⟨rfl, _, _, rfl⟩) | (go_at_call 17; refine (hpa _).mono ?_; clear hpa; rintro e v0 ⟨rfl, _, _, rfl⟩))
  rw [HE.out]
  have kp := Blk.new v0 25 #[.int .i64 E, .int .u8 1, .int .i64 ac, .int .u8 0, .int .i64 0, .int .i64 0]
  have hbs := hb.size
  have hb := hb.alloc hb.size (.cells #[.int .i64 E, .int .u8 1, .int .i64 ac, .int .u8 0, .int .i64 0, .int .i64 0] 25)
  generalize hB : v0.heap.size = bp at *
  clear hB
  generalize hW : World.alloc v0 _ = wr at *
  clear hW
  obtain ⟨⟨pc0, pc1, pc2, pc3, pc4, pc5⟩, pf0, pf1, pf2, pf3, pf4, pf5⟩ := page_cells kp
  have ka := later_cells kp kp.lt pc0 pc2 pc4
  have kw := later_drew kp kp.lt pc0 pc2 pc4
  have kv := now_drew kp pc0 pc2 pc4
  have npz : bp ≠ wr.heap.size := Nat.ne_of_lt kp.lt
  have HB := hid hb
  have HKP := hid kp
  have hbz := hb.size
  go_region_held3 (fun w' => (w'.cell? ⟨bp, 0, none⟩ = some (Value.int .i64 E) ∧ w'.cell? ⟨bp, 1, none⟩ = some (Value.int .u8 1) ∧ w'.cell? ⟨bp, 2, none⟩ = some (Value.int .i64 ac) ∧ w'.cell? ⟨bp, 3, none⟩ = some (Value.int .u8 0) ∧ w'.cell? ⟨bp, 4, none⟩ = some (Value.int .i64 0) ∧ w'.cell? ⟨bp, 5, none⟩ = some (Value.int .i64 0))) ((refine ⟨?_, ?_, ?_, ?_, ?_, ?_⟩; (first | (with_reducible exact pc0) | (with_reducible exact kv.1) | (with_reducible exact ka.1 _) | (with_reducible exact kw.1 _) | (with_reducible exact far6 pc0 npz (.int .i64 n) (.int .u8 3) (.int .i64 0) (.int .u8 1) (.int .i64 0) (.int .i64 0)) | exact pc0); (first | (with_reducible exact pc1) | (with_reducible exact kv.2.1) | (with_reducible exact ka.2.1 _) | (with_reducible exact kw.2.1 _) | (with_reducible exact far6 pc1 npz (.int .i64 n) (.int .u8 3) (.int .i64 0) (.int .u8 1) (.int .i64 0) (.int .i64 0)) | exact pc1); (first | (with_reducible exact pc2) | (with_reducible exact kv.2.2.1) | (with_reducible exact ka.2.2.1 _) | (with_reducible exact kw.2.2.1 _) | (with_reducible exact far6 pc2 npz (.int .i64 n) (.int .u8 3) (.int .i64 0) (.int .u8 1) (.int .i64 0) (.int .i64 0)) | exact pc2); (first | (with_reducible exact pc3) | (with_reducible exact kv.2.2.2.1) | (with_reducible exact ka.2.2.2.1 _) | (with_reducible exact kw.2.2.2.1 _) | (with_reducible exact far6 pc3 npz (.int .i64 n) (.int .u8 3) (.int .i64 0) (.int .u8 1) (.int .i64 0) (.int .i64 0)) | exact pc3); (first | (with_reducible exact pc4) | (with_reducible exact kv.2.2.2.2.1) | (with_reducible exact ka.2.2.2.2.1 _) | (with_reducible exact kw.2.2.2.2.1 _) | (with_reducible exact far6 pc4 npz (.int .i64 n) (.int .u8 3) (.int .i64 0) (.int .u8 1) (.int .i64 0) (.int .i64 0)) | exact pc4); (first | (with_reducible exact pc5) | (with_reducible exact kv.2.2.2.2.2.1) | (with_reducible exact ka.2.2.2.2.2.1 _) | (with_reducible exact kw.2.2.2.2.2.1 _) | (with_reducible exact far6 pc5 npz (.int .i64 n) (.int .u8 3) (.int .i64 0) (.int .u8 1) (.int .i64 0) (.int .i64 0)) | exact pc5)))
    (first
      | (go_at_call 17; refine (hpm _).mono ?_; rintro e v0 ⟨rfl, _, _, rfl⟩)
      | (go_at_call 13; rw [HN.out]; refine (h13 _).mono ?_; rintro e' v1 ⟨rfl, hq0⟩; with_reducible have hq1 := below_drew_alloc hq0; have kz := blk_drew_alloc hq0; obtain ⟨⟨zc0, zc1, zc2, zc3, zc4, zc5⟩, zf0, zf1, zf2, zf3, zf4, zf5⟩ := page_cells kz; have kp := HKP.out.later hq1; obtain ⟨⟨pc0, pc1, pc2, pc3, pc4, pc5⟩, pf0, pf1, pf2, pf3, pf4, pf5⟩ := page_cells kp; have ka := later_cells kp kp.lt pc0 pc2 pc4)
      | (go_at_call 13; rw [HN.out]; refine (h13 _).mono ?_; rintro e' v1 ⟨rfl, hq0⟩; have hq1 := below_src hq0; have kp := HKP.out.later hq1; obtain ⟨⟨pc0, pc1, pc2, pc3, pc4, pc5⟩, pf0, pf1, pf2, pf3, pf4, pf5⟩ := page_cells kp; have ka := later_cells kp kp.lt pc0 pc2 pc4))
  · have kq := Blk.new v1 25 #[.int .i64 n, .int .u8 3, .int .i64 0, .int .u8 1, .int .i64 0, .int .i64 0]
    have npq : bp ≠ v1.heap.size := Nat.ne_of_lt kp.lt
    have leq := (bl_trans HB.out hq1 HB.out.size).size
    have hb := (bl_trans HB.out hq1 HB.out.size).alloc leq (.cells #[.int .i64 n, .int .u8 3, .int .i64 0, .int .u8 1, .int .i64 0, .int .i64 0] 25)
    have kp := kp.alloc (.cells #[.int .i64 n, .int .u8 3, .int .i64 0, .int .u8 1, .int .i64 0, .int .i64 0] 25)
    obtain ⟨W, hW⟩ : ∃ W, W = v1.alloc (.cells #[.int .i64 n, .int .u8 3, .int .i64 0, .int .u8 1, .int .i64 0, .int .i64 0] 25) := ⟨_, rfl⟩
    rw [← hW] at kp kq hb ⊢
    clear hW hq0
    obtain ⟨bq, hbq⟩ : ∃ b, b = v1.heap.size := ⟨_, rfl⟩
    rw [← hbq] at kq npq leq ⊢
    clear hbq hq1 ka kw kv pc0 pc1 pc2 pc3 pc4 pc5 HB HKP
    have lep := hbs
    obtain ⟨⟨pc0, pc1, pc2, pc3, pc4, pc5⟩, pf0, pf1, pf2, pf3, pf4, pf5⟩ := page_cells kp
    obtain ⟨⟨qc0, qc1, qc2, qc3, qc4, qc5⟩, qf0, qf1, qf2, qf3, qf4, qf5⟩ := page_cells kq
    go_wp2_with (go_at_call 16; refine stop_ (fun Ps hPs => ?_))
    refine hPs ?_
    clear hPs Ps
    clear pc0 pf0 pc1 pf1 pc2 pf2 pc3 pf3 pc4 pf4 pc5 pf5
    clear qc0 qf0 qc1 qf1 qc2 qf2 qc3 qf3 qc4 qf4 qc5 qf5
    refine (h16 _).mono ?_
    clear h16
    rintro e w1 ⟨rfl, hbn⟩
    have kp := kp.later hbn
    have kq := kq.later hbn
    have hb := bl_trans hb hbn hb.size
    clear hbn
    obtain ⟨⟨qc0, qc1, qc2, qc3, qc4, qc5⟩, qf0, qf1, qf2, qf3, qf4, qf5⟩ := page_cells kq
    go_wp2_with (go_at_call 15; refine stop_ (fun Ps hPs => ?_))
    refine hPs ?_
    clear hPs Ps
    clear qc0 qf0 qc1 qf1 qc2 qf2 qc3 qf3 qc4 qf4 qc5 qf5
    refine (h15 _).mono ?_
    clear h15
    rintro e w2 ⟨rfl, hbn⟩
    have kp := kp.later hbn
    have kq := kq.later hbn
    have hb := bl_trans hb hbn hb.size
    clear hbn
    obtain ⟨⟨qc0, qc1, qc2, qc3, qc4, qc5⟩, qf0, qf1, qf2, qf3, qf4, qf5⟩ := page_cells kq
    go_wp2_with (go_at_call 8; refine stop_ (fun Ps hPs => ?_))
    refine hPs ?_
    clear hPs Ps
    clear qc0 qf0 qc1 qf1 qc2 qf2 qc3 qf3 qc4 qf4 qc5 qf5
    refine (h8 _).mono ?_
    clear h8
    rintro e w3 ⟨rfl, hbn⟩
    have kp := kp.later hbn
    have kq := kq.later hbn
    have hb := bl_trans hb hbn hb.size
    clear hbn
    have jq := kq.alloc (.cells #[.int .i64 0, .int .u8 0, .int .i64 0, .int .u8 0, .int .i64 0, .int .i64 0] 25)
    obtain ⟨⟨qc0, qc1, qc2, qc3, qc4, qc5⟩, qf0, qf1, qf2, qf3, qf4, qf5⟩ := page_cells jq
    clear jq
    go_wp2_with (go_at_call 10; refine stop_ (fun Ps hPs => ?_))
    refine hPs ?_
    clear hPs Ps
    clear qc0 qf0 qc1 qf1 qc2 qf2 qc3 qf3 qc4 qf4 qc5 qf5
    have kx1 := Blk.new w3 25 #[.int .i64 0, .int .u8 0, .int .i64 0, .int .u8 0, .int .i64 0, .int .i64 0]
    have npx1 : bp ≠ w3.heap.size := Nat.ne_of_lt kp.lt
    have kp := kp.alloc (.cells #[.int .i64 0, .int .u8 0, .int .i64 0, .int .u8 0, .int .i64 0, .int .i64 0] 25)
    have nqx1 : bq ≠ w3.heap.size := Nat.ne_of_lt kq.lt
    have kq := kq.alloc (.cells #[.int .i64 0, .int .u8 0, .int .i64 0, .int .u8 0, .int .i64 0, .int .i64 0] 25)
    have lex1 := hb.size
    have hb := hb.alloc hb.size (.cells #[.int .i64 0, .int .u8 0, .int .i64 0, .int .u8 0, .int .i64 0, .int .i64 0] 25)
    generalize hBx1 : w3.heap.size = bx1 at *
    clear hBx1
    generalize hW : World.alloc w3 _ = w4 at *
    clear hW
    refine (h10 _).mono ?_
    clear h10
    rintro e w5 ⟨rfl, hbn⟩
    have kp := kp.later hbn
    have kq := kq.later hbn
    have kx1 := kx1.later hbn
    have hb := bl_trans hb hbn hb.size
    clear hbn
    have jq := kq.alloc (.cells #[.int .i64 0, .int .u8 0, .int .i64 0, .int .u8 0, .int .i64 0, .int .i64 0] 25)
    obtain ⟨⟨qc0, qc1, qc2, qc3, qc4, qc5⟩, qf0, qf1, qf2, qf3, qf4, qf5⟩ := page_cells jq
    clear jq
    go_wp2_with (go_at_call 11; refine stop_ (fun Ps hPs => ?_))
    refine hPs ?_
    clear hPs Ps
    clear qc0 qf0 qc1 qf1 qc2 qf2 qc3 qf3 qc4 qf4 qc5 qf5
    have kx2 := Blk.new w5 25 #[.int .i64 0, .int .u8 0, .int .i64 0, .int .u8 0, .int .i64 0, .int .i64 0]
    have npx2 : bp ≠ w5.heap.size := Nat.ne_of_lt kp.lt
    have kp := kp.alloc (.cells #[.int .i64 0, .int .u8 0, .int .i64 0, .int .u8 0, .int .i64 0, .int .i64 0] 25)
    have nqx2 : bq ≠ w5.heap.size := Nat.ne_of_lt kq.lt
    have kq := kq.alloc (.cells #[.int .i64 0, .int .u8 0, .int .i64 0, .int .u8 0, .int .i64 0, .int .i64 0] 25)
    have nx1x2 : bx1 ≠ w5.heap.size := Nat.ne_of_lt kx1.lt
    have kx1 := kx1.alloc (.cells #[.int .i64 0, .int .u8 0, .int .i64 0, .int .u8 0, .int .i64 0, .int .i64 0] 25)
    have lex2 := hb.size
    have hb := hb.alloc hb.size (.cells #[.int .i64 0, .int .u8 0, .int .i64 0, .int .u8 0, .int .i64 0, .int .i64 0] 25)
    generalize hBx2 : w5.heap.size = bx2 at *
    clear hBx2
    generalize hW : World.alloc w5 _ = w6 at *
    clear hW
    refine (h11 _).mono ?_
    clear h11
    rintro e w7 ⟨rfl, hbn⟩
    have kp := kp.later hbn
    have kq := kq.later hbn
    have kx1 := kx1.later hbn
    have kx2 := kx2.later hbn
    have hb := bl_trans hb hbn hb.size
    clear hbn
    have jq := kq.alloc (.cells #[.int .i64 0, .int .u8 0, .int .i64 0, .int .u8 0, .int .i64 0, .int .i64 0] 25)
    obtain ⟨⟨qc0, qc1, qc2, qc3, qc4, qc5⟩, qf0, qf1, qf2, qf3, qf4, qf5⟩ := page_cells jq
    clear jq
    go_wp2_with (go_at_call 7; refine stop_ (fun Ps hPs => ?_))
    refine hPs ?_
    clear hPs Ps
    clear qc0 qf0 qc1 qf1 qc2 qf2 qc3 qf3 qc4 qf4 qc5 qf5
    have kx3 := Blk.new w7 25 #[.int .i64 0, .int .u8 0, .int .i64 0, .int .u8 0, .int .i64 0, .int .i64 0]
    have npx3 : bp ≠ w7.heap.size := Nat.ne_of_lt kp.lt
    have kp := kp.alloc (.cells #[.int .i64 0, .int .u8 0, .int .i64 0, .int .u8 0, .int .i64 0, .int .i64 0] 25)
    have nqx3 : bq ≠ w7.heap.size := Nat.ne_of_lt kq.lt
    have kq := kq.alloc (.cells #[.int .i64 0, .int .u8 0, .int .i64 0, .int .u8 0, .int .i64 0, .int .i64 0] 25)
    have nx1x3 : bx1 ≠ w7.heap.size := Nat.ne_of_lt kx1.lt
    have kx1 := kx1.alloc (.cells #[.int .i64 0, .int .u8 0, .int .i64 0, .int .u8 0, .int .i64 0, .int .i64 0] 25)
    have nx2x3 : bx2 ≠ w7.heap.size := Nat.ne_of_lt kx2.lt
    have kx2 := kx2.alloc (.cells #[.int .i64 0, .int .u8 0, .int .i64 0, .int .u8 0, .int .i64 0, .int .i64 0] 25)
    have lex3 := hb.size
    have hb := hb.alloc hb.size (.cells #[.int .i64 0, .int .u8 0, .int .i64 0, .int .u8 0, .int .i64 0, .int .i64 0] 25)
    generalize hBx3 : w7.heap.size = bx3 at *
    clear hBx3
    generalize hW : World.alloc w7 _ = w8 at *
    clear hW
    refine (h7 _).mono ?_
    clear h7
    rintro e w9 ⟨rfl, hbn⟩
    have kp := kp.later hbn
    have kq := kq.later hbn
    have kx1 := kx1.later hbn
    have kx2 := kx2.later hbn
    have kx3 := kx3.later hbn
    have hb := bl_trans hb hbn hb.size
    clear hbn
    go_wp2_with (go_at_call 17; refine stop_ (fun Ps hPs => ?_))
    refine hPs ?_
    clear hPs Ps
    have kx4 := Blk.new w9 25 #[.int .i64 0, .int .u8 0, .int .i64 0, .int .u8 0, .int .i64 0, .int .i64 0]
    have npx4 : bp ≠ w9.heap.size := Nat.ne_of_lt kp.lt
    have kp := kp.alloc (.cells #[.int .i64 0, .int .u8 0, .int .i64 0, .int .u8 0, .int .i64 0, .int .i64 0] 25)
    have nqx4 : bq ≠ w9.heap.size := Nat.ne_of_lt kq.lt
    have kq := kq.alloc (.cells #[.int .i64 0, .int .u8 0, .int .i64 0, .int .u8 0, .int .i64 0, .int .i64 0] 25)
    have nx1x4 : bx1 ≠ w9.heap.size := Nat.ne_of_lt kx1.lt
    have kx1 := kx1.alloc (.cells #[.int .i64 0, .int .u8 0, .int .i64 0, .int .u8 0, .int .i64 0, .int .i64 0] 25)
    have nx2x4 : bx2 ≠ w9.heap.size := Nat.ne_of_lt kx2.lt
    have kx2 := kx2.alloc (.cells #[.int .i64 0, .int .u8 0, .int .i64 0, .int .u8 0, .int .i64 0, .int .i64 0] 25)
    have nx3x4 : bx3 ≠ w9.heap.size := Nat.ne_of_lt kx3.lt
    have kx3 := kx3.alloc (.cells #[.int .i64 0, .int .u8 0, .int .i64 0, .int .u8 0, .int .i64 0, .int .i64 0] 25)
    have lex4 := hb.size
    have hb := hb.alloc hb.size (.cells #[.int .i64 0, .int .u8 0, .int .i64 0, .int .u8 0, .int .i64 0, .int .i64 0] 25)
    generalize hBx4 : w9.heap.size = bx4 at *
    clear hBx4
    generalize hW : World.alloc w9 _ = w10 at *
    clear hW
    refine (hpf _).mono ?_
    clear hpf
    rintro e v9 ⟨rfl, _, _, rfl⟩
    go_wp2_with (go_at_call 17; refine stop_ (fun Ps hPs => ?_))
    refine hPs ?_
    clear hPs Ps
    refine (hpb _).mono ?_
    clear hpb
    rintro e v9 ⟨rfl, _, _, rfl⟩
    obtain ⟨⟨qc0, qc1, qc2, qc3, qc4, qc5⟩, qf0, qf1, qf2, qf3, qf4, qf5⟩ := page_cells kq
    go_wp2_with (go_at_call 9; refine stop_ (fun Ps hPs => ?_))
    refine hPs ?_
    clear hPs Ps
    clear qc0 qf0 qc1 qf1 qc2 qf2 qc3 qf3 qc4 qf4 qc5 qf5
    refine (h9 _).mono ?_
    clear h9
    rintro e w11 ⟨rfl, hbn⟩
    have kp := kp.later hbn
    have kq := kq.later hbn
    have kx1 := kx1.later hbn
    have kx2 := kx2.later hbn
    have kx3 := kx3.later hbn
    have kx4 := kx4.later hbn
    have hb := bl_trans hb hbn hb.size
    clear hbn
    clear kx1
    clear kx2
    clear kx3
    clear kx4
    clear kp
    go_wp2_with (go_at_call 8; refine stop_ (fun Ps hPs => ?_))
    refine hPs ?_
    clear hPs Ps
    have kr1 := Blk.new w11 25 #[.int .i64 n, .int .u8 3, .int .i64 0, .int .u8 2, .int .i64 f, .int .i64 b]
    have nqr1 : bq ≠ w11.heap.size := Nat.ne_of_lt kq.lt
    have kq := kq.alloc (.cells #[.int .i64 n, .int .u8 3, .int .i64 0, .int .u8 2, .int .i64 f, .int .i64 b] 25)
    have ler1 := hb.size
    have hb := hb.alloc hb.size (.cells #[.int .i64 n, .int .u8 3, .int .i64 0, .int .u8 2, .int .i64 f, .int .i64 b] 25)
    generalize hBr1 : w11.heap.size = br1 at *
    clear hBr1
    generalize hW : World.alloc w11 _ = w12 at *
    clear hW
    refine (h8b _).mono ?_
    clear h8b
    rintro e w13 ⟨rfl, hbn⟩
    have kq := kq.later hbn
    have kr1 := kr1.later hbn
    have hb := bl_trans hb hbn hb.size
    clear hbn
    go_wp2_with (go_at_call 10; refine stop_ (fun Ps hPs => ?_))
    refine hPs ?_
    clear hPs Ps
    have ks1 := Blk.new w13 25 #[.int .i64 n, .int .u8 3, .int .i64 0, .int .u8 3, .int .i64 f, .int .i64 b]
    have nqs1 : bq ≠ w13.heap.size := Nat.ne_of_lt kq.lt
    have kq := kq.alloc (.cells #[.int .i64 n, .int .u8 3, .int .i64 0, .int .u8 3, .int .i64 f, .int .i64 b] 25)
    have nr1s1 : br1 ≠ w13.heap.size := Nat.ne_of_lt kr1.lt
    have kr1 := kr1.alloc (.cells #[.int .i64 n, .int .u8 3, .int .i64 0, .int .u8 3, .int .i64 f, .int .i64 b] 25)
    have les1 := hb.size
    have hb := hb.alloc hb.size (.cells #[.int .i64 n, .int .u8 3, .int .i64 0, .int .u8 3, .int .i64 f, .int .i64 b] 25)
    generalize hBs1 : w13.heap.size = bs1 at *
    clear hBs1
    generalize hW : World.alloc w13 _ = w14 at *
    clear hW
    refine (h10b _).mono ?_
    clear h10b
    rintro e w15 ⟨rfl, hbn⟩
    have kq := kq.later hbn
    have kr1 := kr1.later hbn
    have ks1 := ks1.later hbn
    have hb := bl_trans hb hbn hb.size
    clear hbn
    go_wp2_with (go_at_call 11; refine stop_ (fun Ps hPs => ?_))
    refine hPs ?_
    clear hPs Ps
    have kt1 := Blk.new w15 25 #[.int .i64 n, .int .u8 3, .int .i64 0, .int .u8 4, .int .i64 f, .int .i64 b]
    have nqt1 : bq ≠ w15.heap.size := Nat.ne_of_lt kq.lt
    have kq := kq.alloc (.cells #[.int .i64 n, .int .u8 3, .int .i64 0, .int .u8 4, .int .i64 f, .int .i64 b] 25)
    have nr1t1 : br1 ≠ w15.heap.size := Nat.ne_of_lt kr1.lt
    have kr1 := kr1.alloc (.cells #[.int .i64 n, .int .u8 3, .int .i64 0, .int .u8 4, .int .i64 f, .int .i64 b] 25)
    have ns1t1 : bs1 ≠ w15.heap.size := Nat.ne_of_lt ks1.lt
    have ks1 := ks1.alloc (.cells #[.int .i64 n, .int .u8 3, .int .i64 0, .int .u8 4, .int .i64 f, .int .i64 b] 25)
    have let1 := hb.size
    have hb := hb.alloc hb.size (.cells #[.int .i64 n, .int .u8 3, .int .i64 0, .int .u8 4, .int .i64 f, .int .i64 b] 25)
    generalize hBt1 : w15.heap.size = bt1 at *
    clear hBt1
    generalize hW : World.alloc w15 _ = w16 at *
    clear hW
    refine (h11b _).mono ?_
    clear h11b
    rintro e w17 ⟨rfl, hbn⟩
    have kq := kq.later hbn
    have kr1 := kr1.later hbn
    have ks1 := ks1.later hbn
    have kt1 := kt1.later hbn
    have hb := bl_trans hb hbn hb.size
    clear hbn
    have jr1 := kr1.alloc (.cells #[.int .i64 n, .int .u8 2, .int .i64 0, .int .u8 0, .int .i64 0, .int .i64 0] 25)
    obtain ⟨⟨r1c0, r1c1, r1c2, r1c3, r1c4, r1c5⟩, r1f0, r1f1, r1f2, r1f3, r1f4, r1f5⟩ := page_cells jr1
    clear jr1
    have js1 := ks1.alloc (.cells #[.int .i64 n, .int .u8 2, .int .i64 0, .int .u8 0, .int .i64 0, .int .i64 0] 25)
    obtain ⟨⟨s1c0, s1c1, s1c2, s1c3, s1c4, s1c5⟩, s1f0, s1f1, s1f2, s1f3, s1f4, s1f5⟩ := page_cells js1
    clear js1
    have jt1 := kt1.alloc (.cells #[.int .i64 n, .int .u8 2, .int .i64 0, .int .u8 0, .int .i64 0, .int .i64 0] 25)
    obtain ⟨⟨t1c0, t1c1, t1c2, t1c3, t1c4, t1c5⟩, t1f0, t1f1, t1f2, t1f3, t1f4, t1f5⟩ := page_cells jt1
    clear jt1
    go_wp2_with fail
    clear r1c0 r1f0 r1c1 r1f1 r1c2 r1f2 r1c3 r1f3 r1c4 r1f4 r1c5 r1f5
    clear s1c0 s1f0 s1c1 s1f1 s1c2 s1f2 s1c3 s1f3 s1c4 s1f4 s1c5 s1f5
    clear t1c0 t1f0 t1c1 t1f1 t1c2 t1f2 t1c3 t1f3 t1c4 t1f4 t1c5 t1f5
    have kL := Blk.new2 w17 (.cells #[.int .i64 n, .int .u8 2, .int .i64 0, .int .u8 0, .int .i64 0, .int .i64 0] 25) 25 #[.int .i64 n, .int .u8 3, .int .i64 0, .int .u8 2, .int .i64 f, .int .i64 b, .int .i64 n, .int .u8 3, .int .i64 0, .int .u8 3, .int .i64 f, .int .i64 b, .int .i64 n, .int .u8 3, .int .i64 0, .int .u8 4, .int .i64 f, .int .i64 b]
    have ku1 := (Blk.new w17 25 #[.int .i64 n, .int .u8 2, .int .i64 0, .int .u8 0, .int .i64 0, .int .i64 0]).alloc (.cells #[.int .i64 n, .int .u8 3, .int .i64 0, .int .u8 2, .int .i64 f, .int .i64 b, .int .i64 n, .int .u8 3, .int .i64 0, .int .u8 3, .int .i64 f, .int .i64 b, .int .i64 n, .int .u8 3, .int .i64 0, .int .u8 4, .int .i64 f, .int .i64 b] 25)
    have kq := (kq.alloc (.cells #[.int .i64 n, .int .u8 2, .int .i64 0, .int .u8 0, .int .i64 0, .int .i64 0] 25)).alloc (.cells #[.int .i64 n, .int .u8 3, .int .i64 0, .int .u8 2, .int .i64 f, .int .i64 b, .int .i64 n, .int .u8 3, .int .i64 0, .int .u8 3, .int .i64 f, .int .i64 b, .int .i64 n, .int .u8 3, .int .i64 0, .int .u8 4, .int .i64 f, .int .i64 b] 25)
    have hbz9 := hb.size
    have hb := (hb.alloc hb.size (.cells #[.int .i64 n, .int .u8 2, .int .i64 0, .int .u8 0, .int .i64 0, .int .i64 0] 25)).alloc (by simp; omega) (.cells #[.int .i64 n, .int .u8 3, .int .i64 0, .int .u8 2, .int .i64 f, .int .i64 b, .int .i64 n, .int .u8 3, .int .i64 0, .int .u8 3, .int .i64 f, .int .i64 b, .int .i64 n, .int .u8 3, .int .i64 0, .int .u8 4, .int .i64 f, .int .i64 b] 25)
    obtain ⟨W9, hW9⟩ : ∃ W, W = (w17.alloc (.cells #[.int .i64 n, .int .u8 2, .int .i64 0, .int .u8 0, .int .i64 0, .int .i64 0] 25)).alloc (.cells #[.int .i64 n, .int .u8 3, .int .i64 0, .int .u8 2, .int .i64 f, .int .i64 b, .int .i64 n, .int .u8 3, .int .i64 0, .int .u8 3, .int .i64 f, .int .i64 b, .int .i64 n, .int .u8 3, .int .i64 0, .int .u8 4, .int .i64 f, .int .i64 b] 25) := ⟨_, rfl⟩
    rw [← hW9] at kL ku1 kq hb ⊢
    clear hW9
    obtain ⟨bu1, hbu⟩ : ∃ b, b = w17.heap.size := ⟨_, rfl⟩
    rw [← hbu] at kL ku1 hbz9 ⊢
    clear hbu kr1 ks1 kt1
    have HKL := hid kL
    have HKU := hid ku1
    have HKQ := hid kq
    have HBB := hid hb
    clear kL ku1 kq hb
    go_loopg [31] 3 (fun k i wr => ∃ j : Nat, j ≤ 3 ∧ k = 3 - j ∧ i = .int .i64 j ∧ Blk wr (bu1 + 1) 25 #[.int .i64 n, .int .u8 3, .int .i64 0, .int .u8 2, .int .i64 f, .int .i64 b, .int .i64 n, .int .u8 3, .int .i64 0, .int .u8 3, .int .i64 f, .int .i64 b, .int .i64 n, .int .u8 3, .int .i64 0, .int .u8 4, .int .i64 f, .int .i64 b] ∧ Blk wr bu1 25 #[.int .i64 n, .int .u8 2, .int .i64 0, .int .u8 0, .int .i64 0, .int .i64 0] ∧ Blk wr bq 25 #[.int .i64 n, .int .u8 3, .int .i64 0, .int .u8 1, .int .i64 0, .int .i64 0] ∧ Below w.heap.size w wr)
    case atStart => exact ⟨0, by omega, rfl, rfl, HKL.out, HKU.out, HKQ.out, HBB.out⟩
    case round =>
      obtain ⟨j, hj, rfl, rfl, kL, ku1, kq, hb⟩ := hrel
      clear HKL HKU HKQ HBB
      by_cases hlt : j < 3
      · obtain ⟨ph, hph⟩ : ∃ ph : Int, (j = 0 ∧ ph = 2) ∨ (j = 1 ∧ ph = 3) ∨ (j = 2 ∧ ph = 4) := by
          obtain rfl | rfl | rfl : j = 0 ∨ j = 1 ∨ j = 2 := by omega
          · exact ⟨2, .inl ⟨rfl, rfl⟩⟩
          · exact ⟨3, .inr (.inl ⟨rfl, rfl⟩)⟩
          · exact ⟨4, .inr (.inr ⟨rfl, rfl⟩)⟩
        have g18j := g18 ph (by omega) (by omega)
        have g15j := g15 ph (by omega) (by omega)
        have hji : (j : Int) < (3 : Int) := by omega
        have look : ∀ v : World, Blk v (bu1 + 1) 25 #[.int .i64 n, .int .u8 3, .int .i64 0, .int .u8 2, .int .i64 f, .int .i64 b, .int .i64 n, .int .u8 3, .int .i64 0, .int .u8 3, .int .i64 f, .int .i64 b, .int .i64 n, .int .u8 3, .int .i64 0, .int .u8 4, .int .i64 f, .int .i64 b] → v.cell? ⟨bu1 + 1, j * 6, none⟩ = some (Value.int .i64 n) ∧ v.cell? ⟨bu1 + 1, j * 6 + 1, none⟩ = some (Value.int .u8 3) ∧ v.cell? ⟨bu1 + 1, j * 6 + 2, none⟩ = some (Value.int .i64 0) ∧ v.cell? ⟨bu1 + 1, j * 6 + 3, none⟩ = some (Value.int .u8 ph) ∧ v.cell? ⟨bu1 + 1, j * 6 + 4, none⟩ = some (Value.int .i64 f) ∧ v.cell? ⟨bu1 + 1, j * 6 + 5, none⟩ = some (Value.int .i64 b) := by
          intro v hv
          rcases hph with ⟨rfl, rfl⟩ | ⟨rfl, rfl⟩ | ⟨rfl, rfl⟩
          · exact ⟨hv.cell 0, hv.cell 1, hv.cell 2, hv.cell 3, hv.cell 4, hv.cell 5⟩
          · exact ⟨hv.cell 6, hv.cell 7, hv.cell 8, hv.cell 9, hv.cell 10, hv.cell 11⟩
          · exact ⟨hv.cell 12, hv.cell 13, hv.cell 14, hv.cell 15, hv.cell 16, hv.cell 17⟩
        have LOOK := hid look
        have HLT := hid hlt
        clear look hlt hph
        obtain ⟨l0, l1, l2, l3, l4, l5⟩ := LOOK.out _ kL
        have q0 : wr.cell? ⟨bq, 0, none⟩ = some (.int .i64 n) := kq.cell 0
        go_wp2_with fail
        go_region_held3 (fun w' => w'.cell? ⟨bu1 + 1, j * 6, none⟩ = some (Value.int .i64 n) ∧ w'.cell? ⟨bu1 + 1, j * 6 + 1, none⟩ = some (Value.int .u8 3) ∧ w'.cell? ⟨bu1 + 1, j * 6 + 2, none⟩ = some (Value.int .i64 0) ∧ w'.cell? ⟨bu1 + 1, j * 6 + 3, none⟩ = some (Value.int .u8 ph) ∧ w'.cell? ⟨bu1 + 1, j * 6 + 4, none⟩ = some (Value.int .i64 f) ∧ w'.cell? ⟨bu1 + 1, j * 6 + 5, none⟩ = some (Value.int .i64 b) ∧ w'.cell? ⟨bq, 0, none⟩ = some (.int .i64 n)) (exact ⟨l0, l1, l2, l3, l4, l5, q0⟩)
          (first
            | (go_at_call 18; refine (g18j _).mono ?_; rintro e' v1 ⟨rfl, hq0⟩; have hq1 := below_src hq0; have kL := kL.later hq1; have ku1 := ku1.later hq1; have kq := kq.later hq1; have hb := bl_trans hb hq1 hb.size; obtain ⟨l0, l1, l2, l3, l4, l5⟩ := LOOK.out _ kL; have q0 : v1.cell? ⟨bq, 0, none⟩ = some (.int .i64 n) := kq.cell 0)
            | (go_at_call 15; refine (g15j _).mono ?_; rintro e' v2 ⟨rfl, hq0⟩; have hq1 := hq0; have kL := kL.later hq1; have ku1 := ku1.later hq1; have kq := kq.later hq1; have hb := bl_trans hb hq1 hb.size; obtain ⟨l0, l1, l2, l3, l4, l5⟩ := LOOK.out _ kL; have q0 : v2.cell? ⟨bq, 0, none⟩ = some (.int .i64 n) := kq.cell 0))
        clear l0 l1 l2 l3 l4 l5 q0
        go_wp2_with fail
        go_roundg (3 - (j + 1))
        case measure => have := HLT.out; omega
        case rel => exact ⟨j + 1, by have := HLT.out; omega, rfl, by go_num, kL, ku1, kq, hb⟩
      · obtain rfl : j = 3 := by omega
        clear kL
        obtain ⟨⟨u1c0, u1c1, u1c2, u1c3, u1c4, u1c5⟩, u1f0, u1f1, u1f2, u1f3, u1f4, u1f5⟩ := page_cells ku1
        go_wp2_with (go_at_call 7; refine stop_ (fun Ps hPs => ?_))
        refine hPs ?_
        clear hPs Ps
        clear u1c0 u1f0 u1c1 u1f1 u1c2 u1f2 u1c3 u1f3 u1c4 u1f4 u1c5 u1f5
        refine (h7b _).mono ?_
        clear h7b
        rintro e w101 ⟨rfl, hbn⟩
        have kq := kq.later hbn
        have ku1 := ku1.later hbn
        have hb := bl_trans hb hbn hb.size
        clear hbn
        have ju1 := ku1.alloc (.cells #[.int .i64 (n + 1), .int .u8 1, .int .i64 f, .int .u8 0, .int .i64 0, .int .i64 0] 25)
        obtain ⟨⟨u1c0, u1c1, u1c2, u1c3, u1c4, u1c5⟩, u1f0, u1f1, u1f2, u1f3, u1f4, u1f5⟩ := page_cells ju1
        clear ju1
        have jq := kq.alloc (.cells #[.int .i64 (n + 1), .int .u8 1, .int .i64 f, .int .u8 0, .int .i64 0, .int .i64 0] 25)
        obtain ⟨⟨qc0, qc1, qc2, qc3, qc4, qc5⟩, qf0, qf1, qf2, qf3, qf4, qf5⟩ := page_cells jq
        clear jq
        go_wp2_with (go_at_call 12; refine stop_ (fun Ps hPs => ?_))
        refine hPs ?_
        clear hPs Ps
        clear qc0 qf0 qc1 qf1 qc2 qf2 qc3 qf3 qc4 qf4 qc5 qf5
        clear u1c0 u1f0 u1c1 u1f1 u1c2 u1f2 u1c3 u1f3 u1c4 u1f4 u1c5 u1f5
        have kv1 := Blk.new w101 25 #[.int .i64 (n + 1), .int .u8 1, .int .i64 f, .int .u8 0, .int .i64 0, .int .i64 0]
        have nqv1 : bq ≠ w101.heap.size := Nat.ne_of_lt kq.lt
        have kq := kq.alloc (.cells #[.int .i64 (n + 1), .int .u8 1, .int .i64 f, .int .u8 0, .int .i64 0, .int .i64 0] 25)
        have nu1v1 : bu1 ≠ w101.heap.size := Nat.ne_of_lt ku1.lt
        have ku1 := ku1.alloc (.cells #[.int .i64 (n + 1), .int .u8 1, .int .i64 f, .int .u8 0, .int .i64 0, .int .i64 0] 25)
        have lev1 := hb.size
        have hb := hb.alloc hb.size (.cells #[.int .i64 (n + 1), .int .u8 1, .int .i64 f, .int .u8 0, .int .i64 0, .int .i64 0] 25)
        generalize hBv1 : w101.heap.size = bv1 at *
        clear hBv1
        generalize hW : World.alloc w101 _ = w102 at *
        clear hW
        refine (hs1 _).mono ?_
        clear hs1
        rintro e w103 ⟨rfl, hbn⟩
        have kq := kq.later hbn
        have ku1 := ku1.later hbn
        have kv1 := kv1.later hbn
        have hb := bl_trans hb hbn hb.size
        clear hbn
        obtain ⟨⟨u1c0, u1c1, u1c2, u1c3, u1c4, u1c5⟩, u1f0, u1f1, u1f2, u1f3, u1f4, u1f5⟩ := page_cells ku1
        go_wp2_with (go_at_call 15; refine stop_ (fun Ps hPs => ?_))
        refine hPs ?_
        clear hPs Ps
        clear u1c0 u1f0 u1c1 u1f1 u1c2 u1f2 u1c3 u1f3 u1c4 u1f4 u1c5 u1f5
        refine (k15u _).mono ?_
        clear k15u
        rintro e w104 ⟨rfl, hbn⟩
        have kq := kq.later hbn
        have ku1 := ku1.later hbn
        have kv1 := kv1.later hbn
        have hb := bl_trans hb hbn hb.size
        clear hbn
        obtain ⟨⟨u1c0, u1c1, u1c2, u1c3, u1c4, u1c5⟩, u1f0, u1f1, u1f2, u1f3, u1f4, u1f5⟩ := page_cells ku1
        go_wp2_with (go_at_call 16; refine stop_ (fun Ps hPs => ?_))
        refine hPs ?_
        clear hPs Ps
        clear u1c0 u1f0 u1c1 u1f1 u1c2 u1f2 u1c3 u1f3 u1c4 u1f4 u1c5 u1f5
        refine (k16u _).mono ?_
        clear k16u
        rintro e w105 ⟨rfl, hbn⟩
        have kq := kq.later hbn
        have ku1 := ku1.later hbn
        have kv1 := kv1.later hbn
        have hb := bl_trans hb hbn hb.size
        clear hbn
        obtain ⟨⟨v1c0, v1c1, v1c2, v1c3, v1c4, v1c5⟩, v1f0, v1f1, v1f2, v1f3, v1f4, v1f5⟩ := page_cells kv1
        obtain ⟨⟨qc0, qc1, qc2, qc3, qc4, qc5⟩, qf0, qf1, qf2, qf3, qf4, qf5⟩ := page_cells kq
        go_wp2_with (go_at_call 12; refine stop_ (fun Ps hPs => ?_))
        refine hPs ?_
        clear hPs Ps
        clear qc0 qf0 qc1 qf1 qc2 qf2 qc3 qf3 qc4 qf4 qc5 qf5
        clear v1c0 v1f0 v1c1 v1f1 v1c2 v1f2 v1c3 v1f3 v1c4 v1f4 v1c5 v1f5
        refine (hs2 _).mono ?_
        clear hs2
        rintro e w106 ⟨rfl, hbn⟩
        have kq := kq.later hbn
        have ku1 := ku1.later hbn
        have kv1 := kv1.later hbn
        have hb := bl_trans hb hbn hb.size
        clear hbn
        obtain ⟨⟨v1c0, v1c1, v1c2, v1c3, v1c4, v1c5⟩, v1f0, v1f1, v1f2, v1f3, v1f4, v1f5⟩ := page_cells kv1
        go_wp2_with (go_at_call 15; refine stop_ (fun Ps hPs => ?_))
        refine hPs ?_
        clear hPs Ps
        clear v1c0 v1f0 v1c1 v1f1 v1c2 v1f2 v1c3 v1f3 v1c4 v1f4 v1c5 v1f5
        refine (k15v _).mono ?_
        clear k15v
        rintro e w107 ⟨rfl, hbn⟩
        have kq := kq.later hbn
        have ku1 := ku1.later hbn
        have kv1 := kv1.later hbn
        have hb := bl_trans hb hbn hb.size
        clear hbn
        go_wp2_with fail
        go_ret
        exact ⟨rfl, hb⟩
  · have kq := kz.page (.int .i64 n) (.int .u8 3) (.int .i64 0) (.int .u8 1) (.int .i64 0) (.int .i64 0)
    have npq := npz
    have leq := hbz
    have hb := below_page (bl_trans HB.out hq1 HB.out.size) (b := wr.heap.size) hbz (.int .i64 n) (.int .u8 3) (.int .i64 0) (.int .u8 1) (.int .i64 0) (.int .i64 0)
    have kp := kp.page_far (b := wr.heap.size) npz (.int .i64 n) (.int .u8 3) (.int .i64 0) (.int .u8 1) (.int .i64 0) (.int .i64 0)
    obtain ⟨W, hW⟩ : ∃ W, W = ((((((v1.setCell ⟨wr.heap.size, 0, none⟩ (.int .i64 n)).setCell ⟨wr.heap.size, 1, none⟩ (.int .u8 3)).setCell ⟨wr.heap.size, 2, none⟩ (.int .i64 0)).setCell ⟨wr.heap.size, 3, none⟩ (.int .u8 1)).setCell ⟨wr.heap.size, 4, none⟩ (.int .i64 0)).setCell ⟨wr.heap.size, 5, none⟩ (.int .i64 0)) := ⟨_, rfl⟩
    rw [← hW] at kp kq hb ⊢
    clear hW hq0 kz zc0 zc1 zc2 zc3 zc4 zc5 zf0 zf1 zf2 zf3 zf4 zf5
    obtain ⟨bq, hbq⟩ : ∃ b, b = wr.heap.size := ⟨_, rfl⟩
    rw [← hbq] at kq npq leq ⊢
    clear hbq hq1 ka kw kv pc0 pc1 pc2 pc3 pc4 pc5 HB HKP
    have lep := hbs
    obtain ⟨⟨pc0, pc1, pc2, pc3, pc4, pc5⟩, pf0, pf1, pf2, pf3, pf4, pf5⟩ := page_cells kp
    obtain ⟨⟨qc0, qc1, qc2, qc3, qc4, qc5⟩, qf0, qf1, qf2, qf3, qf4, qf5⟩ := page_cells kq
    go_wp2_with (go_at_call 16; refine stop_ (fun Ps hPs => ?_))
    refine hPs ?_
    clear hPs Ps
    clear pc0 pf0 pc1 pf1 pc2 pf2 pc3 pf3 pc4 pf4 pc5 pf5
    clear qc0 qf0 qc1 qf1 qc2 qf2 qc3 qf3 qc4 qf4 qc5 qf5
    refine (h16 _).mono ?_
    clear h16
    rintro e w1 ⟨rfl, hbn⟩
    have kp := kp.later hbn
    have kq := kq.later hbn
    have hb := bl_trans hb hbn hb.size
    clear hbn
    obtain ⟨⟨qc0, qc1, qc2, qc3, qc4, qc5⟩, qf0, qf1, qf2, qf3, qf4, qf5⟩ := page_cells kq
    go_wp2_with (go_at_call 15; refine stop_ (fun Ps hPs => ?_))
    refine hPs ?_
    clear hPs Ps
    clear qc0 qf0 qc1 qf1 qc2 qf2 qc3 qf3 qc4 qf4 qc5 qf5
    refine (h15 _).mono ?_
    clear h15
    rintro e w2 ⟨rfl, hbn⟩
    have kp := kp.later hbn
    have kq := kq.later hbn
    have hb := bl_trans hb hbn hb.size
    clear hbn
    obtain ⟨⟨qc0, qc1, qc2, qc3, qc4, qc5⟩, qf0, qf1, qf2, qf3, qf4, qf5⟩ := page_cells kq
    go_wp2_with (go_at_call 8; refine stop_ (fun Ps hPs => ?_))
    refine hPs ?_
    clear hPs Ps
    clear qc0 qf0 qc1 qf1 qc2 qf2 qc3 qf3 qc4 qf4 qc5 qf5
    refine (h8 _).mono ?_
    clear h8
    rintro e w3 ⟨rfl, hbn⟩
    have kp := kp.later hbn
    have kq := kq.later hbn
    have hb := bl_trans hb hbn hb.size
    clear hbn
    have jq := kq.alloc (.cells #[.int .i64 0, .int .u8 0, .int .i64 0, .int .u8 0, .int .i64 0, .int .i64 0] 25)
    obtain ⟨⟨qc0, qc1, qc2, qc3, qc4, qc5⟩, qf0, qf1, qf2, qf3, qf4, qf5⟩ := page_cells jq
    clear jq
    go_wp2_with (go_at_call 10; refine stop_ (fun Ps hPs => ?_))
    refine hPs ?_
    clear hPs Ps
    clear qc0 qf0 qc1 qf1 qc2 qf2 qc3 qf3 qc4 qf4 qc5 qf5
    have kx1 := Blk.new w3 25 #[.int .i64 0, .int .u8 0, .int .i64 0, .int .u8 0, .int .i64 0, .int .i64 0]
    have npx1 : bp ≠ w3.heap.size := Nat.ne_of_lt kp.lt
    have kp := kp.alloc (.cells #[.int .i64 0, .int .u8 0, .int .i64 0, .int .u8 0, .int .i64 0, .int .i64 0] 25)
    have nqx1 : bq ≠ w3.heap.size := Nat.ne_of_lt kq.lt
    have kq := kq.alloc (.cells #[.int .i64 0, .int .u8 0, .int .i64 0, .int .u8 0, .int .i64 0, .int .i64 0] 25)
    have lex1 := hb.size
    have hb := hb.alloc hb.size (.cells #[.int .i64 0, .int .u8 0, .int .i64 0, .int .u8 0, .int .i64 0, .int .i64 0] 25)
    generalize hBx1 : w3.heap.size = bx1 at *
    clear hBx1
    generalize hW : World.alloc w3 _ = w4 at *
    clear hW
    refine (h10 _).mono ?_
    clear h10
    rintro e w5 ⟨rfl, hbn⟩
    have kp := kp.later hbn
    have kq := kq.later hbn
    have kx1 := kx1.later hbn
    have hb := bl_trans hb hbn hb.size
    clear hbn
    have jq := kq.alloc (.cells #[.int .i64 0, .int .u8 0, .int .i64 0, .int .u8 0, .int .i64 0, .int .i64 0] 25)
    obtain ⟨⟨qc0, qc1, qc2, qc3, qc4, qc5⟩, qf0, qf1, qf2, qf3, qf4, qf5⟩ := page_cells jq
    clear jq
    go_wp2_with (go_at_call 11; refine stop_ (fun Ps hPs => ?_))
    refine hPs ?_
    clear hPs Ps
    clear qc0 qf0 qc1 qf1 qc2 qf2 qc3 qf3 qc4 qf4 qc5 qf5
    have kx2 := Blk.new w5 25 #[.int .i64 0, .int .u8 0, .int .i64 0, .int .u8 0, .int .i64 0, .int .i64 0]
    have npx2 : bp ≠ w5.heap.size := Nat.ne_of_lt kp.lt
    have kp := kp.alloc (.cells #[.int .i64 0, .int .u8 0, .int .i64 0, .int .u8 0, .int .i64 0, .int .i64 0] 25)
    have nqx2 : bq ≠ w5.heap.size := Nat.ne_of_lt kq.lt
    have kq := kq.alloc (.cells #[.int .i64 0, .int .u8 0, .int .i64 0, .int .u8 0, .int .i64 0, .int .i64 0] 25)
    have nx1x2 : bx1 ≠ w5.heap.size := Nat.ne_of_lt kx1.lt
    have kx1 := kx1.alloc (.cells #[.int .i64 0, .int .u8 0, .int .i64 0, .int .u8 0, .int .i64 0, .int .i64 0] 25)
    have lex2 := hb.size
    have hb := hb.alloc hb.size (.cells #[.int .i64 0, .int .u8 0, .int .i64 0, .int .u8 0, .int .i64 0, .int .i64 0] 25)
    generalize hBx2 : w5.heap.size = bx2 at *
    clear hBx2
    generalize hW : World.alloc w5 _ = w6 at *
    clear hW
    refine (h11 _).mono ?_
    clear h11
    rintro e w7 ⟨rfl, hbn⟩
    have kp := kp.later hbn
    have kq := kq.later hbn
    have kx1 := kx1.later hbn
    have kx2 := kx2.later hbn
    have hb := bl_trans hb hbn hb.size
    clear hbn
    have jq := kq.alloc (.cells #[.int .i64 0, .int .u8 0, .int .i64 0, .int .u8 0, .int .i64 0, .int .i64 0] 25)
    obtain ⟨⟨qc0, qc1, qc2, qc3, qc4, qc5⟩, qf0, qf1, qf2, qf3, qf4, qf5⟩ := page_cells jq
    clear jq
    go_wp2_with (go_at_call 7; refine stop_ (fun Ps hPs => ?_))
    refine hPs ?_
    clear hPs Ps
    clear qc0 qf0 qc1 qf1 qc2 qf2 qc3 qf3 qc4 qf4 qc5 qf5
    have kx3 := Blk.new w7 25 #[.int .i64 0, .int .u8 0, .int .i64 0, .int .u8 0, .int .i64 0, .int .i64 0]
    have npx3 : bp ≠ w7.heap.size := Nat.ne_of_lt kp.lt
    have kp := kp.alloc (.cells #[.int .i64 0, .int .u8 0, .int .i64 0, .int .u8 0, .int .i64 0, .int .i64 0] 25)
    have nqx3 : bq ≠ w7.heap.size := Nat.ne_of_lt kq.lt
    have kq := kq.alloc (.cells #[.int .i64 0, .int .u8 0, .int .i64 0, .int .u8 0, .int .i64 0, .int .i64 0] 25)
    have nx1x3 : bx1 ≠ w7.heap.size := Nat.ne_of_lt kx1.lt
    have kx1 := kx1.alloc (.cells #[.int .i64 0, .int .u8 0, .int .i64 0, .int .u8 0, .int .i64 0, .int .i64 0] 25)
    have nx2x3 : bx2 ≠ w7.heap.size := Nat.ne_of_lt kx2.lt
    have kx2 := kx2.alloc (.cells #[.int .i64 0, .int .u8 0, .int .i64 0, .int .u8 0, .int .i64 0, .int .i64 0] 25)
    have lex3 := hb.size
    have hb := hb.alloc hb.size (.cells #[.int .i64 0, .int .u8 0, .int .i64 0, .int .u8 0, .int .i64 0, .int .i64 0] 25)
    generalize hBx3 : w7.heap.size = bx3 at *
    clear hBx3
    generalize hW : World.alloc w7 _ = w8 at *
    clear hW
    refine (h7 _).mono ?_
    clear h7
    rintro e w9 ⟨rfl, hbn⟩
    have kp := kp.later hbn
    have kq := kq.later hbn
    have kx1 := kx1.later hbn
    have kx2 := kx2.later hbn
    have kx3 := kx3.later hbn
    have hb := bl_trans hb hbn hb.size
    clear hbn
    go_wp2_with (go_at_call 17; refine stop_ (fun Ps hPs => ?_))
    refine hPs ?_
    clear hPs Ps
    have kx4 := Blk.new w9 25 #[.int .i64 0, .int .u8 0, .int .i64 0, .int .u8 0, .int .i64 0, .int .i64 0]
    have npx4 : bp ≠ w9.heap.size := Nat.ne_of_lt kp.lt
    have kp := kp.alloc (.cells #[.int .i64 0, .int .u8 0, .int .i64 0, .int .u8 0, .int .i64 0, .int .i64 0] 25)
    have nqx4 : bq ≠ w9.heap.size := Nat.ne_of_lt kq.lt
    have kq := kq.alloc (.cells #[.int .i64 0, .int .u8 0, .int .i64 0, .int .u8 0, .int .i64 0, .int .i64 0] 25)
    have nx1x4 : bx1 ≠ w9.heap.size := Nat.ne_of_lt kx1.lt
    have kx1 := kx1.alloc (.cells #[.int .i64 0, .int .u8 0, .int .i64 0, .int .u8 0, .int .i64 0, .int .i64 0] 25)
    have nx2x4 : bx2 ≠ w9.heap.size := Nat.ne_of_lt kx2.lt
    have kx2 := kx2.alloc (.cells #[.int .i64 0, .int .u8 0, .int .i64 0, .int .u8 0, .int .i64 0, .int .i64 0] 25)
    have nx3x4 : bx3 ≠ w9.heap.size := Nat.ne_of_lt kx3.lt
    have kx3 := kx3.alloc (.cells #[.int .i64 0, .int .u8 0, .int .i64 0, .int .u8 0, .int .i64 0, .int .i64 0] 25)
    have lex4 := hb.size
    have hb := hb.alloc hb.size (.cells #[.int .i64 0, .int .u8 0, .int .i64 0, .int .u8 0, .int .i64 0, .int .i64 0] 25)
    generalize hBx4 : w9.heap.size = bx4 at *
    clear hBx4
    generalize hW : World.alloc w9 _ = w10 at *
    clear hW
    refine (hpf _).mono ?_
    clear hpf
    rintro e v9 ⟨rfl, _, _, rfl⟩
    go_wp2_with (go_at_call 17; refine stop_ (fun Ps hPs => ?_))
    refine hPs ?_
    clear hPs Ps
    refine (hpb _).mono ?_
    clear hpb
    rintro e v9 ⟨rfl, _, _, rfl⟩
    obtain ⟨⟨qc0, qc1, qc2, qc3, qc4, qc5⟩, qf0, qf1, qf2, qf3, qf4, qf5⟩ := page_cells kq
    go_wp2_with (go_at_call 9; refine stop_ (fun Ps hPs => ?_))
    refine hPs ?_
    clear hPs Ps
    clear qc0 qf0 qc1 qf1 qc2 qf2 qc3 qf3 qc4 qf4 qc5 qf5
    refine (h9 _).mono ?_
    clear h9
    rintro e w11 ⟨rfl, hbn⟩
    have kp := kp.later hbn
    have kq := kq.later hbn
    have kx1 := kx1.later hbn
    have kx2 := kx2.later hbn
    have kx3 := kx3.later hbn
    have kx4 := kx4.later hbn
    have hb := bl_trans hb hbn hb.size
    clear hbn
    clear kx1
    clear kx2
    clear kx3
    clear kx4
    clear kp
    go_wp2_with (go_at_call 8; refine stop_ (fun Ps hPs => ?_))
    refine hPs ?_
    clear hPs Ps
    have kr1 := Blk.new w11 25 #[.int .i64 n, .int .u8 3, .int .i64 0, .int .u8 2, .int .i64 f, .int .i64 b]
    have nqr1 : bq ≠ w11.heap.size := Nat.ne_of_lt kq.lt
    have kq := kq.alloc (.cells #[.int .i64 n, .int .u8 3, .int .i64 0, .int .u8 2, .int .i64 f, .int .i64 b] 25)
    have ler1 := hb.size
    have hb := hb.alloc hb.size (.cells #[.int .i64 n, .int .u8 3, .int .i64 0, .int .u8 2, .int .i64 f, .int .i64 b] 25)
    generalize hBr1 : w11.heap.size = br1 at *
    clear hBr1
    generalize hW : World.alloc w11 _ = w12 at *
    clear hW
    refine (h8b _).mono ?_
    clear h8b
    rintro e w13 ⟨rfl, hbn⟩
    have kq := kq.later hbn
    have kr1 := kr1.later hbn
    have hb := bl_trans hb hbn hb.size
    clear hbn
    go_wp2_with (go_at_call 10; refine stop_ (fun Ps hPs => ?_))
    refine hPs ?_
    clear hPs Ps
    have ks1 := Blk.new w13 25 #[.int .i64 n, .int .u8 3, .int .i64 0, .int .u8 3, .int .i64 f, .int .i64 b]
    have nqs1 : bq ≠ w13.heap.size := Nat.ne_of_lt kq.lt
    have kq := kq.alloc (.cells #[.int .i64 n, .int .u8 3, .int .i64 0, .int .u8 3, .int .i64 f, .int .i64 b] 25)
    have nr1s1 : br1 ≠ w13.heap.size := Nat.ne_of_lt kr1.lt
    have kr1 := kr1.alloc (.cells #[.int .i64 n, .int .u8 3, .int .i64 0, .int .u8 3, .int .i64 f, .int .i64 b] 25)
    have les1 := hb.size
    have hb := hb.alloc hb.size (.cells #[.int .i64 n, .int .u8 3, .int .i64 0, .int .u8 3, .int .i64 f, .int .i64 b] 25)
    generalize hBs1 : w13.heap.size = bs1 at *
    clear hBs1
    generalize hW : World.alloc w13 _ = w14 at *
    clear hW
    refine (h10b _).mono ?_
    clear h10b
    rintro e w15 ⟨rfl, hbn⟩
    have kq := kq.later hbn
    have kr1 := kr1.later hbn
    have ks1 := ks1.later hbn
    have hb := bl_trans hb hbn hb.size
    clear hbn
    go_wp2_with (go_at_call 11; refine stop_ (fun Ps hPs => ?_))
    refine hPs ?_
    clear hPs Ps
    have kt1 := Blk.new w15 25 #[.int .i64 n, .int .u8 3, .int .i64 0, .int .u8 4, .int .i64 f, .int .i64 b]
    have nqt1 : bq ≠ w15.heap.size := Nat.ne_of_lt kq.lt
    have kq := kq.alloc (.cells #[.int .i64 n, .int .u8 3, .int .i64 0, .int .u8 4, .int .i64 f, .int .i64 b] 25)
    have nr1t1 : br1 ≠ w15.heap.size := Nat.ne_of_lt kr1.lt
    have kr1 := kr1.alloc (.cells #[.int .i64 n, .int .u8 3, .int .i64 0, .int .u8 4, .int .i64 f, .int .i64 b] 25)
    have ns1t1 : bs1 ≠ w15.heap.size := Nat.ne_of_lt ks1.lt
    have ks1 := ks1.alloc (.cells #[.int .i64 n, .int .u8 3, .int .i64 0, .int .u8 4, .int .i64 f, .int .i64 b] 25)
    have let1 := hb.size
    have hb := hb.alloc hb.size (.cells #[.int .i64 n, .int .u8 3, .int .i64 0, .int .u8 4, .int .i64 f, .int .i64 b] 25)
    generalize hBt1 : w15.heap.size = bt1 at *
    clear hBt1
    generalize hW : World.alloc w15 _ = w16 at *
    clear hW
    refine (h11b _).mono ?_
    clear h11b
    rintro e w17 ⟨rfl, hbn⟩
    have kq := kq.later hbn
    have kr1 := kr1.later hbn
    have ks1 := ks1.later hbn
    have kt1 := kt1.later hbn
    have hb := bl_trans hb hbn hb.size
    clear hbn
    have jr1 := kr1.alloc (.cells #[.int .i64 n, .int .u8 2, .int .i64 0, .int .u8 0, .int .i64 0, .int .i64 0] 25)
    obtain ⟨⟨r1c0, r1c1, r1c2, r1c3, r1c4, r1c5⟩, r1f0, r1f1, r1f2, r1f3, r1f4, r1f5⟩ := page_cells jr1
    clear jr1
    have js1 := ks1.alloc (.cells #[.int .i64 n, .int .u8 2, .int .i64 0, .int .u8 0, .int .i64 0, .int .i64 0] 25)
    obtain ⟨⟨s1c0, s1c1, s1c2, s1c3, s1c4, s1c5⟩, s1f0, s1f1, s1f2, s1f3, s1f4, s1f5⟩ := page_cells js1
    clear js1
    have jt1 := kt1.alloc (.cells #[.int .i64 n, .int .u8 2, .int .i64 0, .int .u8 0, .int .i64 0, .int .i64 0] 25)
    obtain ⟨⟨t1c0, t1c1, t1c2, t1c3, t1c4, t1c5⟩, t1f0, t1f1, t1f2, t1f3, t1f4, t1f5⟩ := page_cells jt1
    clear jt1
    go_wp2_with fail
    clear r1c0 r1f0 r1c1 r1f1 r1c2 r1f2 r1c3 r1f3 r1c4 r1f4 r1c5 r1f5
    clear s1c0 s1f0 s1c1 s1f1 s1c2 s1f2 s1c3 s1f3 s1c4 s1f4 s1c5 s1f5
    clear t1c0 t1f0 t1c1 t1f1 t1c2 t1f2 t1c3 t1f3 t1c4 t1f4 t1c5 t1f5
    have kL := Blk.new2 w17 (.cells #[.int .i64 n, .int .u8 2, .int .i64 0, .int .u8 0, .int .i64 0, .int .i64 0] 25) 25 #[.int .i64 n, .int .u8 3, .int .i64 0, .int .u8 2, .int .i64 f, .int .i64 b, .int .i64 n, .int .u8 3, .int .i64 0, .int .u8 3, .int .i64 f, .int .i64 b, .int .i64 n, .int .u8 3, .int .i64 0, .int .u8 4, .int .i64 f, .int .i64 b]
    have ku1 := (Blk.new w17 25 #[.int .i64 n, .int .u8 2, .int .i64 0, .int .u8 0, .int .i64 0, .int .i64 0]).alloc (.cells #[.int .i64 n, .int .u8 3, .int .i64 0, .int .u8 2, .int .i64 f, .int .i64 b, .int .i64 n, .int .u8 3, .int .i64 0, .int .u8 3, .int .i64 f, .int .i64 b, .int .i64 n, .int .u8 3, .int .i64 0, .int .u8 4, .int .i64 f, .int .i64 b] 25)
    have kq := (kq.alloc (.cells #[.int .i64 n, .int .u8 2, .int .i64 0, .int .u8 0, .int .i64 0, .int .i64 0] 25)).alloc (.cells #[.int .i64 n, .int .u8 3, .int .i64 0, .int .u8 2, .int .i64 f, .int .i64 b, .int .i64 n, .int .u8 3, .int .i64 0, .int .u8 3, .int .i64 f, .int .i64 b, .int .i64 n, .int .u8 3, .int .i64 0, .int .u8 4, .int .i64 f, .int .i64 b] 25)
    have hbz9 := hb.size
    have hb := (hb.alloc hb.size (.cells #[.int .i64 n, .int .u8 2, .int .i64 0, .int .u8 0, .int .i64 0, .int .i64 0] 25)).alloc (by simp; omega) (.cells #[.int .i64 n, .int .u8 3, .int .i64 0, .int .u8 2, .int .i64 f, .int .i64 b, .int .i64 n, .int .u8 3, .int .i64 0, .int .u8 3, .int .i64 f, .int .i64 b, .int .i64 n, .int .u8 3, .int .i64 0, .int .u8 4, .int .i64 f, .int .i64 b] 25)
    obtain ⟨W9, hW9⟩ : ∃ W, W = (w17.alloc (.cells #[.int .i64 n, .int .u8 2, .int .i64 0, .int .u8 0, .int .i64 0, .int .i64 0] 25)).alloc (.cells #[.int .i64 n, .int .u8 3, .int .i64 0, .int .u8 2, .int .i64 f, .int .i64 b, .int .i64 n, .int .u8 3, .int .i64 0, .int .u8 3, .int .i64 f, .int .i64 b, .int .i64 n, .int .u8 3, .int .i64 0, .int .u8 4, .int .i64 f, .int .i64 b] 25) := ⟨_, rfl⟩
    rw [← hW9] at kL ku1 kq hb ⊢
    clear hW9
    obtain ⟨bu1, hbu⟩ : ∃ b, b = w17.heap.size := ⟨_, rfl⟩
    rw [← hbu] at kL ku1 hbz9 ⊢
    clear hbu kr1 ks1 kt1
    have HKL := hid kL
    have HKU := hid ku1
    have HKQ := hid kq
    have HBB := hid hb
    clear kL ku1 kq hb
    go_loopg [31] 3 (fun k i wr => ∃ j : Nat, j ≤ 3 ∧ k = 3 - j ∧ i = .int .i64 j ∧ Blk wr (bu1 + 1) 25 #[.int .i64 n, .int .u8 3, .int .i64 0, .int .u8 2, .int .i64 f, .int .i64 b, .int .i64 n, .int .u8 3, .int .i64 0, .int .u8 3, .int .i64 f, .int .i64 b, .int .i64 n, .int .u8 3, .int .i64 0, .int .u8 4, .int .i64 f, .int .i64 b] ∧ Blk wr bu1 25 #[.int .i64 n, .int .u8 2, .int .i64 0, .int .u8 0, .int .i64 0, .int .i64 0] ∧ Blk wr bq 25 #[.int .i64 n, .int .u8 3, .int .i64 0, .int .u8 1, .int .i64 0, .int .i64 0] ∧ Below w.heap.size w wr)
    case atStart => exact ⟨0, by omega, rfl, rfl, HKL.out, HKU.out, HKQ.out, HBB.out⟩
    case round =>
      obtain ⟨j, hj, rfl, rfl, kL, ku1, kq, hb⟩ := hrel
      clear HKL HKU HKQ HBB
      by_cases hlt : j < 3
      · obtain ⟨ph, hph⟩ : ∃ ph : Int, (j = 0 ∧ ph = 2) ∨ (j = 1 ∧ ph = 3) ∨ (j = 2 ∧ ph = 4) := by
          obtain rfl | rfl | rfl : j = 0 ∨ j = 1 ∨ j = 2 := by omega
          · exact ⟨2, .inl ⟨rfl, rfl⟩⟩
          · exact ⟨3, .inr (.inl ⟨rfl, rfl⟩)⟩
          · exact ⟨4, .inr (.inr ⟨rfl, rfl⟩)⟩
        have g18j := g18 ph (by omega) (by omega)
        have g15j := g15 ph (by omega) (by omega)
        have hji : (j : Int) < (3 : Int) := by omega
        have look : ∀ v : World, Blk v (bu1 + 1) 25 #[.int .i64 n, .int .u8 3, .int .i64 0, .int .u8 2, .int .i64 f, .int .i64 b, .int .i64 n, .int .u8 3, .int .i64 0, .int .u8 3, .int .i64 f, .int .i64 b, .int .i64 n, .int .u8 3, .int .i64 0, .int .u8 4, .int .i64 f, .int .i64 b] → v.cell? ⟨bu1 + 1, j * 6, none⟩ = some (Value.int .i64 n) ∧ v.cell? ⟨bu1 + 1, j * 6 + 1, none⟩ = some (Value.int .u8 3) ∧ v.cell? ⟨bu1 + 1, j * 6 + 2, none⟩ = some (Value.int .i64 0) ∧ v.cell? ⟨bu1 + 1, j * 6 + 3, none⟩ = some (Value.int .u8 ph) ∧ v.cell? ⟨bu1 + 1, j * 6 + 4, none⟩ = some (Value.int .i64 f) ∧ v.cell? ⟨bu1 + 1, j * 6 + 5, none⟩ = some (Value.int .i64 b) := by
          intro v hv
          rcases hph with ⟨rfl, rfl⟩ | ⟨rfl, rfl⟩ | ⟨rfl, rfl⟩
          · exact ⟨hv.cell 0, hv.cell 1, hv.cell 2, hv.cell 3, hv.cell 4, hv.cell 5⟩
          · exact ⟨hv.cell 6, hv.cell 7, hv.cell 8, hv.cell 9, hv.cell 10, hv.cell 11⟩
          · exact ⟨hv.cell 12, hv.cell 13, hv.cell 14, hv.cell 15, hv.cell 16, hv.cell 17⟩
        have LOOK := hid look
        have HLT := hid hlt
        clear look hlt hph
        obtain ⟨l0, l1, l2, l3, l4, l5⟩ := LOOK.out _ kL
        have q0 : wr.cell? ⟨bq, 0, none⟩ = some (.int .i64 n) := kq.cell 0
        go_wp2_with fail
        go_region_held3 (fun w' => w'.cell? ⟨bu1 + 1, j * 6, none⟩ = some (Value.int .i64 n) ∧ w'.cell? ⟨bu1 + 1, j * 6 + 1, none⟩ = some (Value.int .u8 3) ∧ w'.cell? ⟨bu1 + 1, j * 6 + 2, none⟩ = some (Value.int .i64 0) ∧ w'.cell? ⟨bu1 + 1, j * 6 + 3, none⟩ = some (Value.int .u8 ph) ∧ w'.cell? ⟨bu1 + 1, j * 6 + 4, none⟩ = some (Value.int .i64 f) ∧ w'.cell? ⟨bu1 + 1, j * 6 + 5, none⟩ = some (Value.int .i64 b) ∧ w'.cell? ⟨bq, 0, none⟩ = some (.int .i64 n)) (exact ⟨l0, l1, l2, l3, l4, l5, q0⟩)
          (first
            | (go_at_call 18; refine (g18j _).mono ?_; rintro e' v1 ⟨rfl, hq0⟩; have hq1 := below_src hq0; have kL := kL.later hq1; have ku1 := ku1.later hq1; have kq := kq.later hq1; have hb := bl_trans hb hq1 hb.size; obtain ⟨l0, l1, l2, l3, l4, l5⟩ := LOOK.out _ kL; have q0 : v1.cell? ⟨bq, 0, none⟩ = some (.int .i64 n) := kq.cell 0)
            | (go_at_call 15; refine (g15j _).mono ?_; rintro e' v2 ⟨rfl, hq0⟩; have hq1 := hq0; have kL := kL.later hq1; have ku1 := ku1.later hq1; have kq := kq.later hq1; have hb := bl_trans hb hq1 hb.size; obtain ⟨l0, l1, l2, l3, l4, l5⟩ := LOOK.out _ kL; have q0 : v2.cell? ⟨bq, 0, none⟩ = some (.int .i64 n) := kq.cell 0))
        clear l0 l1 l2 l3 l4 l5 q0
        go_wp2_with fail
        go_roundg (3 - (j + 1))
        case measure => have := HLT.out; omega
        case rel => exact ⟨j + 1, by have := HLT.out; omega, rfl, by go_num, kL, ku1, kq, hb⟩
      · obtain rfl : j = 3 := by omega
        clear kL
        obtain ⟨⟨u1c0, u1c1, u1c2, u1c3, u1c4, u1c5⟩, u1f0, u1f1, u1f2, u1f3, u1f4, u1f5⟩ := page_cells ku1
        go_wp2_with (go_at_call 7; refine stop_ (fun Ps hPs => ?_))
        refine hPs ?_
        clear hPs Ps
        clear u1c0 u1f0 u1c1 u1f1 u1c2 u1f2 u1c3 u1f3 u1c4 u1f4 u1c5 u1f5
        refine (h7b _).mono ?_
        clear h7b
        rintro e w101 ⟨rfl, hbn⟩
        have kq := kq.later hbn
        have ku1 := ku1.later hbn
        have hb := bl_trans hb hbn hb.size
        clear hbn
        have ju1 := ku1.alloc (.cells #[.int .i64 (n + 1), .int .u8 1, .int .i64 f, .int .u8 0, .int .i64 0, .int .i64 0] 25)
        obtain ⟨⟨u1c0, u1c1, u1c2, u1c3, u1c4, u1c5⟩, u1f0, u1f1, u1f2, u1f3, u1f4, u1f5⟩ := page_cells ju1
        clear ju1
        have jq := kq.alloc (.cells #[.int .i64 (n + 1), .int .u8 1, .int .i64 f, .int .u8 0, .int .i64 0, .int .i64 0] 25)
        obtain ⟨⟨qc0, qc1, qc2, qc3, qc4, qc5⟩, qf0, qf1, qf2, qf3, qf4, qf5⟩ := page_cells jq
        clear jq
        go_wp2_with (go_at_call 12; refine stop_ (fun Ps hPs => ?_))
        refine hPs ?_
        clear hPs Ps
        clear qc0 qf0 qc1 qf1 qc2 qf2 qc3 qf3 qc4 qf4 qc5 qf5
        clear u1c0 u1f0 u1c1 u1f1 u1c2 u1f2 u1c3 u1f3 u1c4 u1f4 u1c5 u1f5
        have kv1 := Blk.new w101 25 #[.int .i64 (n + 1), .int .u8 1, .int .i64 f, .int .u8 0, .int .i64 0, .int .i64 0]
        have nqv1 : bq ≠ w101.heap.size := Nat.ne_of_lt kq.lt
        have kq := kq.alloc (.cells #[.int .i64 (n + 1), .int .u8 1, .int .i64 f, .int .u8 0, .int .i64 0, .int .i64 0] 25)
        have nu1v1 : bu1 ≠ w101.heap.size := Nat.ne_of_lt ku1.lt
        have ku1 := ku1.alloc (.cells #[.int .i64 (n + 1), .int .u8 1, .int .i64 f, .int .u8 0, .int .i64 0, .int .i64 0] 25)
        have lev1 := hb.size
        have hb := hb.alloc hb.size (.cells #[.int .i64 (n + 1), .int .u8 1, .int .i64 f, .int .u8 0, .int .i64 0, .int .i64 0] 25)
        generalize hBv1 : w101.heap.size = bv1 at *
        clear hBv1
        generalize hW : World.alloc w101 _ = w102 at *
        clear hW
        refine (hs1 _).mono ?_
        clear hs1
        rintro e w103 ⟨rfl, hbn⟩
        have kq := kq.later hbn
        have ku1 := ku1.later hbn
        have kv1 := kv1.later hbn
        have hb := bl_trans hb hbn hb.size
        clear hbn
        obtain ⟨⟨u1c0, u1c1, u1c2, u1c3, u1c4, u1c5⟩, u1f0, u1f1, u1f2, u1f3, u1f4, u1f5⟩ := page_cells ku1
        go_wp2_with (go_at_call 15; refine stop_ (fun Ps hPs => ?_))
        refine hPs ?_
        clear hPs Ps
        clear u1c0 u1f0 u1c1 u1f1 u1c2 u1f2 u1c3 u1f3 u1c4 u1f4 u1c5 u1f5
        refine (k15u _).mono ?_
        clear k15u
        rintro e w104 ⟨rfl, hbn⟩
        have kq := kq.later hbn
        have ku1 := ku1.later hbn
        have kv1 := kv1.later hbn
        have hb := bl_trans hb hbn hb.size
        clear hbn
        obtain ⟨⟨u1c0, u1c1, u1c2, u1c3, u1c4, u1c5⟩, u1f0, u1f1, u1f2, u1f3, u1f4, u1f5⟩ := page_cells ku1
        go_wp2_with (go_at_call 16; refine stop_ (fun Ps hPs => ?_))
        refine hPs ?_
        clear hPs Ps
        clear u1c0 u1f0 u1c1 u1f1 u1c2 u1f2 u1c3 u1f3 u1c4 u1f4 u1c5 u1f5
        refine (k16u _).mono ?_
        clear k16u
        rintro e w105 ⟨rfl, hbn⟩
        have kq := kq.later hbn
        have ku1 := ku1.later hbn
        have kv1 := kv1.later hbn
        have hb := bl_trans hb hbn hb.size
        clear hbn
        obtain ⟨⟨v1c0, v1c1, v1c2, v1c3, v1c4, v1c5⟩, v1f0, v1f1, v1f2, v1f3, v1f4, v1f5⟩ := page_cells kv1
        obtain ⟨⟨qc0, qc1, qc2, qc3, qc4, qc5⟩, qf0, qf1, qf2, qf3, qf4, qf5⟩ := page_cells kq
        go_wp2_with (go_at_call 12; refine stop_ (fun Ps hPs => ?_))
        refine hPs ?_
        clear hPs Ps
        clear qc0 qf0 qc1 qf1 qc2 qf2 qc3 qf3 qc4 qf4 qc5 qf5
        clear v1c0 v1f0 v1c1 v1f1 v1c2 v1f2 v1c3 v1f3 v1c4 v1f4 v1c5 v1f5
        refine (hs2 _).mono ?_
        clear hs2
        rintro e w106 ⟨rfl, hbn⟩
        have kq := kq.later hbn
        have ku1 := ku1.later hbn
        have kv1 := kv1.later hbn
        have hb := bl_trans hb hbn hb.size
        clear hbn
        obtain ⟨⟨v1c0, v1c1, v1c2, v1c3, v1c4, v1c5⟩, v1f0, v1f1, v1f2, v1f3, v1f4, v1f5⟩ := page_cells kv1
        go_wp2_with (go_at_call 15; refine stop_ (fun Ps hPs => ?_))
        refine hPs ?_
        clear hPs Ps
        clear v1c0 v1f0 v1c1 v1f1 v1c2 v1f2 v1c3 v1f3 v1c4 v1f4 v1c5 v1f5
        refine (k15v _).mono ?_
        clear k15v
        rintro e w107 ⟨rfl, hbn⟩
        have kq := kq.later hbn
        have ku1 := ku1.later hbn
        have kv1 := kv1.later hbn
        have hb := bl_trans hb hbn hb.size
        clear hbn
        go_wp2_with fail
        go_ret
        exact ⟨rfl, hb⟩
  · have kq := kz.page (.int .i64 n) (.int .u8 3) (.int .i64 0) (.int .u8 1) (.int .i64 0) (.int .i64 0)
    have npq := npz
    have leq := hbz
    have hb := below_page (bl_trans HB.out hq1 HB.out.size) (b := wr.heap.size) hbz (.int .i64 n) (.int .u8 3) (.int .i64 0) (.int .u8 1) (.int .i64 0) (.int .i64 0)
    have kp := kp.page_far (b := wr.heap.size) npz (.int .i64 n) (.int .u8 3) (.int .i64 0) (.int .u8 1) (.int .i64 0) (.int .i64 0)
    obtain ⟨W, hW⟩ : ∃ W, W = ((((((v1.setCell ⟨wr.heap.size, 0, none⟩ (.int .i64 n)).setCell ⟨wr.heap.size, 1, none⟩ (.int .u8 3)).setCell ⟨wr.heap.size, 2, none⟩ (.int .i64 0)).setCell ⟨wr.heap.size, 3, none⟩ (.int .u8 1)).setCell ⟨wr.heap.size, 4, none⟩ (.int .i64 0)).setCell ⟨wr.heap.size, 5, none⟩ (.int .i64 0)) := ⟨_, rfl⟩
    rw [← hW] at kp kq hb ⊢
    clear hW hq0 kz zc0 zc1 zc2 zc3 zc4 zc5 zf0 zf1 zf2 zf3 zf4 zf5
    obtain ⟨bq, hbq⟩ : ∃ b, b = wr.heap.size := ⟨_, rfl⟩
    rw [← hbq] at kq npq leq ⊢
    clear hbq hq1 ka kw kv pc0 pc1 pc2 pc3 pc4 pc5 HB HKP
    have lep := hbs
    obtain ⟨⟨pc0, pc1, pc2, pc3, pc4, pc5⟩, pf0, pf1, pf2, pf3, pf4, pf5⟩ := page_cells kp
    obtain ⟨⟨qc0, qc1, qc2, qc3, qc4, qc5⟩, qf0, qf1, qf2, qf3, qf4, qf5⟩ := page_cells kq
    go_wp2_with (go_at_call 16; refine stop_ (fun Ps hPs => ?_))
    refine hPs ?_
    clear hPs Ps
    clear pc0 pf0 pc1 pf1 pc2 pf2 pc3 pf3 pc4 pf4 pc5 pf5
    clear qc0 qf0 qc1 qf1 qc2 qf2 qc3 qf3 qc4 qf4 qc5 qf5
    refine (h16 _).mono ?_
    clear h16
    rintro e w1 ⟨rfl, hbn⟩
    have kp := kp.later hbn
    have kq := kq.later hbn
    have hb := bl_trans hb hbn hb.size
    clear hbn
    obtain ⟨⟨qc0, qc1, qc2, qc3, qc4, qc5⟩, qf0, qf1, qf2, qf3, qf4, qf5⟩ := page_cells kq
    go_wp2_with (go_at_call 15; refine stop_ (fun Ps hPs => ?_))
    refine hPs ?_
    clear hPs Ps
    clear qc0 qf0 qc1 qf1 qc2 qf2 qc3 qf3 qc4 qf4 qc5 qf5
    refine (h15 _).mono ?_
    clear h15
    rintro e w2 ⟨rfl, hbn⟩
    have kp := kp.later hbn
    have kq := kq.later hbn
    have hb := bl_trans hb hbn hb.size
    clear hbn
    obtain ⟨⟨qc0, qc1, qc2, qc3, qc4, qc5⟩, qf0, qf1, qf2, qf3, qf4, qf5⟩ := page_cells kq
    go_wp2_with (go_at_call 8; refine stop_ (fun Ps hPs => ?_))
    refine hPs ?_
    clear hPs Ps
    clear qc0 qf0 qc1 qf1 qc2 qf2 qc3 qf3 qc4 qf4 qc5 qf5
    refine (h8 _).mono ?_
    clear h8
    rintro e w3 ⟨rfl, hbn⟩
    have kp := kp.later hbn
    have kq := kq.later hbn
    have hb := bl_trans hb hbn hb.size
    clear hbn
    have jq := kq.alloc (.cells #[.int .i64 0, .int .u8 0, .int .i64 0, .int .u8 0, .int .i64 0, .int .i64 0] 25)
    obtain ⟨⟨qc0, qc1, qc2, qc3, qc4, qc5⟩, qf0, qf1, qf2, qf3, qf4, qf5⟩ := page_cells jq
    clear jq
    go_wp2_with (go_at_call 10; refine stop_ (fun Ps hPs => ?_))
    refine hPs ?_
    clear hPs Ps
    clear qc0 qf0 qc1 qf1 qc2 qf2 qc3 qf3 qc4 qf4 qc5 qf5
    have kx1 := Blk.new w3 25 #[.int .i64 0, .int .u8 0, .int .i64 0, .int .u8 0, .int .i64 0, .int .i64 0]
    have npx1 : bp ≠ w3.heap.size := Nat.ne_of_lt kp.lt
    have kp := kp.alloc (.cells #[.int .i64 0, .int .u8 0, .int .i64 0, .int .u8 0, .int .i64 0, .int .i64 0] 25)
    have nqx1 : bq ≠ w3.heap.size := Nat.ne_of_lt kq.lt
    have kq := kq.alloc (.cells #[.int .i64 0, .int .u8 0, .int .i64 0, .int .u8 0, .int .i64 0, .int .i64 0] 25)
    have lex1 := hb.size
    have hb := hb.alloc hb.size (.cells #[.int .i64 0, .int .u8 0, .int .i64 0, .int .u8 0, .int .i64 0, .int .i64 0] 25)
    generalize hBx1 : w3.heap.size = bx1 at *
    clear hBx1
    generalize hW : World.alloc w3 _ = w4 at *
    clear hW
    refine (h10 _).mono ?_
    clear h10
    rintro e w5 ⟨rfl, hbn⟩
    have kp := kp.later hbn
    have kq := kq.later hbn
    have kx1 := kx1.later hbn
    have hb := bl_trans hb hbn hb.size
    clear hbn
    have jq := kq.alloc (.cells #[.int .i64 0, .int .u8 0, .int .i64 0, .int .u8 0, .int .i64 0, .int .i64 0] 25)
    obtain ⟨⟨qc0, qc1, qc2, qc3, qc4, qc5⟩, qf0, qf1, qf2, qf3, qf4, qf5⟩ := page_cells jq
    clear jq
    go_wp2_with (go_at_call 11; refine stop_ (fun Ps hPs => ?_))
    refine hPs ?_
    clear hPs Ps
    clear qc0 qf0 qc1 qf1 qc2 qf2 qc3 qf3 qc4 qf4 qc5 qf5
    have kx2 := Blk.new w5 25 #[.int .i64 0, .int .u8 0, .int .i64 0, .int .u8 0, .int .i64 0, .int .i64 0]
    have npx2 : bp ≠ w5.heap.size := Nat.ne_of_lt kp.lt
    have kp := kp.alloc (.cells #[.int .i64 0, .int .u8 0, .int .i64 0, .int .u8 0, .int .i64 0, .int .i64 0] 25)
    have nqx2 : bq ≠ w5.heap.size := Nat.ne_of_lt kq.lt
    have kq := kq.alloc (.cells #[.int .i64 0, .int .u8 0, .int .i64 0, .int .u8 0, .int .i64 0, .int .i64 0] 25)
    have nx1x2 : bx1 ≠ w5.heap.size := Nat.ne_of_lt kx1.lt
    have kx1 := kx1.alloc (.cells #[.int .i64 0, .int .u8 0, .int .i64 0, .int .u8 0, .int .i64 0, .int .i64 0] 25)
    have lex2 := hb.size
    have hb := hb.alloc hb.size (.cells #[.int .i64 0, .int .u8 0, .int .i64 0, .int .u8 0, .int .i64 0, .int .i64 0] 25)
    generalize hBx2 : w5.heap.size = bx2 at *
    clear hBx2
    generalize hW : World.alloc w5 _ = w6 at *
    clear hW
    refine (h11 _).mono ?_
    clear h11
    rintro e w7 ⟨rfl, hbn⟩
    have kp := kp.later hbn
    have kq := kq.later hbn
    have kx1 := kx1.later hbn
    have kx2 := kx2.later hbn
    have hb := bl_trans hb hbn hb.size
    clear hbn
    have jq := kq.alloc (.cells #[.int .i64 0, .int .u8 0, .int .i64 0, .int .u8 0, .int .i64 0, .int .i64 0] 25)
    obtain ⟨⟨qc0, qc1, qc2, qc3, qc4, qc5⟩, qf0, qf1, qf2, qf3, qf4, qf5⟩ := page_cells jq
    clear jq
    go_wp2_with (go_at_call 7; refine stop_ (fun Ps hPs => ?_))
    refine hPs ?_
    clear hPs Ps
    clear qc0 qf0 qc1 qf1 qc2 qf2 qc3 qf3 qc4 qf4 qc5 qf5
    have kx3 := Blk.new w7 25 #[.int .i64 0, .int .u8 0, .int .i64 0, .int .u8 0, .int .i64 0, .int .i64 0]
    have npx3 : bp ≠ w7.heap.size := Nat.ne_of_lt kp.lt
    have kp := kp.alloc (.cells #[.int .i64 0, .int .u8 0, .int .i64 0, .int .u8 0, .int .i64 0, .int .i64 0] 25)
    have nqx3 : bq ≠ w7.heap.size := Nat.ne_of_lt kq.lt
    have kq := kq.alloc (.cells #[.int .i64 0, .int .u8 0, .int .i64 0, .int .u8 0, .int .i64 0, .int .i64 0] 25)
    have nx1x3 : bx1 ≠ w7.heap.size := Nat.ne_of_lt kx1.lt
    have kx1 := kx1.alloc (.cells #[.int .i64 0, .int .u8 0, .int .i64 0, .int .u8 0, .int .i64 0, .int .i64 0] 25)
    have nx2x3 : bx2 ≠ w7.heap.size := Nat.ne_of_lt kx2.lt
    have kx2 := kx2.alloc (.cells #[.int .i64 0, .int .u8 0, .int .i64 0, .int .u8 0, .int .i64 0, .int .i64 0] 25)
    have lex3 := hb.size
    have hb := hb.alloc hb.size (.cells #[.int .i64 0, .int .u8 0, .int .i64 0, .int .u8 0, .int .i64 0, .int .i64 0] 25)
    generalize hBx3 : w7.heap.size = bx3 at *
    clear hBx3
    generalize hW : World.alloc w7 _ = w8 at *
    clear hW
    refine (h7 _).mono ?_
    clear h7
    rintro e w9 ⟨rfl, hbn⟩
    have kp := kp.later hbn
    have kq := kq.later hbn
    have kx1 := kx1.later hbn
    have kx2 := kx2.later hbn
    have kx3 := kx3.later hbn
    have hb := bl_trans hb hbn hb.size
    clear hbn
    go_wp2_with (go_at_call 17; refine stop_ (fun Ps hPs => ?_))
    refine hPs ?_
    clear hPs Ps
    have kx4 := Blk.new w9 25 #[.int .i64 0, .int .u8 0, .int .i64 0, .int .u8 0, .int .i64 0, .int .i64 0]
    have npx4 : bp ≠ w9.heap.size := Nat.ne_of_lt kp.lt
    have kp := kp.alloc (.cells #[.int .i64 0, .int .u8 0, .int .i64 0, .int .u8 0, .int .i64 0, .int .i64 0] 25)
    have nqx4 : bq ≠ w9.heap.size := Nat.ne_of_lt kq.lt
    have kq := kq.alloc (.cells #[.int .i64 0, .int .u8 0, .int .i64 0, .int .u8 0, .int .i64 0, .int .i64 0] 25)
    have nx1x4 : bx1 ≠ w9.heap.size := Nat.ne_of_lt kx1.lt
    have kx1 := kx1.alloc (.cells #[.int .i64 0, .int .u8 0, .int .i64 0, .int .u8 0, .int .i64 0, .int .i64 0] 25)
    have nx2x4 : bx2 ≠ w9.heap.size := Nat.ne_of_lt kx2.lt
    have kx2 := kx2.alloc (.cells #[.int .i64 0, .int .u8 0, .int .i64 0, .int .u8 0, .int .i64 0, .int .i64 0] 25)
    have nx3x4 : bx3 ≠ w9.heap.size := Nat.ne_of_lt kx3.lt
    have kx3 := kx3.alloc (.cells #[.int .i64 0, .int .u8 0, .int .i64 0, .int .u8 0, .int .i64 0, .int .i64 0] 25)
    have lex4 := hb.size
    have hb := hb.alloc hb.size (.cells #[.int .i64 0, .int .u8 0, .int .i64 0, .int .u8 0, .int .i64 0, .int .i64 0] 25)
    generalize hBx4 : w9.heap.size = bx4 at *
    clear hBx4
    generalize hW : World.alloc w9 _ = w10 at *
    clear hW
    refine (hpf _).mono ?_
    clear hpf
    rintro e v9 ⟨rfl, _, _, rfl⟩
    go_wp2_with (go_at_call 17; refine stop_ (fun Ps hPs => ?_))
    refine hPs ?_
    clear hPs Ps
    refine (hpb _).mono ?_
    clear hpb
    rintro e v9 ⟨rfl, _, _, rfl⟩
    obtain ⟨⟨qc0, qc1, qc2, qc3, qc4, qc5⟩, qf0, qf1, qf2, qf3, qf4, qf5⟩ := page_cells kq
    go_wp2_with (go_at_call 9; refine stop_ (fun Ps hPs => ?_))
    refine hPs ?_
    clear hPs Ps
    clear qc0 qf0 qc1 qf1 qc2 qf2 qc3 qf3 qc4 qf4 qc5 qf5
    refine (h9 _).mono ?_
    clear h9
    rintro e w11 ⟨rfl, hbn⟩
    have kp := kp.later hbn
    have kq := kq.later hbn
    have kx1 := kx1.later hbn
    have kx2 := kx2.later hbn
    have kx3 := kx3.later hbn
    have kx4 := kx4.later hbn
    have hb := bl_trans hb hbn hb.size
    clear hbn
    clear kx1
    clear kx2
    clear kx3
    clear kx4
    clear kp
    go_wp2_with (go_at_call 8; refine stop_ (fun Ps hPs => ?_))
    refine hPs ?_
    clear hPs Ps
    have kr1 := Blk.new w11 25 #[.int .i64 n, .int .u8 3, .int .i64 0, .int .u8 2, .int .i64 f, .int .i64 b]
    have nqr1 : bq ≠ w11.heap.size := Nat.ne_of_lt kq.lt
    have kq := kq.alloc (.cells #[.int .i64 n, .int .u8 3, .int .i64 0, .int .u8 2, .int .i64 f, .int .i64 b] 25)
    have ler1 := hb.size
    have hb := hb.alloc hb.size (.cells #[.int .i64 n, .int .u8 3, .int .i64 0, .int .u8 2, .int .i64 f, .int .i64 b] 25)
    generalize hBr1 : w11.heap.size = br1 at *
    clear hBr1
    generalize hW : World.alloc w11 _ = w12 at *
    clear hW
    refine (h8b _).mono ?_
    clear h8b
    rintro e w13 ⟨rfl, hbn⟩
    have kq := kq.later hbn
    have kr1 := kr1.later hbn
    have hb := bl_trans hb hbn hb.size
    clear hbn
    go_wp2_with (go_at_call 10; refine stop_ (fun Ps hPs => ?_))
    refine hPs ?_
    clear hPs Ps
    have ks1 := Blk.new w13 25 #[.int .i64 n, .int .u8 3, .int .i64 0, .int .u8 3, .int .i64 f, .int .i64 b]
    have nqs1 : bq ≠ w13.heap.size := Nat.ne_of_lt kq.lt
    have kq := kq.alloc (.cells #[.int .i64 n, .int .u8 3, .int .i64 0, .int .u8 3, .int .i64 f, .int .i64 b] 25)
    have nr1s1 : br1 ≠ w13.heap.size := Nat.ne_of_lt kr1.lt
    have kr1 := kr1.alloc (.cells #[.int .i64 n, .int .u8 3, .int .i64 0, .int .u8 3, .int .i64 f, .int .i64 b] 25)
    have les1 := hb.size
    have hb := hb.alloc hb.size (.cells #[.int .i64 n, .int .u8 3, .int .i64 0, .int .u8 3, .int .i64 f, .int .i64 b] 25)
    generalize hBs1 : w13.heap.size = bs1 at *
    clear hBs1
    generalize hW : World.alloc w13 _ = w14 at *
    clear hW
    refine (h10b _).mono ?_
    clear h10b
    rintro e w15 ⟨rfl, hbn⟩
    have kq := kq.later hbn
    have kr1 := kr1.later hbn
    have ks1 := ks1.later hbn
    have hb := bl_trans hb hbn hb.size
    clear hbn
    go_wp2_with (go_at_call 11; refine stop_ (fun Ps hPs => ?_))
    refine hPs ?_
    clear hPs Ps
    have kt1 := Blk.new w15 25 #[.int .i64 n, .int .u8 3, .int .i64 0, .int .u8 4, .int .i64 f, .int .i64 b]
    have nqt1 : bq ≠ w15.heap.size := Nat.ne_of_lt kq.lt
    have kq := kq.alloc (.cells #[.int .i64 n, .int .u8 3, .int .i64 0, .int .u8 4, .int .i64 f, .int .i64 b] 25)
    have nr1t1 : br1 ≠ w15.heap.size := Nat.ne_of_lt kr1.lt
    have kr1 := kr1.alloc (.cells #[.int .i64 n, .int .u8 3, .int .i64 0, .int .u8 4, .int .i64 f, .int .i64 b] 25)
    have ns1t1 : bs1 ≠ w15.heap.size := Nat.ne_of_lt ks1.lt
    have ks1 := ks1.alloc (.cells #[.int .i64 n, .int .u8 3, .int .i64 0, .int .u8 4, .int .i64 f, .int .i64 b] 25)
    have let1 := hb.size
    have hb := hb.alloc hb.size (.cells #[.int .i64 n, .int .u8 3, .int .i64 0, .int .u8 4, .int .i64 f, .int .i64 b] 25)
    generalize hBt1 : w15.heap.size = bt1 at *
    clear hBt1
    generalize hW : World.alloc w15 _ = w16 at *
    clear hW
    refine (h11b _).mono ?_
    clear h11b
    rintro e w17 ⟨rfl, hbn⟩
    have kq := kq.later hbn
    have kr1 := kr1.later hbn
    have ks1 := ks1.later hbn
    have kt1 := kt1.later hbn
    have hb := bl_trans hb hbn hb.size
    clear hbn
    have jr1 := kr1.alloc (.cells #[.int .i64 n, .int .u8 2, .int .i64 0, .int .u8 0, .int .i64 0, .int .i64 0] 25)
    obtain ⟨⟨r1c0, r1c1, r1c2, r1c3, r1c4, r1c5⟩, r1f0, r1f1, r1f2, r1f3, r1f4, r1f5⟩ := page_cells jr1
    clear jr1
    have js1 := ks1.alloc (.cells #[.int .i64 n, .int .u8 2, .int .i64 0, .int .u8 0, .int .i64 0, .int .i64 0] 25)
    obtain ⟨⟨s1c0, s1c1, s1c2, s1c3, s1c4, s1c5⟩, s1f0, s1f1, s1f2, s1f3, s1f4, s1f5⟩ := page_cells js1
    clear js1
    have jt1 := kt1.alloc (.cells #[.int .i64 n, .int .u8 2, .int .i64 0, .int .u8 0, .int .i64 0, .int .i64 0] 25)
    obtain ⟨⟨t1c0, t1c1, t1c2, t1c3, t1c4, t1c5⟩, t1f0, t1f1, t1f2, t1f3, t1f4, t1f5⟩ := page_cells jt1
    clear jt1
    go_wp2_with fail
    clear r1c0 r1f0 r1c1 r1f1 r1c2 r1f2 r1c3 r1f3 r1c4 r1f4 r1c5 r1f5
    clear s1c0 s1f0 s1c1 s1f1 s1c2 s1f2 s1c3 s1f3 s1c4 s1f4 s1c5 s1f5
    clear t1c0 t1f0 t1c1 t1f1 t1c2 t1f2 t1c3 t1f3 t1c4 t1f4 t1c5 t1f5
    have kL := Blk.new2 w17 (.cells #[.int .i64 n, .int .u8 2, .int .i64 0, .int .u8 0, .int .i64 0, .int .i64 0] 25) 25 #[.int .i64 n, .int .u8 3, .int .i64 0, .int .u8 2, .int .i64 f, .int .i64 b, .int .i64 n, .int .u8 3, .int .i64 0, .int .u8 3, .int .i64 f, .int .i64 b, .int .i64 n, .int .u8 3, .int .i64 0, .int .u8 4, .int .i64 f, .int .i64 b]
    have ku1 := (Blk.new w17 25 #[.int .i64 n, .int .u8 2, .int .i64 0, .int .u8 0, .int .i64 0, .int .i64 0]).alloc (.cells #[.int .i64 n, .int .u8 3, .int .i64 0, .int .u8 2, .int .i64 f, .int .i64 b, .int .i64 n, .int .u8 3, .int .i64 0, .int .u8 3, .int .i64 f, .int .i64 b, .int .i64 n, .int .u8 3, .int .i64 0, .int .u8 4, .int .i64 f, .int .i64 b] 25)
    have kq := (kq.alloc (.cells #[.int .i64 n, .int .u8 2, .int .i64 0, .int .u8 0, .int .i64 0, .int .i64 0] 25)).alloc (.cells #[.int .i64 n, .int .u8 3, .int .i64 0, .int .u8 2, .int .i64 f, .int .i64 b, .int .i64 n, .int .u8 3, .int .i64 0, .int .u8 3, .int .i64 f, .int .i64 b, .int .i64 n, .int .u8 3, .int .i64 0, .int .u8 4, .int .i64 f, .int .i64 b] 25)
    have hbz9 := hb.size
    have hb := (hb.alloc hb.size (.cells #[.int .i64 n, .int .u8 2, .int .i64 0, .int .u8 0, .int .i64 0, .int .i64 0] 25)).alloc (by simp; omega) (.cells #[.int .i64 n, .int .u8 3, .int .i64 0, .int .u8 2, .int .i64 f, .int .i64 b, .int .i64 n, .int .u8 3, .int .i64 0, .int .u8 3, .int .i64 f, .int .i64 b, .int .i64 n, .int .u8 3, .int .i64 0, .int .u8 4, .int .i64 f, .int .i64 b] 25)
    obtain ⟨W9, hW9⟩ : ∃ W, W = (w17.alloc (.cells #[.int .i64 n, .int .u8 2, .int .i64 0, .int .u8 0, .int .i64 0, .int .i64 0] 25)).alloc (.cells #[.int .i64 n, .int .u8 3, .int .i64 0, .int .u8 2, .int .i64 f, .int .i64 b, .int .i64 n, .int .u8 3, .int .i64 0, .int .u8 3, .int .i64 f, .int .i64 b, .int .i64 n, .int .u8 3, .int .i64 0, .int .u8 4, .int .i64 f, .int .i64 b] 25) := ⟨_, rfl⟩
    rw [← hW9] at kL ku1 kq hb ⊢
    clear hW9
    obtain ⟨bu1, hbu⟩ : ∃ b, b = w17.heap.size := ⟨_, rfl⟩
    rw [← hbu] at kL ku1 hbz9 ⊢
    clear hbu kr1 ks1 kt1
    have HKL := hid kL
    have HKU := hid ku1
    have HKQ := hid kq
    have HBB := hid hb
    clear kL ku1 kq hb
    go_loopg [31] 3 (fun k i wr => ∃ j : Nat, j ≤ 3 ∧ k = 3 - j ∧ i = .int .i64 j ∧ Blk wr (bu1 + 1) 25 #[.int .i64 n, .int .u8 3, .int .i64 0, .int .u8 2, .int .i64 f, .int .i64 b, .int .i64 n, .int .u8 3, .int .i64 0, .int .u8 3, .int .i64 f, .int .i64 b, .int .i64 n, .int .u8 3, .int .i64 0, .int .u8 4, .int .i64 f, .int .i64 b] ∧ Blk wr bu1 25 #[.int .i64 n, .int .u8 2, .int .i64 0, .int .u8 0, .int .i64 0, .int .i64 0] ∧ Blk wr bq 25 #[.int .i64 n, .int .u8 3, .int .i64 0, .int .u8 1, .int .i64 0, .int .i64 0] ∧ Below w.heap.size w wr)
    case atStart => exact ⟨0, by omega, rfl, rfl, HKL.out, HKU.out, HKQ.out, HBB.out⟩
    case round =>
      obtain ⟨j, hj, rfl, rfl, kL, ku1, kq, hb⟩ := hrel
      clear HKL HKU HKQ HBB
      by_cases hlt : j < 3
      · obtain ⟨ph, hph⟩ : ∃ ph : Int, (j = 0 ∧ ph = 2) ∨ (j = 1 ∧ ph = 3) ∨ (j = 2 ∧ ph = 4) := by
          obtain rfl | rfl | rfl : j = 0 ∨ j = 1 ∨ j = 2 := by omega
          · exact ⟨2, .inl ⟨rfl, rfl⟩⟩
          · exact ⟨3, .inr (.inl ⟨rfl, rfl⟩)⟩
          · exact ⟨4, .inr (.inr ⟨rfl, rfl⟩)⟩
        have g18j := g18 ph (by omega) (by omega)
        have g15j := g15 ph (by omega) (by omega)
        have hji : (j : Int) < (3 : Int) := by omega
        have look : ∀ v : World, Blk v (bu1 + 1) 25 #[.int .i64 n, .int .u8 3, .int .i64 0, .int .u8 2, .int .i64 f, .int .i64 b, .int .i64 n, .int .u8 3, .int .i64 0, .int .u8 3, .int .i64 f, .int .i64 b, .int .i64 n, .int .u8 3, .int .i64 0, .int .u8 4, .int .i64 f, .int .i64 b] → v.cell? ⟨bu1 + 1, j * 6, none⟩ = some (Value.int .i64 n) ∧ v.cell? ⟨bu1 + 1, j * 6 + 1, none⟩ = some (Value.int .u8 3) ∧ v.cell? ⟨bu1 + 1, j * 6 + 2, none⟩ = some (Value.int .i64 0) ∧ v.cell? ⟨bu1 + 1, j * 6 + 3, none⟩ = some (Value.int .u8 ph) ∧ v.cell? ⟨bu1 + 1, j * 6 + 4, none⟩ = some (Value.int .i64 f) ∧ v.cell? ⟨bu1 + 1, j * 6 + 5, none⟩ = some (Value.int .i64 b) := by
          intro v hv
          rcases hph with ⟨rfl, rfl⟩ | ⟨rfl, rfl⟩ | ⟨rfl, rfl⟩
          · exact ⟨hv.cell 0, hv.cell 1, hv.cell 2, hv.cell 3, hv.cell 4, hv.cell 5⟩
          · exact ⟨hv.cell 6, hv.cell 7, hv.cell 8, hv.cell 9, hv.cell 10, hv.cell 11⟩
          · exact ⟨hv.cell 12, hv.cell 13, hv.cell 14, hv.cell 15, hv.cell 16, hv.cell 17⟩
        have LOOK := hid look
        have HLT := hid hlt
        clear look hlt hph
        obtain ⟨l0, l1, l2, l3, l4, l5⟩ := LOOK.out _ kL
        have q0 : wr.cell? ⟨bq, 0, none⟩ = some (.int .i64 n) := kq.cell 0
        go_wp2_with fail
        go_region_held3 (fun w' => w'.cell? ⟨bu1 + 1, j * 6, none⟩ = some (Value.int .i64 n) ∧ w'.cell? ⟨bu1 + 1, j * 6 + 1, none⟩ = some (Value.int .u8 3) ∧ w'.cell? ⟨bu1 + 1, j * 6 + 2, none⟩ = some (Value.int .i64 0) ∧ w'.cell? ⟨bu1 + 1, j * 6 + 3, none⟩ = some (Value.int .u8 ph) ∧ w'.cell? ⟨bu1 + 1, j * 6 + 4, none⟩ = some (Value.int .i64 f) ∧ w'.cell? ⟨bu1 + 1, j * 6 + 5, none⟩ = some (Value.int .i64 b) ∧ w'.cell? ⟨bq, 0, none⟩ = some (.int .i64 n)) (exact ⟨l0, l1, l2, l3, l4, l5, q0⟩)
          (first
            | (go_at_call 18; refine (g18j _).mono ?_; rintro e' v1 ⟨rfl, hq0⟩; have hq1 := below_src hq0; have kL := kL.later hq1; have ku1 := ku1.later hq1; have kq := kq.later hq1; have hb := bl_trans hb hq1 hb.size; obtain ⟨l0, l1, l2, l3, l4, l5⟩ := LOOK.out _ kL; have q0 : v1.cell? ⟨bq, 0, none⟩ = some (.int .i64 n) := kq.cell 0)
            | (go_at_call 15; refine (g15j _).mono ?_; rintro e' v2 ⟨rfl, hq0⟩; have hq1 := hq0; have kL := kL.later hq1; have ku1 := ku1.later hq1; have kq := kq.later hq1; have hb := bl_trans hb hq1 hb.size; obtain ⟨l0, l1, l2, l3, l4, l5⟩ := LOOK.out _ kL; have q0 : v2.cell? ⟨bq, 0, none⟩ = some (.int .i64 n) := kq.cell 0))
        clear l0 l1 l2 l3 l4 l5 q0
        go_wp2_with fail
        go_roundg (3 - (j + 1))
        case measure => have := HLT.out; omega
        case rel => exact ⟨j + 1, by have := HLT.out; omega, rfl, by go_num, kL, ku1, kq, hb⟩
      · obtain rfl : j = 3 := by omega
        clear kL
        obtain ⟨⟨u1c0, u1c1, u1c2, u1c3, u1c4, u1c5⟩, u1f0, u1f1, u1f2, u1f3, u1f4, u1f5⟩ := page_cells ku1
        go_wp2_with (go_at_call 7; refine stop_ (fun Ps hPs => ?_))
        refine hPs ?_
        clear hPs Ps
        clear u1c0 u1f0 u1c1 u1f1 u1c2 u1f2 u1c3 u1f3 u1c4 u1f4 u1c5 u1f5
        refine (h7b _).mono ?_
        clear h7b
        rintro e w101 ⟨rfl, hbn⟩
        have kq := kq.later hbn
        have ku1 := ku1.later hbn
        have hb := bl_trans hb hbn hb.size
        clear hbn
        have ju1 := ku1.alloc (.cells #[.int .i64 (n + 1), .int .u8 1, .int .i64 f, .int .u8 0, .int .i64 0, .int .i64 0] 25)
        obtain ⟨⟨u1c0, u1c1, u1c2, u1c3, u1c4, u1c5⟩, u1f0, u1f1, u1f2, u1f3, u1f4, u1f5⟩ := page_cells ju1
        clear ju1
        have jq := kq.alloc (.cells #[.int .i64 (n + 1), .int .u8 1, .int .i64 f, .int .u8 0, .int .i64 0, .int .i64 0] 25)
        obtain ⟨⟨qc0, qc1, qc2, qc3, qc4, qc5⟩, qf0, qf1, qf2, qf3, qf4, qf5⟩ := page_cells jq
        clear jq
        go_wp2_with (go_at_call 12; refine stop_ (fun Ps hPs => ?_))
        refine hPs ?_
        clear hPs Ps
        clear qc0 qf0 qc1 qf1 qc2 qf2 qc3 qf3 qc4 qf4 qc5 qf5
        clear u1c0 u1f0 u1c1 u1f1 u1c2 u1f2 u1c3 u1f3 u1c4 u1f4 u1c5 u1f5
        have kv1 := Blk.new w101 25 #[.int .i64 (n + 1), .int .u8 1, .int .i64 f, .int .u8 0, .int .i64 0, .int .i64 0]
        have nqv1 : bq ≠ w101.heap.size := Nat.ne_of_lt kq.lt
        have kq := kq.alloc (.cells #[.int .i64 (n + 1), .int .u8 1, .int .i64 f, .int .u8 0, .int .i64 0, .int .i64 0] 25)
        have nu1v1 : bu1 ≠ w101.heap.size := Nat.ne_of_lt ku1.lt
        have ku1 := ku1.alloc (.cells #[.int .i64 (n + 1), .int .u8 1, .int .i64 f, .int .u8 0, .int .i64 0, .int .i64 0] 25)
        have lev1 := hb.size
        have hb := hb.alloc hb.size (.cells #[.int .i64 (n + 1), .int .u8 1, .int .i64 f, .int .u8 0, .int .i64 0, .int .i64 0] 25)
        generalize hBv1 : w101.heap.size = bv1 at *
        clear hBv1
        generalize hW : World.alloc w101 _ = w102 at *
        clear hW
        refine (hs1 _).mono ?_
        clear hs1
        rintro e w103 ⟨rfl, hbn⟩
        have kq := kq.later hbn
        have ku1 := ku1.later hbn
        have kv1 := kv1.later hbn
        have hb := bl_trans hb hbn hb.size
        clear hbn
        obtain ⟨⟨u1c0, u1c1, u1c2, u1c3, u1c4, u1c5⟩, u1f0, u1f1, u1f2, u1f3, u1f4, u1f5⟩ := page_cells ku1
        go_wp2_with (go_at_call 15; refine stop_ (fun Ps hPs => ?_))
        refine hPs ?_
        clear hPs Ps
        clear u1c0 u1f0 u1c1 u1f1 u1c2 u1f2 u1c3 u1f3 u1c4 u1f4 u1c5 u1f5
        refine (k15u _).mono ?_
        clear k15u
        rintro e w104 ⟨rfl, hbn⟩
        have kq := kq.later hbn
        have ku1 := ku1.later hbn
        have kv1 := kv1.later hbn
        have hb := bl_trans hb hbn hb.size
        clear hbn
        obtain ⟨⟨u1c0, u1c1, u1c2, u1c3, u1c4, u1c5⟩, u1f0, u1f1, u1f2, u1f3, u1f4, u1f5⟩ := page_cells ku1
        go_wp2_with (go_at_call 16; refine stop_ (fun Ps hPs => ?_))
        refine hPs ?_
        clear hPs Ps
        clear u1c0 u1f0 u1c1 u1f1 u1c2 u1f2 u1c3 u1f3 u1c4 u1f4 u1c5 u1f5
        refine (k16u _).mono ?_
        clear k16u
        rintro e w105 ⟨rfl, hbn⟩
        have kq := kq.later hbn
        have ku1 := ku1.later hbn
        have kv1 := kv1.later hbn
        have hb := bl_trans hb hbn hb.size
        clear hbn
        obtain ⟨⟨v1c0, v1c1, v1c2, v1c3, v1c4, v1c5⟩, v1f0, v1f1, v1f2, v1f3, v1f4, v1f5⟩ := page_cells kv1
        obtain ⟨⟨qc0, qc1, qc2, qc3, qc4, qc5⟩, qf0, qf1, qf2, qf3, qf4, qf5⟩ := page_cells kq
        go_wp2_with (go_at_call 12; refine stop_ (fun Ps hPs => ?_))
        refine hPs ?_
        clear hPs Ps
        clear qc0 qf0 qc1 qf1 qc2 qf2 qc3 qf3 qc4 qf4 qc5 qf5
        clear v1c0 v1f0 v1c1 v1f1 v1c2 v1f2 v1c3 v1f3 v1c4 v1f4 v1c5 v1f5
        refine (hs2 _).mono ?_
        clear hs2
        rintro e w106 ⟨rfl, hbn⟩
        have kq := kq.later hbn
        have ku1 := ku1.later hbn
        have kv1 := kv1.later hbn
        have hb := bl_trans hb hbn hb.size
        clear hbn
        obtain ⟨⟨v1c0, v1c1, v1c2, v1c3, v1c4, v1c5⟩, v1f0, v1f1, v1f2, v1f3, v1f4, v1f5⟩ := page_cells kv1
        go_wp2_with (go_at_call 15; refine stop_ (fun Ps hPs => ?_))
        refine hPs ?_
        clear hPs Ps
        clear v1c0 v1f0 v1c1 v1f1 v1c2 v1f2 v1c3 v1f3 v1c4 v1f4 v1c5 v1f5
        refine (k15v _).mono ?_
        clear k15v
        rintro e w107 ⟨rfl, hbn⟩
        have kq := kq.later hbn
        have ku1 := ku1.later hbn
        have kv1 := kv1.later hbn
        have hb := bl_trans hb hbn hb.size
        clear hbn
        go_wp2_with fail
        go_ret
        exact ⟨rfl, hb⟩
end Go.Proofs.Ytagehcnbllkipaa
