/- A primary answers without waiting for the other site, as many times as its leash allows: of any acts. No condition. (part 11) -/
import Derived.Lib.AppendStr
import Derived.Test.YtbpnbcjgkbpmgaaGreatMAg
import Derived.Test.YtbpnbcjgkbpmgaaGreatMAj
namespace Go.Proofs.YtbpnbcjgkbpmgaaGreat
open Go.RowKit Go.Lg St
set_option linter.unusedVariables false
set_option linter.unusedSimpArgs false
theorem strc_bts (s : ByteArray) : Lib.strCells s = bts (kb s) := rfl
theorem step_appstr {t u : TypeId} (T : SlT Tryz.prog t 5 1 1) (hz : ∃ i, Tryz.prog.info? 5 = some i ∧ i.zero = some (.int .u8 0) ∧ i.size = 1 ∧ i.bytes = 1) (hu : Tryz.prog.underlying u = some .string)
    {ops : Array Oper} {o : Oper} {a : Act} {w : World} {K : Act → World → Prop} {Q : Exit → Act → World → Prop} {E : Prop} (s x : Operand)
    (hgd : o.guard = none) (ho : o.op = .call { callee := .builtin .append, args := #[s, x], argTypes := #[t, u] })
    {base : Nat} {v : Value} {n : Nat} {l : Bys} (hown : w.ownsRow base 5 1 v n (bts l)) (hs : a.eval s = v)
    {tx : ByteArray} (hx : a.eval x = .string tx) (hbytes : n + tx.size ≤ 140737488355328) (hbase : base ≤ w.heap.size)
    (h : ∀ v' w', w'.ownsRow base 5 1 v' (n + tx.size) (bts (l ++ kb tx)) → w.grownBy w' v.ownBlock → K (a.put o.dst v') w') :
    if Region.wanted o (yielded ops a.tmps) = true then Oper.wp Tryz.prog o a w K Q else E := by
  have hw : Region.wanted o (yielded ops a.tmps) = true := by simp [Region.wanted, hgd]
  rw [if_pos hw]
  obtain ⟨i, hi, hz1, hz2, hz3⟩ := hz
  obtain ⟨v', w', hrun, h2, h3, _⟩ := Lib.run_append_own_string (P := Tryz.prog) w base t u o.type 5 i T.ht hu hi hz1 hz2 hz3 v n (bts l) hown tx (by unfold maxLen; omega) hbytes hbase
  rw [strc_bts, ← bts_append] at h2
  unfold Oper.wp execOp
  simp only [ho, resolve, invoke, builtin, Sem.run_bind, Sem.run_pure, Result.andThen_ok, List.map_toArray, List.map_cons, List.map_nil, hs, hx, hrun]
  exact h v' w' h2 h3
theorem Z5 : ∃ i, Tryz.prog.info? 5 = some i ∧ i.zero = some (.int .u8 0) ∧ i.size = 1 ∧ i.bytes = 1 := by
  obtain ⟨i, h1, h2, h3, h4⟩ := info_parts (P := Tryz.prog) (e := 5) (z := .int .u8 0) (size := 1) (bytes := 1) (by kernel_rfl)
  exact ⟨i, h1, h2, h3, h4⟩
def lk : Bys → List Op3 → Bys
  | l, [] => l
  | _, o :: r => lk (kb o.key) r
theorem encOps_app : ∀ (l : Bys) (a r : List Op3), encOps l (a ++ r) = encOps l a ++ encOps (lk l a) r
  | l, [], r => rfl
  | l, o :: a, r => by simp [encOps, lk, encOps_app _ a r]
theorem lk_snoc : ∀ (l : Bys) (a : List Op3) (o : Op3), lk l (a ++ [o]) = kb o.key
  | l, [], o => rfl
  | l, x :: a, o => by simp [lk, lk_snoc _ a o]
theorem take_snoc {os : List Op3} {j : Nat} {o : Op3} (h : os[j]? = some o) : os.take (j + 1) = os.take j ++ [o] := by
  rw [List.take_add_one, h]; rfl
theorem kb_extract (s : ByteArray) (i : Nat) : kb (s.extract i s.size) = (kb s).drop i := by
  unfold kb
  rw [ByteArray.data_extract, Array.toList_extract, List.extract_eq_take_drop, List.take_of_length_le]
  rw [List.length_drop]
  exact Nat.le_refl _
def EncIs (r : Option Bys) (k : Int) (w : World) (e : Ending) (w' : World) : Prop :=
  match r with
  | none => e = .returned (.tuple #[.slice none 0 0, .int .i64 k]) ∧ Below w.heap.size w w'
  | some l => ∃ v, e = .returned (.tuple #[v, .int .i64 0]) ∧ w'.ownsRow w.heap.size 5 1 v l.length (bts l) ∧ Below w.heap.size w w'
set_option maxHeartbeats 4000000 in
set_option maxRecDepth 100000 in
theorem append206 {w : World} {A A' : Option Addr} {n c k c' : Nat} {b : Bys} {os : List Op3} (hb : Rd w w.heap.size 1 A n (bts b)) (hn : n ≤ 1000000000) (hos : OS w w.heap.size A' k os) (hk : k ≤ 9223372036854775807) (hkc : k ≤ c') : Calls Tryz.prog 206 #[.slice A n c, .slice A' k c'] w (EncIs (if bk os = 0 then some (b ++ encB os) else none) (bk os) w) := by
  have hbt := batch51 A' k c' os w hos hk
  by_cases hbk : bk os = 0
  · rw [if_pos hbk]
    rw [hbk] at hbt
    have h8 : 1 ≤ k ∧ k ≤ 8 ∧ ∀ o ∈ os, o.ok := by
      have hl := hos.2
      unfold bk at hbk
      split at hbk
      · cases hbk
      · split at hbk
        · cases hbk
        · split at hbk
          · rename_i h1 h2 h3
            exact ⟨by omega, by omega, h3⟩
          · cases hbk
    obtain ⟨h1, h8, hok⟩ := h8
    have HOK := hid hok
    have HBT := hid hbt
    have HOS := hid hos
    have hbl : b.length = n := by simpa using hb.1
    have HBL := hid hbl
    obtain ⟨b1, hb1⟩ : ∃ b1, b1 = b ++ Vi.enc k := ⟨_, rfl⟩
    have hl1 : b1.length ≤ n + 10 := by
      rw [hb1, List.length_append]
      have := Vi.encF_len_le 9 k
      unfold Vi.enc
      omega
    have HB1 := hid hb1
    have HB := hid hb
    clear hbk hok hbt hos hb hbl hb1
    go_enter Tryz.func206, Tryz.ntmps206
    go_wp2_with (first | (go_at_call 147; (with_reducible refine HBT.out.mono ?_); rintro e' w1 ⟨rfl, hw1⟩) | (go_at_call 167; refine stop_ (fun Ps hPs => ?_)))
    refine hPs ?_
    clear hPs Ps
    refine (append_as A n c b b1 k w1 HB1.out ((HB.out.below hw1).more hw1.size) (by omega) (by omega)).mono ?_
    rintro e' w2 ⟨v2, rfl, ho2, hw2⟩
    have HW2 := hid (bl_trans hw1 hw2 hw1.size)
    have HO2 := hid (owned_less ho2 hw1.size)
    clear hw1 hw2 ho2
    go_wp2_with fail
    go_loopg [7, 8, 25] k (fun g bv last i wr => ∃ (j : Nat) (bs : Bys) (lx : ByteArray), j ≤ k ∧ g = k - j ∧ i = .int .i64 j ∧ last = .string lx ∧ lx.size ≤ 16 ∧ bs.length ≤ n + 10 + j * 100 ∧ Hid (lk [] (os.take j) = kb lx) ∧ Hid (bs = b1 ++ encOps [] (os.take j)) ∧ Hid (Below w.heap.size w wr) ∧ Hid (wr.ownsRow w.heap.size 5 1 bv bs.length (bts bs)))
    case atStart => exact ⟨0, b1, ⟨#[]⟩, by omega, by omega, rfl, rfl, Nat.zero_le _, by omega, hid rfl, hid (by simp [encOps]), HW2, HO2⟩
    case round =>
      obtain ⟨j, bs, lx, hj, rfl, rfl, rfl, hlx, hbs, HLK, HBS, HBW, HOW⟩ := hrel
      have hsz := HBW.out.size
      obtain ⟨Ab, cb, rfl, _⟩ := owned_slice HOW.out
      by_cases hlt : j < k
      · have hw := HOS.out.keep HBW.out
        obtain ⟨bq, off, p, kx, vx, hA, hbB, ho, c0, c1, c2⟩ := hw.at_ hlt
        obtain ⟨q1, q2, q3, q4⟩ := HOK.out _ (List.mem_of_getElem? ho)
        simp only at q1 q2 q3 q4
        have HO := hid ho
        subst hA
        have hji : (j : Int) < (k : Int) := by omega
        clear hw ho q4
        obtain ⟨sn, hsn⟩ : ∃ sn, sh (kb lx) (kb kx) = sn := ⟨_, rfl⟩
        have hs1 := sh_le (kb lx) (kb kx)
        rw [hsn, kb_length, kb_length] at hs1
        have hsh := shared230 lx kx (wr.alloc (.cells #[.bool p, .string kx, .string vx] 77)) (by omega) (by omega)
        rw [hsn] at hsh
        have HSN := hid hsn
        have HSH := hid hsh
        clear hsn hsh
        obtain ⟨nd, hnd⟩ : ∃ nd, nd = kx.size - sn := ⟨_, rfl⟩
        have hnx : ((kx.size : Int) - (sn : Int)) = (nd : Int) := by omega
        have hndl : nd ≤ 16 := by omega
        have hwn : IntKind.i64.wrap (nd : Int) = (nd : Int) := IntWalk.i64_in _ (by omega)
        have hwu : IntKind.u64.wrap (nd : Int) = (nd : Int) := IntWalk.u64_in _ (by omega)
        have HND := hid hnd
        clear hnd
        obtain ⟨pb, hpb⟩ : ∃ pb : UInt8, pb = if p then 1 else 0 := ⟨_, rfl⟩
        have HPB := hid hpb
        have HE : Hid (encOp (kb lx) ⟨p, kx, vx⟩ = [pb] ++ (Vi.enc sn ++ (Vi.enc nd ++ ((kb kx).drop sn ++ (if p then Vi.enc vx.size ++ kb vx else []))))) := hid (by
          unfold encOp
          rw [HSN.out, HPB.out, kb_length, kb_length, HND.out]
          rfl)
        obtain ⟨b2, hb2⟩ : ∃ b2, b2 = (bs ++ [pb]) ++ Vi.enc sn := ⟨_, rfl⟩
        have hl2 : b2.length ≤ bs.length + 11 := by
          rw [hb2, List.length_append, List.length_append]
          have := Vi.encF_len_le 9 sn
          unfold Vi.enc
          simp
          omega
        have HB2 := hid hb2
        clear hpb hb2
        cases p with
        | true =>
          go_wp2_with (go_at_call 230; refine stop_ (fun Ps hPs => ?_))
          refine hPs ?_
          clear hPs Ps
          refine HSH.out.mono ?_
          rintro e' w3 ⟨rfl, hw3⟩
          have HW3 := hid (bl_trans (HBW.out.alloc hsz (.cells #[.bool true, .string kx, .string vx] 77)) hw3 (by simp; omega))
          have HK3 : Hid (Blk w3 wr.heap.size 77 #[.bool true, .string kx, .string vx]) := hid ((Blk.new wr 77 #[.bool true, .string kx, .string vx]).later hw3)
          obtain ⟨z0, z1, z2, _⟩ := opcells HK3.out
          have HO3 : Hid (w3.ownsRow w.heap.size 5 1 (.slice Ab bs.length cb) bs.length (bts bs)) := hid (owned_later (HOW.out.alloc _) hw3)
          have hsz3 : w.heap.size ≤ w3.heap.size := HW3.out.size
          clear hw3
          go_wp2_with (at_builtin; refine stop_ (fun Ps hPs => ?_))
          refine hPs ?_
          clear hPs Ps
          refine wpList_app1 T22 (.tmp 35) (.tmp 37) rfl rfl HO3.out rfl rfl rfl (by simp [Value.oneCell']) (by omega) (by omega) fun v4 w4 ho4 hg4 hat4 => ?_
          have HW4 := hid (below_append HW3.out HO3.out hg4 hsz3)
          have HK4 : Hid (Blk w4 wr.heap.size 77 #[.bool true, .string kx, .string vx]) := hid (HK3.out.gb hg4 (fun e => owned_blk_ne HO3.out HK3.out (by decide) _ e.symm rfl))
          have HO4 : Hid (w4.ownsRow w.heap.size 5 1 v4 (bs.length + 1) (bts (bs ++ [pb]))) := hid (by rw [bts_snoc, HPB.out]; exact ho4)
          obtain ⟨A4, c4, rfl, _⟩ := owned_slice ho4
          clear ho4 hg4 hat4 z0 z1 z2
          go_wp2_with (go_at_call 167; refine stop_ (fun Ps hPs => ?_))
          refine hPs ?_
          clear hPs Ps
          refine (append_as A4 (bs.length + 1) c4 (bs ++ [pb]) b2 sn w4 HB2.out (Rd.of_own HO4.out) (by omega) (by omega)).mono ?_
          rintro e' w5 ⟨v5, rfl, ho5, hw5⟩
          have hsz5 : w.heap.size ≤ w5.heap.size := Nat.le_trans HW4.out.size hw5.size
          have HW5 := hid (bl_trans HW4.out hw5 HW4.out.size)
          have HK5 : Hid (Blk w5 wr.heap.size 77 #[.bool true, .string kx, .string vx]) := hid (HK4.out.later hw5)
          have HO5 := hid (owned_less ho5 HW4.out.size)
          clear ho5 hw5 HO4 HK4 HK3 HO3 HW3 HW4 hsz3
          obtain ⟨A5, c5, rfl, _⟩ := owned_slice HO5.out
          obtain ⟨z0, z1, z2, _⟩ := opcells HK5.out
          obtain ⟨b3, hb3⟩ : ∃ b3, b3 = b2 ++ Vi.enc nd := ⟨_, rfl⟩
          have hl3 : b3.length ≤ b2.length + 10 := by
            rw [hb3, List.length_append]
            have := Vi.encF_len_le 9 nd
            unfold Vi.enc
            omega
          have HB3 := hid hb3
          clear hb3
          have z1d : w5.drew.cell? ⟨wr.heap.size, 1, none⟩ = some (.string kx) := z1
          have hsni : (sn : Int) ≤ (kx.size : Int) := by omega
          have HAP := hid (append_as A5 b2.length c5 b2 b3 nd w5.drew HB3.out (Rd.of_own (show w5.drew.ownsRow w.heap.size 5 1 (.slice A5 b2.length c5) b2.length (bts b2) from HO5.out)) (by omega) (by omega))
          go_wp2_with fail
          go_region_held3 (fun w' => w'.cell? ⟨wr.heap.size, 1, none⟩ = some (.string kx)) (first | exact z1d | exact z16 | exact z17)
            (first
            | (go_at_call 167; (with_reducible refine HAP.out.mono ?_); rintro e' w6 ⟨v6, rfl, ho6, hw6⟩; have z16 : w6.cell? ⟨wr.heap.size, 1, none⟩ = some (.string kx) := (hw6.cell (p := ⟨wr.heap.size, 1, none⟩) HK5.out.lt).trans z1; have HO6 := hid ho6; have HW6 := hid hw6; have HK6 : Hid (Blk w6 wr.heap.size 77 #[.bool true, .string kx, .string vx]) := hid (Blk.later (w := w5.drew) HK5.out hw6); clear ho6 hw6)
            | (refine step_appstr (tx := kx.extract sn kx.size) T22 Z5 Tryz.underlying9 (.tmp 49) (.tmp 53) rfl (by rfl) HO6.out (by go_simp) (by go_simp) (by rw [ByteArray.size_extract]; omega) HW6.out.size ?_; intro v7 w7 ho7 hg7; have HK7 : Hid (Blk w7 wr.heap.size 77 #[.bool true, .string kx, .string vx]) := hid (HK6.out.gb hg7 (fun e => owned_blk_ne HO6.out HK6.out (by decide) _ e.symm rfl)); have z17 := HK7.out.cell 1; have HW7 := hid (below_append HW6.out HO6.out hg7 HW6.out.size); have HO7 := hid ho7; clear ho7 hg7))
          obtain ⟨b4, hb4⟩ : ∃ b4, b4 = b3 ++ (kb kx).drop sn := ⟨_, rfl⟩
          have HL4 : Hid (b4.length = b3.length + (kx.size - sn)) := hid (by rw [hb4, List.length_append, List.length_drop, kb_length])
          have hl4 : b4.length ≤ b3.length + 16 := by have := HL4.out; omega
          have HB4 := hid hb4
          clear hb4
          have HW8 : Hid (Below w.heap.size w w7) := hid (bl_trans HW5.out (below_src HW7.out) hsz5)
          have HO8 : Hid (w7.ownsRow w.heap.size 5 1 v7 b4.length (bts b4)) := hid (by
            have h1 := owned_less HO7.out (show w.heap.size ≤ w5.drew.heap.size from hsz5)
            rw [kb_extract, ← HB4.out, ByteArray.size_extract, Nat.min_self, ← HL4.out] at h1
            exact h1)
          obtain ⟨A8, c8, rfl, _⟩ := owned_slice HO8.out
          have hsz8 : w.heap.size ≤ w7.heap.size := HW8.out.size
          clear HO7 HW7 HO6 HW6 HK6 HK5 HO5 HW5 HAP z16 z17 z1d z0 z1 z2
          obtain ⟨z0, z1, z2, _⟩ := opcells HK7.out
          obtain ⟨b5, hb5⟩ : ∃ b5, b5 = b4 ++ Vi.enc vx.size := ⟨_, rfl⟩
          have hl5 : b5.length ≤ b4.length + 10 := by
            rw [hb5, List.length_append]
            have := Vi.encF_len_le 9 vx.size
            unfold Vi.enc
            omega
          have HB5 := hid hb5
          clear hb5
          have hwv : IntKind.u64.wrap (vx.size : Int) = (vx.size : Int) := IntWalk.u64_in _ (by omega)
          have z2d : w7.drew.cell? ⟨wr.heap.size, 2, none⟩ = some (.string vx) := z2
          have HAP := hid (append_as A8 b4.length c8 b4 b5 vx.size w7.drew HB5.out (Rd.of_own (show w7.drew.ownsRow w.heap.size 5 1 (.slice A8 b4.length c8) b4.length (bts b4) from HO8.out)) (by omega) (by omega))
          go_wp2_with fail
          go_region_held3 (fun w' => w'.cell? ⟨wr.heap.size, 2, none⟩ = some (.string vx)) (first | exact z2d | exact z16 | exact z17)
            (first
            | (go_at_call 167; (with_reducible refine HAP.out.mono ?_); rintro e' w9 ⟨v9, rfl, ho9, hw9⟩; have z16 : w9.cell? ⟨wr.heap.size, 2, none⟩ = some (.string vx) := (hw9.cell (p := ⟨wr.heap.size, 2, none⟩) HK7.out.lt).trans z2; have HO9 := hid ho9; have HW9 := hid hw9; have HK9 : Hid (Blk w9 wr.heap.size 77 #[.bool true, .string kx, .string vx]) := hid (Blk.later (w := w7.drew) HK7.out hw9); clear ho9 hw9)
            | (refine step_appstr (tx := vx) T22 Z5 Tryz.underlying9 (.tmp 62) (.tmp 64) rfl (by rfl) HO9.out (by go_simp) (by go_simp) (by omega) HW9.out.size ?_; intro v10 w10 ho10 hg10; have HK10 : Hid (Blk w10 wr.heap.size 77 #[.bool true, .string kx, .string vx]) := hid (HK9.out.gb hg10 (fun e => owned_blk_ne HO9.out HK9.out (by decide) _ e.symm rfl)); have z17 := HK10.out.cell 2; have HW10 := hid (below_append HW9.out HO9.out hg10 HW9.out.size); have HO10 := hid ho10; clear ho10 hg10))
          have HW11 : Hid (Below w.heap.size w w10) := hid (bl_trans HW8.out (below_src HW10.out) hsz8)
          have HO11 : Hid (w10.ownsRow w.heap.size 5 1 v10 (b5 ++ kb vx).length (bts (b5 ++ kb vx))) := hid (by
            have h1 := owned_less HO10.out (show w.heap.size ≤ w7.drew.heap.size from hsz8)
            rw [List.length_append, kb_length]
            exact h1)
          clear HO10 HW10 HO9 HW9 HK9 HAP z16 z17 z2d z0 z1 z2
          obtain ⟨z0, z1, z2, _⟩ := opcells HK10.out
          go_wp2_with fail
          go_roundg (k - (j + 1))
          case measure => omega
          case rel =>
            refine ⟨j + 1, b5 ++ kb vx, kx, by omega, rfl, by go_num, rfl, by omega, ?_, hid ?_, hid ?_, HW11, HO11⟩
            · rw [List.length_append, kb_length]; omega
            · rw [take_snoc HO.out, lk_snoc]
            · rw [take_snoc HO.out, encOps_app, HLK.out, encOps, encOps, HE.out, HB5.out, HB4.out, HB3.out, HB2.out, HBS.out]
              simp
        | false =>
          go_wp2_with (go_at_call 230; refine stop_ (fun Ps hPs => ?_))
          refine hPs ?_
          clear hPs Ps
          refine HSH.out.mono ?_
          rintro e' w3 ⟨rfl, hw3⟩
          have HW3 := hid (bl_trans (HBW.out.alloc hsz (.cells #[.bool false, .string kx, .string vx] 77)) hw3 (by simp; omega))
          have HK3 : Hid (Blk w3 wr.heap.size 77 #[.bool false, .string kx, .string vx]) := hid ((Blk.new wr 77 #[.bool false, .string kx, .string vx]).later hw3)
          obtain ⟨z0, z1, z2, _⟩ := opcells HK3.out
          have HO3 : Hid (w3.ownsRow w.heap.size 5 1 (.slice Ab bs.length cb) bs.length (bts bs)) := hid (owned_later (HOW.out.alloc _) hw3)
          have hsz3 : w.heap.size ≤ w3.heap.size := HW3.out.size
          clear hw3
          go_wp2_with (at_builtin; refine stop_ (fun Ps hPs => ?_))
          refine hPs ?_
          clear hPs Ps
          refine wpList_app1 T22 (.tmp 35) (.tmp 37) rfl rfl HO3.out rfl rfl rfl (by simp [Value.oneCell']) (by omega) (by omega) fun v4 w4 ho4 hg4 hat4 => ?_
          have HW4 := hid (below_append HW3.out HO3.out hg4 hsz3)
          have HK4 : Hid (Blk w4 wr.heap.size 77 #[.bool false, .string kx, .string vx]) := hid (HK3.out.gb hg4 (fun e => owned_blk_ne HO3.out HK3.out (by decide) _ e.symm rfl))
          have HO4 : Hid (w4.ownsRow w.heap.size 5 1 v4 (bs.length + 1) (bts (bs ++ [pb]))) := hid (by rw [bts_snoc, HPB.out]; exact ho4)
          obtain ⟨A4, c4, rfl, _⟩ := owned_slice ho4
          clear ho4 hg4 hat4 z0 z1 z2
          go_wp2_with (go_at_call 167; refine stop_ (fun Ps hPs => ?_))
          refine hPs ?_
          clear hPs Ps
          refine (append_as A4 (bs.length + 1) c4 (bs ++ [pb]) b2 sn w4 HB2.out (Rd.of_own HO4.out) (by omega) (by omega)).mono ?_
          rintro e' w5 ⟨v5, rfl, ho5, hw5⟩
          have hsz5 : w.heap.size ≤ w5.heap.size := Nat.le_trans HW4.out.size hw5.size
          have HW5 := hid (bl_trans HW4.out hw5 HW4.out.size)
          have HK5 : Hid (Blk w5 wr.heap.size 77 #[.bool false, .string kx, .string vx]) := hid (HK4.out.later hw5)
          have HO5 := hid (owned_less ho5 HW4.out.size)
          clear ho5 hw5 HO4 HK4 HK3 HO3 HW3 HW4 hsz3
          obtain ⟨A5, c5, rfl, _⟩ := owned_slice HO5.out
          obtain ⟨z0, z1, z2, _⟩ := opcells HK5.out
          obtain ⟨b3, hb3⟩ : ∃ b3, b3 = b2 ++ Vi.enc nd := ⟨_, rfl⟩
          have hl3 : b3.length ≤ b2.length + 10 := by
            rw [hb3, List.length_append]
            have := Vi.encF_len_le 9 nd
            unfold Vi.enc
            omega
          have HB3 := hid hb3
          clear hb3
          have z1d : w5.drew.cell? ⟨wr.heap.size, 1, none⟩ = some (.string kx) := z1
          have hsni : (sn : Int) ≤ (kx.size : Int) := by omega
          have HAP := hid (append_as A5 b2.length c5 b2 b3 nd w5.drew HB3.out (Rd.of_own (show w5.drew.ownsRow w.heap.size 5 1 (.slice A5 b2.length c5) b2.length (bts b2) from HO5.out)) (by omega) (by omega))
          go_wp2_with fail
          go_region_held3 (fun w' => w'.cell? ⟨wr.heap.size, 1, none⟩ = some (.string kx)) (first | exact z1d | exact z16 | exact z17)
            (first
            | (go_at_call 167; (with_reducible refine HAP.out.mono ?_); rintro e' w6 ⟨v6, rfl, ho6, hw6⟩; have z16 : w6.cell? ⟨wr.heap.size, 1, none⟩ = some (.string kx) := (hw6.cell (p := ⟨wr.heap.size, 1, none⟩) HK5.out.lt).trans z1; have HO6 := hid ho6; have HW6 := hid hw6; have HK6 : Hid (Blk w6 wr.heap.size 77 #[.bool false, .string kx, .string vx]) := hid (Blk.later (w := w5.drew) HK5.out hw6); clear ho6 hw6)
            | (refine step_appstr (tx := kx.extract sn kx.size) T22 Z5 Tryz.underlying9 (.tmp 49) (.tmp 53) rfl (by rfl) HO6.out (by go_simp) (by go_simp) (by rw [ByteArray.size_extract]; omega) HW6.out.size ?_; intro v7 w7 ho7 hg7; have HK7 : Hid (Blk w7 wr.heap.size 77 #[.bool false, .string kx, .string vx]) := hid (HK6.out.gb hg7 (fun e => owned_blk_ne HO6.out HK6.out (by decide) _ e.symm rfl)); have z17 := HK7.out.cell 1; have HW7 := hid (below_append HW6.out HO6.out hg7 HW6.out.size); have HO7 := hid ho7; clear ho7 hg7))
          obtain ⟨b4, hb4⟩ : ∃ b4, b4 = b3 ++ (kb kx).drop sn := ⟨_, rfl⟩
          have HL4 : Hid (b4.length = b3.length + (kx.size - sn)) := hid (by rw [hb4, List.length_append, List.length_drop, kb_length])
          have hl4 : b4.length ≤ b3.length + 16 := by have := HL4.out; omega
          have HB4 := hid hb4
          clear hb4
          have HW8 : Hid (Below w.heap.size w w7) := hid (bl_trans HW5.out (below_src HW7.out) hsz5)
          have HO8 : Hid (w7.ownsRow w.heap.size 5 1 v7 b4.length (bts b4)) := hid (by
            have h1 := owned_less HO7.out (show w.heap.size ≤ w5.drew.heap.size from hsz5)
            rw [kb_extract, ← HB4.out, ByteArray.size_extract, Nat.min_self, ← HL4.out] at h1
            exact h1)
          obtain ⟨A8, c8, rfl, _⟩ := owned_slice HO8.out
          have hsz8 : w.heap.size ≤ w7.heap.size := HW8.out.size
          clear HO7 HW7 HO6 HW6 HK6 HK5 HO5 HW5 HAP z16 z17 z1d z0 z1 z2
          obtain ⟨z0, z1, z2, _⟩ := opcells HK7.out
          go_wp2_with fail
          go_roundg (k - (j + 1))
          case measure => omega
          case rel =>
            refine ⟨j + 1, b4, kx, by omega, rfl, by go_num, rfl, by omega, ?_, hid ?_, hid ?_, HW8, HO8⟩
            · omega
            · rw [take_snoc HO.out, lk_snoc]
            · rw [take_snoc HO.out, encOps_app, HLK.out, encOps, encOps, HE.out, HB4.out, HB3.out, HB2.out, HBS.out]
              simp
      · obtain rfl : j = k := by omega
        go_wp2_with fail
        go_ret2
        exact ⟨_, rfl, by have := HOW.out; rw [show b ++ encB os = bs by rw [HBS.out, HB1.out, List.take_of_length_le (by rw [HOS.out.2]; exact Nat.le_refl _), encB, HOS.out.2, List.append_assoc]]; exact this, HBW.out⟩
  · rw [if_neg hbk]
    have HBT := hid hbt
    clear hbt
    go_enter Tryz.func206, Tryz.ntmps206
    go_wp2_with (first | (go_at_call 147; (with_reducible refine HBT.out.mono ?_); rintro e' w1 ⟨rfl, hw1⟩))
    go_ret2
    exact ⟨rfl, hw1⟩
end Go.Proofs.YtbpnbcjgkbpmgaaGreat
namespace Go.Proofs.YtbpnbcjgkbpmgaaGreat
open Go.RowKit Go.Lg St
set_option linter.unusedVariables false
set_option linter.unusedSimpArgs false
set_option maxHeartbeats 4000000 in
set_option maxRecDepth 100000 in
theorem encode176 {w : World} {ep num : Int} {A : Option Addr} {k c : Nat} {os : List Op3} (hos : OS w w.heap.size A k os) (hk : k ≤ 9223372036854775807) (hkc : k ≤ c) : Calls Tryz.prog 176 #[.agg #[.int .i64 ep, .int .i64 num, .slice A k c]] w (EncIs (if (Cmt.mk ep num os).k = 0 then some (encC ⟨ep, num, os⟩) else none) (Cmt.mk ep num os).k w) := by
  have kz := Blk.new w 88 #[.int .i64 ep, .int .i64 num, .slice A k c]
  have hbz := al_below w (.cells #[.int .i64 ep, .int .i64 num, .slice A k c] 88)
  have hck := commit41 ⟨ep, num, A, k, c, os⟩ (w.alloc (.cells #[.int .i64 ep, .int .i64 num, .slice A k c] 88)) ((hos.keep hbz).more hbz.size) hk
  have HCK : Hid (Calls Tryz.prog 161 #[.agg #[.int .i64 ep, .int .i64 num, .slice A k c]] (w.alloc (.cells #[.int .i64 ep, .int .i64 num, .slice A k c] 88)) fun e w' => e = .returned (.int .i64 (Cmt.mk ep num os).k) ∧ Below (w.alloc (.cells #[.int .i64 ep, .int .i64 num, .slice A k c] 88)).heap.size (w.alloc (.cells #[.int .i64 ep, .int .i64 num, .slice A k c] 88)) w') := hid hck
  have HOS := hid hos
  have HBZ := hid hbz
  obtain ⟨z0, z1, z2, _⟩ := ccells kz
  have KZ := hid kz
  clear hck hos hbz kz
  obtain ⟨r, hr⟩ : ∃ r, (Cmt.mk ep num os).k = r := ⟨_, rfl⟩
  rw [hr] at HCK ⊢
  by_cases h0 : r = 0
  · subst h0
    rw [if_pos rfl]
    have hin : ((1 ≤ ep ∧ ep ≤ 1048576) ∧ 1 ≤ num ∧ num ≤ 1048576) ∧ bk os = 0 := by
      unfold Cmt.k at hr
      split at hr
      · rename_i h
        exact ⟨h, hr⟩
      · cases hr
    obtain ⟨⟨⟨e1, e2⟩, n1, n2⟩, hbk⟩ := hin
    obtain ⟨e, rfl⟩ : ∃ e : Nat, ep = e := ⟨ep.toNat, by omega⟩
    obtain ⟨m, rfl⟩ : ∃ m : Nat, num = m := ⟨num.toNat, by omega⟩
    have HBK := hid hbk
    clear hr hbk
    have hwe : IntKind.u64.wrap (e : Int) = (e : Int) := IntWalk.u64_in _ (by omega)
    have hwm : IntKind.u64.wrap (m : Int) = (m : Int) := IntWalk.u64_in _ (by omega)
    obtain ⟨b1, hb1⟩ : ∃ b1, b1 = [] ++ Vi.enc e := ⟨_, rfl⟩
    obtain ⟨b2, hb2⟩ : ∃ b2, b2 = b1 ++ Vi.enc m := ⟨_, rfl⟩
    have hl1 : b1.length ≤ 10 := by
      rw [hb1, List.nil_append]
      exact Vi.encF_len_le 9 e
    have hl2 : b2.length ≤ 20 := by
      rw [hb2, List.length_append]
      have := Vi.encF_len_le 9 m
      unfold Vi.enc
      omega
    have HB1 := hid hb1
    have HB2 := hid hb2
    clear hb1 hb2
    go_enter Tryz.func176, Tryz.ntmps176
    go_wp2_with (go_at_call 161; refine stop_ (fun Ps hPs => ?_))
    refine hPs ?_
    clear hPs Ps
    refine HCK.out.mono ?_
    rintro e' w1 ⟨rfl, hw1⟩
    have HW1 := hid (bl_trans HBZ.out hw1 HBZ.out.size)
    have HK1 := hid (KZ.out.later hw1)
    have hsz1 := HW1.out.size
    clear z0 z1 z2 hw1
    obtain ⟨z0, z1, z2, _⟩ := ccells HK1.out
    go_wp2_with fail
    have y0 : w1.drew.cell? ⟨w.heap.size, 0, none⟩ = some (.int .i64 e) := z0
    have y1 : w1.drew.cell? ⟨w.heap.size, 1, none⟩ = some (.int .i64 m) := z1
    have y2 : w1.drew.cell? ⟨w.heap.size, 2, none⟩ = some (.slice A k c) := z2
    have HKD : Hid (Blk w1.drew w.heap.size 88 #[.int .i64 (e : Int), .int .i64 (m : Int), .slice A k c]) := hid HK1.out
    have HR0 : Hid (Calls Tryz.prog 167 #[.slice none 0 0, .int .u64 (e : Nat)] w1.drew (Fresh w1.drew b1)) := hid (append_as none 0 0 [] b1 e w1.drew HB1.out ⟨rfl, fun h => absurd h (Nat.lt_irrefl _)⟩ (by omega) (by omega))
    go_region_held3 (fun w' => w'.cell? ⟨w.heap.size, 0, none⟩ = some (.int .i64 e) ∧ w'.cell? ⟨w.heap.size, 1, none⟩ = some (.int .i64 m) ∧ w'.cell? ⟨w.heap.size, 2, none⟩ = some (.slice A k c)) (first | exact ⟨y0, y1, y2⟩ | exact HS2.out | exact HS3.out | exact HS4.out)
      (first
      | (go_at_call 167; (with_reducible refine HR0.out.mono ?_); rintro e' w2 ⟨v2, rfl, ho2, hw2⟩; have HK2 := hid (HKD.out.later hw2); have HS2 := hid (And.intro (ccells HK2.out).1 (And.intro (ccells HK2.out).2.1 (ccells HK2.out).2.2.1)); have HO2 := hid ho2; have HW2 : Hid (Below w1.heap.size w1 w2) := hid (below_src hw2); obtain ⟨A2, c2, rfl, _⟩ := owned_slice ho2; clear ho2 hw2)
      | (go_at_call 167; (with_reducible refine (append_as A2 b1.length c2 b1 b2 m w2 HB2.out (Rd.of_own HO2.out) (by omega) (by omega)).mono ?_); rintro e' w3 ⟨v3, rfl, ho3, hw3⟩; have HK3 := hid (HK2.out.later hw3); have HS3 := hid (And.intro (ccells HK3.out).1 (And.intro (ccells HK3.out).2.1 (ccells HK3.out).2.2.1)); have HO3 := hid ho3; have HW3 := hid hw3; have HOS3 := hid ((HOS.out.keep (bl_trans (bl_trans HW1.out HW2.out hsz1) HW3.out (Nat.le_trans hsz1 HW2.out.size))).more (Nat.le_trans (Nat.le_trans hsz1 HW2.out.size) HW3.out.size)); obtain ⟨A3, c3, rfl, _⟩ := owned_slice ho3; clear ho3 hw3)
      | (go_at_call 206; (with_reducible refine (append206 (w := w3) (A := A3) (n := b2.length) (c := c3) (b := b2) (os := os) (Rd.of_own HO3.out) (by omega) HOS3.out hk hkc).mono ?_); rw [if_pos HBK.out]; rintro e' w4 ⟨v4, rfl, ho4, hw4⟩; have HK4 := hid (HK3.out.later hw4); have HS4 := hid (And.intro (ccells HK4.out).1 (And.intro (ccells HK4.out).2.1 (ccells HK4.out).2.2.1)); have HO4 := hid ho4; have HW4 := hid hw4; clear ho4 hw4))
    go_wp2_with fail
    go_ret2
    have hsz2 : w.heap.size ≤ w2.heap.size := Nat.le_trans hsz1 HW2.out.size
    have hsz3 : w.heap.size ≤ w3.heap.size := Nat.le_trans hsz2 HW3.out.size
    refine ⟨v4, rfl, ?_, bl_trans (bl_trans (bl_trans HW1.out HW2.out hsz1) HW3.out hsz2) HW4.out hsz3⟩
    have h1 := owned_less HO4.out hsz3
    rw [show b2 ++ encB os = encC ⟨e, m, os⟩ by rw [HB2.out, HB1.out]; simp [encC]] at h1
    exact h1
  · rw [if_neg h0]
    clear hr
    go_enter Tryz.func176, Tryz.ntmps176
    go_wp2_with (go_at_call 161; refine stop_ (fun Ps hPs => ?_))
    refine hPs ?_
    clear hPs Ps
    refine HCK.out.mono ?_
    rintro e' w1 ⟨rfl, hw1⟩
    have HW1 := hid (bl_trans HBZ.out hw1 HBZ.out.size)
    clear hw1
    go_wp2_with fail
    go_ret2
    exact ⟨rfl, HW1.out⟩
end Go.Proofs.YtbpnbcjgkbpmgaaGreat
