/- A primary answers without waiting for the other site, as many times as its leash allows: of any acts. No condition. (part 29) -/
import Derived.Test.YtbpnbcjgkbpmgaaGreatMBb
namespace Go.Proofs.YtbpnbcjgkbpmgaaGreat
open Go.RowKit Go.Lg Ds St
set_option linter.unusedVariables false
set_option linter.unusedSimpArgs false
def ShipIs (ep fr pv : Nat) (cs : List Cmt) (w : World) (e : Ending) (w' : World) : Prop :=
  ∃ v ms, e = .returned (.tuple #[.agg (msgc 2 ep 0 0 nils fr pv v), .int .i64 0]) ∧ ms.map Cm.p = cs ∧ Cl w' (fun k => w.heap.size ≤ k) v ms ∧ Below w.heap.size w w'
theorem encCs_drop {l : List Cmt} {j : Nat} {c : Cmt} (h : l[j]? = some c) : encCs (l.drop j) = Vi.enc (encC c).length ++ (encC c ++ encCs (l.drop (j + 1))) := by
  obtain ⟨hj, rfl⟩ := List.getElem?_eq_some_iff.1 h
  rw [List.drop_eq_getElem_cons hj]
  simp only [encCs, Pp.encN, List.flatMap_cons, List.flatMap_nil, List.append_nil, List.append_assoc]
theorem Dec1.com {w X : World} {mz : Nat} {cs : Array Value} {m : Cmt} {r : Bys} (h : Dec1 w X mz cs (Vi.enc (encC m).length ++ (encC m ++ r))) (hk : m.k = 0) (hr : r.length ≤ 1000000) (X' : World) (l : Lat X X') :
    Calls Tryz.prog 120 #[P (w.heap.size + 1)] X' fun e w' => ∃ A c, e = .returned (cmv m.ep m.num A m.os.length c) ∧ Dec1 w w' mz cs r ∧ Mod (fun k => k = w.heap.size + 1) X w' ∧ Sl w' (fun k => mz < k) 77 3 (.slice A m.os.length c) m.os.length (opc m.os) := by
  have h1 := h.later l
  refine (lcommit120 h1.lr hk hr).mono ?_
  rintro e w' ⟨A, c, rfl, hs, hl, hm⟩
  refine ⟨A, c, rfl, h1.next hl hm, (l.mod _).trans_ hm, hs.to fun k hk => ?_⟩
  have := h1.box.lt
  have h2 : X'.heap.size ≤ k := hk
  show mz < k
  omega
theorem Dec1.csnoc {w X w8 : World} {mz n8 : Nat} {cs cs' : Array Value} {r : Bys} {o : Obj} {v v8 : Value} {ms : List Cm} {m : Cm} (h : Dec1 w X mz cs r) (hs : Cl X (fun k => mz < k) v ms) (ho : Sl X (fun k => mz < k) 77 3 (.slice m.A m.n m.c) m.n (opc m.os)) (hl : m.os.length = m.n)
    (hv : Sl w8 (fun k => mz < k ∨ (X.alloc o).heap.size ≤ k) 88 3 v8 n8 (cmc ms ++ [.int .i64 m.ep, .int .i64 m.num, .slice m.A m.n m.c])) (hn : n8 = ms.length + 1) (hg : (X.alloc o).grownBy w8 v.ownBlock) (hcs : cs.setIfInBounds 7 v8 = cs') :
    Blk w8 mz 147 cs ∧ Dec1 w (w8.setCell ⟨mz, 7, none⟩ v8) mz cs' r ∧ Cl (w8.setCell ⟨mz, 7, none⟩ v8) (fun k => mz < k) v8 (ms ++ [m]) := by
  subst hn
  have m8 : Mod (fun k => mz < k) X w8 := (Mod.alloc _ X o).trans_ (Mod.grown hg fun g hg => (hs.row.lt g hg).1)
  have d8 := h.keep m8 fun k hk => hk
  have hmz := h.box.lt
  have hsz := (Lat.alloc (Lat.refl X) o).size
  refine ⟨d8.box, by rw [← hcs]; exact d8.set 7 v8, Cl.setz (cs := cs) ⟨?_, fun x hx => ?_⟩ d8.box (by decide) (by decide) 7 v8⟩
  · rw [cmc_snoc, List.length_append, List.length_singleton]
    exact hv.to fun k hk => by
      rcases hk with h1 | h1
      · exact h1
      · show mz < k
        omega
  · have hrow := hs.row.alloc o
    rcases List.mem_append.1 hx with hx | hx
    · have h1 := ((hs.ops x hx).1).alloc o
      exact ⟨h1.gb hg fun g h2 e => h1.ne_sl hrow (by decide) g h2 e.symm, (hs.ops x hx).2⟩
    · obtain rfl := List.mem_singleton.1 hx
      have h1 := ho.alloc o
      exact ⟨h1.gb hg fun g h2 e => h1.ne_sl hrow (by decide) g h2 e.symm, hl⟩
theorem cl_len {w : World} {F : Fp} {v : Value} {ms : List Cm} (h : Cl w F v ms) : ∃ A c, v = .slice A ms.length c ∧ ms.length ≤ c ∧ c ≤ maxLen := h.row.slice_
set_option maxHeartbeats 4000000 in
set_option maxRecDepth 100000 in
theorem decode_ship {w : World} {A : Option Addr} {c ep fr pv : Nat} {cs : List Cmt} (h : Rd w w.heap.size 1 A (Msg.ship ep fr pv cs).enc.length (bts (Msg.ship ep fr pv cs).enc)) (hc : (Msg.ship ep fr pv cs).enc.length ≤ c) (hcm : c ≤ maxLen)
    (f1 : 1 ≤ fr) (f2 : fr ≤ 1048576) (p2 : pv ≤ ep) (hpf : pv = 0 ↔ fr = 1) (hn : cs.length ≤ 4) (hks : ∀ c ∈ cs, c.k = 0) (hfo : ∀ ms, ms.map Cm.p = cs → fol pv (fr - 1) 0 ms = (0, 0)) (hall : ∀ c ∈ cs, c.ep ≤ ep) (e1 : 1 ≤ ep) (e2 : ep ≤ 1048576) :
    Calls Tryz.prog 77 #[.slice A (Msg.ship ep fr pv cs).enc.length c] w (ShipIs ep fr pv cs w) := by
  obtain ⟨b, hb⟩ : ∃ b, b = (Msg.ship ep fr pv cs).enc := ⟨_, rfl⟩
  rw [← hb] at h hc ⊢
  obtain ⟨hl0, hq0, ll0⟩ := Dec1.start h hc hcm
  obtain ⟨n, hnn⟩ : ∃ n, n = cs.length := ⟨_, rfl⟩
  have hb' : b = Vi.enc 2 ++ (Vi.enc ep ++ (Vi.enc fr ++ (Vi.enc pv ++ (Vi.enc n ++ encCs cs)))) := by rw [hb, hnn]; simp [Msg.enc, Pp.encN]
  obtain ⟨W, hW⟩ : ∃ W, W = (w.alloc (.cells (msgc 0 0 0 0 nils 0 0 nils) 147)).alloc (.cells #[.slice A b.length c, .bool false] 196) := ⟨_, rfl⟩
  have hsz : W.heap.size = w.heap.size + 2 := by rw [hW]; simp
  rw [← hW] at hl0 hq0 ll0
  rw [hb'] at hl0
  rw [← hnn] at hn
  have HL0 := hid hl0
  have HQ0 := hid hq0
  have HLL := hid ll0
  have HKS := hid hks
  have HN := hid hnn
  have HFO := hid hfo
  have HALL := hid hall
  have HPF := hid hpf
  clear hl0 hq0 ll0 h hb hb' hks hnn hfo hall hpf
  go_enter Tryz.func77, Tryz.ntmps77
  go_upto_region 2 with fail
  rw [← hW]
  clear hW
  have HN1 := hid (lnum119 (most := 3) HL0.out (by omega) (by omega))
  go_upto_region 3 with (first
    | (go_at_call 119; (with_reducible refine HN1.out.mono ?_); rintro e' w1 ⟨rfl, hr1, hm1⟩; have HN2 := hid (lnum119 (most := 1048576) hr1 (by omega) (by omega)); have HM1 := hid hm1; clear hr1 hm1)
    | (go_at_call 119; (with_reducible refine HN2.out.mono ?_); rintro e' w2 ⟨rfl, hr2, hm2⟩))
  have hD := Dec1.box_ (msgc 2 ep 0 0 nils 0 0 nils) HQ0.out HLL.out hsz hr2 (HM1.out.trans_ hm2)
  obtain ⟨w3, hw3⟩ : ∃ w3, w3 = w2.alloc (.cells (msgc 2 ep 0 0 nils 0 0 nils) 147) := ⟨_, rfl⟩
  rw [← hw3] at hD ⊢
  obtain ⟨mz, hmz⟩ : ∃ mz, mz = w2.heap.size := ⟨_, rfl⟩
  rw [← hmz] at hD ⊢
  clear hw3 hmz hr2 hm2
  obtain ⟨c0, c1, c2, c3, c4, c5, c6, c7⟩ := mcells hD.box
  have HN3 := hid (hD.num 1048576 (by omega) (by omega))
  have HD := hid hD
  clear hD
  go_upto_region 12 with (first
    | (go_at_call 119; (with_reducible refine HN3.out.mono ?_); rintro e' w4 ⟨rfl, hd4, hm4⟩; have HN4 := hid (hd4.num 1048576 (by omega) (by omega)); clear hd4 hm4)
    | (go_at_call 119; (with_reducible refine HN4.out.mono ?_); rintro e' w5 ⟨rfl, hd5, hm5⟩; obtain ⟨f0, f1', f2', f3, f4, f5, f6, f7⟩ := mfroz hd5.box; clear c0 c1 c2 c3 c4 c5 c6 c7; obtain ⟨c0, c1, c2, c3, c4, c5, c6, c7⟩ := mcells hd5.box))
  have hD6 := (hd5.set 5 (.int .i64 fr)).set 6 (.int .i64 pv)
  obtain ⟨w6, hw6⟩ : ∃ w6, w6 = (w5.setCell ⟨mz, 5, none⟩ (.int .i64 fr)).setCell ⟨mz, 6, none⟩ (.int .i64 pv) := ⟨_, rfl⟩
  rw [← hw6] at hD6 ⊢
  have hD6 : Dec1 w w6 mz (msgc 2 ep 0 0 nils fr pv nils) (Vi.enc n ++ encCs cs) := hD6
  clear hw6 c0 c1 c2 c3 c4 c5 c6 c7 f0 f1' f2' f3 f4 f5 f6 f7 hd5 hm5 HN3 HN4
  have HN5 := hid (hD6.num 4 (by omega) (by omega))
  clear hD6
  go_wp2_with ((go_at_call 119; (with_reducible refine HN5.out.mono ?_); rintro e' w7 ⟨rfl, hd7, hm7⟩; have HD7 := hid hd7; clear hd7 hm7))
  clear HN5 HN1 HN2
  go_loopg [7] n (fun g i wr => ∃ (j : Nat) (vC : Value) (ms : List Cm), j ≤ n ∧ g = n - j ∧ i = .int .i64 ((n - j : Nat) : Int) ∧ Hid (Dec1 w wr mz (msgc 2 ep 0 0 nils fr pv vC) (encCs (cs.drop j))) ∧ Hid (Cl wr (fun k => mz < k) vC ms) ∧ Hid (ms.map Cm.p = cs.take j ∧ ms.length = j))
  case atStart => exact ⟨0, nils, [], by omega, rfl, by rw [Nat.sub_zero], by rw [List.drop_zero]; exact HD7, hid (Cl.nil_ _ _), hid ⟨by simp, rfl⟩⟩
  case round =>
    obtain ⟨j, vC, ms, hj, rfl, rfl, hd, hs, hms⟩ := hrel
    obtain ⟨A4, c4, hv4, _, _⟩ := cl_len hs.out
    rw [hms.out.2] at hv4
    subst hv4
    by_cases hlt : j < n
    · obtain ⟨p, hp⟩ : ∃ p, cs[j]? = some p := ⟨cs[j]'(by rw [← HN.out]; omega), List.getElem?_eq_getElem _⟩
      have hpk := HKS.out p (List.mem_of_getElem? hp)
      have hd' := hd.out
      rw [encCs_drop hp] at hd'
      obtain ⟨Ar, cr, hkr, _⟩ := hd'.lr.is_
      have r1 : wr.cell? ⟨w.heap.size + 1, 1, none⟩ = some (.bool false) := hkr.cell 1
      have hpos : (0 : Int) < ((n - j : Nat) : Int) := by omega
      have hw1 : IntKind.i64.wrap (((n - j : Nat) : Int) - 1) = ((n - (j + 1) : Nat) : Int) := by rw [IntWalk.i64_in _ (by omega)]; omega
      have hrl : (encCs (cs.drop (j + 1))).length ≤ 1000000 := by
        have h1 := encCs_le (cs.drop (j + 1)) (fun c hc => HKS.out c (List.mem_of_mem_drop hc))
        rw [List.length_drop, ← HN.out] at h1
        omega
      have HD' := hid hd'
      have HPK := hid hpk
      have HNA := hid (hd'.com hpk hrl)
      clear hkr hd' hpk
      go_upto_region 15 with fail
      have y4 : wr.cell? ⟨mz, 7, none⟩ = some (.slice A4 j c4) := HD'.out.box.cell 7
      have HSL := hid hs.out
      have hz9 := HD'.out.hz
      have djz : Dj (fun k => mz < k) (fun k => k = w.heap.size + 1) := fun k a b => by have h1 : mz < k := a; have h2 : k = w.heap.size + 1 := b; omega
      have HDJ := hid djz
      clear djz
      go_region_law
        (first
        | (refine step_appS (c := 1) T46 (.tmp 72) (.tmp 75) rfl (by rfl) (HROW.out.alloc (.cells (cmcs p.ep p.num AA p.os.length cA) 88)) (by go_simp) (RdF.lit wA (cmcs p.ep p.num AA p.os.length cA) 88 1 3 rfl) (by go_simp) (by simp [Value.oneCell']) (by omega) ?_; intro v8 w8 hv8 hg8 hat8; obtain ⟨A8, c8, rfl, _, _⟩ := hv8.slice_; obtain ⟨k8, hd8, hs8⟩ := HDA.out.csnoc (m := ⟨p.ep, p.num, AA, p.os.length, cA, p.os⟩) (cs' := msgc 2 ep 0 0 nils fr pv (.slice A8 (j + 1) c8)) HSA.out HOA.out rfl hv8 (by rw [hms.out.2]) hg8 rfl; have y8 : w8.cell? ⟨mz, 7, none⟩ = some (.slice A4 j c4) := k8.cell 7; have g8 : w8.frozen? ⟨mz, 7, none⟩ = false := k8.frozen 7; have HD8 := hid hd8; have HS8 := hid hs8; clear hd8 hs8 k8 hv8 hg8 hat8)
        | (go_simp; go_at_call 120; (with_reducible refine (HNA.out _ (by repeat (first | exact Lat.refl _ | refine Lat.drew ?_ | refine Lat.drewN ?_ _))).mono ?_); rintro e' wA ⟨AA, cA, rfl, hdA, hmA, hoA⟩; have yA : wA.cell? ⟨mz, 7, none⟩ = some (.slice A4 j c4) := hdA.box.cell 7; have yC : (wA.alloc (.cells (cmcs p.ep p.num AA p.os.length cA) 88)).cell? ⟨mz, 7, none⟩ = some (.slice A4 j c4) := (hdA.box.alloc _).cell 7; have HDA := hid hdA; have HOA := hid hoA; have HSA := hid (HSL.out.mv (hmA.mv HDJ.out)); have HROW : Hid (Sl wA (fun k => mz < k) 88 3 (.slice A4 j c4) j (cmc ms)) := hid (by have := HSA.out.row; rwa [hms.out.2] at this); clear hdA hmA hoA))
      all_goals
        obtain ⟨W9, hW9⟩ : ∃ W9, W9 = w8.setCell ⟨mz, 7, none⟩ (.slice A8 (j + 1) c8) := ⟨_, rfl⟩
        rw [← hW9] at HD8 HS8 ⊢
        clear hW9 y8 g8
        go_wp2_with fail
        go_roundg (n - (j + 1))
        case measure => omega
        case rel =>
          refine ⟨j + 1, _, _, by omega, rfl, by go_num, HD8, HS8, hid ⟨?_, ?_⟩⟩
          · rw [List.map_append, hms.out.1, take_succ_get? hp]; rfl
          · rw [List.length_append, hms.out.2]; rfl
    · obtain rfl : j = n := by omega
      have hd' := hd.out
      rw [List.drop_of_length_le (by rw [← HN.out]; exact Nat.le_refl _), show encCs [] = [] from rfl] at hd'
      have hms' := hms.out.1
      rw [List.take_of_length_le (by rw [← HN.out]; exact Nat.le_refl _)] at hms'
      have hcsX : CS wr wr.heap.size A4 j ms := hs.out.cs hms.out.2
      have hck := lcheck121 (w := wr) (Mok.ship (w := wr) (B := wr.heap.size) ep fr pv A4 j c4 ms hcsX (by omega) (by omega) (by omega) (by omega) (by have := HPF.out; omega) hn (HFO.out ms hms') (fun m hm => HALL.out m.p (by rw [← hms']; exact List.mem_map.2 ⟨m, hm, rfl⟩)) (by omega) (by omega))
      obtain ⟨Ar, cr, r0, r1⟩ := hd'.fin
      obtain ⟨c0, c1, c2, c3, c4', c5, c6, c7⟩ := mcells hd'.box
      have HD5 := hid hd'
      have HMS := hid hms'
      clear hd' hms' hcsX
      go_upto_region 20 with ((go_at_call 121; (with_reducible refine hck.mono ?_); rintro e' w6 ⟨rfl, hb6⟩))
      have hD6 := HD5.out.later ⟨hb6⟩
      obtain ⟨q0, q1, q2, q3, q4, q5, q6, q7⟩ := mcells hD6.res
      obtain ⟨f0, f1', f2', f3, f4, f5, f6, f7⟩ := mfroz hD6.res
      obtain ⟨hk, hb, hm⟩ := res_set 2 ep 0 0 fr pv nils (.slice A4 j c4) hD6.res hD6.bl
      clear r0 r1 c0 c1 c2 c3 c4' c5 c6 c7
      obtain ⟨c0, c1, c2, c3, c4', c5, c6, c7⟩ := mcells hD6.box
      obtain ⟨p0, p1, p2', p3, p4, p5, p6, p7⟩ := mcells hk
      have HBB := hid hb
      have hzz := hD6.hz
      have HS6 := hid (((hs.out.later hb6).mv (hm.mv fun k a b => by have h1 : mz < k := a; have h2 : k = w.heap.size := b; omega)).to (G := fun k => w.heap.size ≤ k) fun k a => by have h1 : mz < k := a; show w.heap.size ≤ k; omega)
      clear hk hb hm hb6 hck hD6
      go_wp2_with fail
      refine bodyPost_ret (by simp [results, Tryz.results77, go_sem, p0, p1, p2', p3, p4, p5, p6, p7]; try rfl) rfl ?_
      exact ⟨_, ms, rfl, HMS.out, HS6.out, HBB.out⟩
end Go.Proofs.YtbpnbcjgkbpmgaaGreat
namespace Go.Proofs.YtbpnbcjgkbpmgaaGreat
open Go.RowKit Go.Lg Ds St
set_option linter.unusedVariables false
set_option linter.unusedSimpArgs false
def One : Nat → List Cmt → Prop
  | _, [] => True
  | k, c :: r => c.k = 0 ∧ c.num = (k : Int) + 1 ∧ c.ep = 1 ∧ One (k + 1) r
theorem One.app : ∀ {k : Nat} {a b : List Cmt}, One k a → One (k + a.length) b → One k (a ++ b)
  | _, [], b, _, h => by simpa using h
  | k, c :: a, b, h1, h2 => ⟨h1.1, h1.2.1, h1.2.2.1, One.app h1.2.2.2 (by simpa [Nat.add_assoc, Nat.add_comm 1] using h2)⟩
theorem One.snoc {a : List Cmt} (h : One 0 a) {os : List Op3} {num : Int} (hn : num = a.length + 1) (hk : (Cmt.mk 1 num os).k = 0) : One 0 (a ++ [⟨1, num, os⟩]) :=
  h.app ⟨hk, by simp; omega, rfl, trivial⟩
theorem One.drop : ∀ {k : Nat} {a : List Cmt} (j : Nat), One k a → One (k + j) (a.drop j)
  | _, a, 0, h => by simpa using h
  | _, [], j + 1, h => by simp [One]
  | k, c :: a, j + 1, h => by
    have := One.drop j h.2.2.2
    rw [show k + (j + 1) = k + 1 + j by omega]
    simpa using this
theorem One.take : ∀ {k : Nat} {a : List Cmt} (j : Nat), One k a → One k (a.take j)
  | _, a, 0, h => by simp [One]
  | _, [], j + 1, h => by simp [One]
  | k, c :: a, j + 1, h => ⟨h.1, h.2.1, h.2.2.1, One.take j h.2.2.2⟩
theorem One.at_ : ∀ {k : Nat} {a : List Cmt} {j : Nat} {c : Cmt}, One k a → a[j]? = some c → c.k = 0 ∧ c.num = (k : Int) + j + 1 ∧ c.ep = 1
  | _, [], j, c, _, h => by cases h
  | k, d :: a, 0, c, h, e => by
    simp at e
    subst e
    exact ⟨h.1, by have := h.2.1; omega, h.2.2.1⟩
  | k, d :: a, j + 1, c, h, e => by
    have := One.at_ h.2.2.2 (by simpa using e)
    exact ⟨this.1, by omega, this.2.2⟩
theorem One.mem {k : Nat} {a : List Cmt} {c : Cmt} (h : One k a) (hc : c ∈ a) : c.k = 0 ∧ c.ep = 1 := by
  obtain ⟨j, hj⟩ := List.mem_iff_getElem?.1 hc
  exact ⟨(h.at_ hj).1, (h.at_ hj).2.2⟩
theorem One.fol_ : ∀ {ms : List Cm} {k : Nat} {ep : Int} {i : Nat}, One k (ms.map Cm.p) → ep ≤ 1 → fol ep k i ms = (0, 0)
  | [], _, _, _, _, _ => rfl
  | m :: r, k, ep, i, h, he => by
    obtain ⟨h1, h2, h3, h4⟩ := h
    have h1' : m.k = 0 := h1
    have h2' : m.num = (k : Int) + 1 := h2
    have h3' : m.ep = 1 := h3
    unfold fol
    rw [if_neg (by simp [h1']), if_neg (by omega), h2', h3']
    have := One.fol_ (i := i + 1) (ep := 1) h4 (by omega)
    simpa using this
def st1 (n : Nat) : List (Nat × Nat) := if n = 0 then [] else [(1, 1)]
theorem tl_one {ms : List Cm} (h : One 0 (ms.map Cm.p)) : tl ms = si (st1 ms.length) := by
  have key : ∀ (r : List Cm) (k : Nat), One k (r.map Cm.p) → r.foldl (fun acc m => gr acc m.ep m.num) [(1, 1)] = [(1, 1)] := by
    intro r
    induction r with
    | nil => intro k h; rfl
    | cons m r ih =>
      intro k h
      have h3 : m.ep = 1 := h.2.2.1
      simp only [List.foldl_cons]
      rw [show gr [(1, 1)] m.ep m.num = [(1, 1)] by unfold gr; rw [if_pos]; simp [Sl.E, h3]]
      exact ih _ h.2.2.2
  cases ms with
  | nil => rfl
  | cons m r =>
    have h3 : m.ep = 1 := h.2.2.1
    have h2 : m.num = 1 := by have h5 : m.num = ((0 : Nat) : Int) + 1 := h.2.1; omega
    simp only [tl, List.foldl_cons]
    rw [show gr [] m.ep m.num = [(1, 1)] by unfold gr; rw [if_neg (by simp), h2, h3]; rfl]
    exact key r 1 h.2.2.2
theorem st1_ok (n : Nat) (hn : n ≤ 1048576) : Sl.ok (si (st1 n)) n := by
  unfold st1
  rcases Nat.eq_zero_or_pos n with h | h
  · subst h
    rw [if_pos rfl]
    refine ⟨?_, fun i hi => by simp [si] at hi⟩
    simp [Sl.head, si]
  · rw [if_neg (by omega)]
    refine ⟨?_, fun i hi => ?_⟩
    · simp [Sl.head, si, Sl.F]; omega
    · have : i = 0 := by simp [si] at hi; omega
      subst this
      simp [Sl.good, si, Sl.E, Sl.F]; omega
theorem st1_len (n : Nat) : (st1 n).length ≤ 1 := by unfold st1; split <;> simp
theorem st1_last (n : Nat) (h : 0 < (st1 n).length) : Sl.E (si (st1 n)) ((st1 n).length - 1) ≤ 1 := by
  unfold st1 at h ⊢
  split at h
  · simp at h
  · rename_i h0
    rw [if_neg h0]; simp [Sl.E, si]
theorem st1_sm (n : Nat) : ∀ p ∈ st1 n, p.1 ≤ 1048576 ∧ p.2 ≤ 1048576 := by
  unfold st1
  split
  · simp
  · simp
theorem lastEp_one {cs : List Cmt} (h : One 0 cs) : lastEp cs ≤ 1 := by
  unfold lastEp
  cases hc : cs.getLast? with
  | none => simp
  | some c =>
    have := (h.mem (List.mem_of_getLast? hc)).2
    simp [this]
end Go.Proofs.YtbpnbcjgkbpmgaaGreat
