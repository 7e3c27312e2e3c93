/- A primary answers without waiting for the other site, as many times as its leash allows: of any acts. No condition. (part 28) -/
import Derived.Test.YtbpnbcjgkbpmgaaGreatMBa
namespace Go.Proofs.YtbpnbcjgkbpmgaaGreat
open Go.RowKit Go.Lg Ds St
set_option linter.unusedVariables false
set_option linter.unusedSimpArgs false
structure Dec1 (w X : World) (mz : Nat) (cs : Array Value) (r : Bys) : Prop where
  hz : w.heap.size + 1 < mz
  lr : Lr X w.heap.size (w.heap.size + 1) r
  box : Blk X mz 147 cs
  res : Blk X w.heap.size 147 (msgc 0 0 0 0 nils 0 0 nils)
  bl : Below w.heap.size w X
theorem Dec1.later {w X X' : World} {mz : Nat} {cs : Array Value} {r : Bys} (h : Dec1 w X mz cs r) (l : Lat X X') : Dec1 w X' mz cs r :=
  ⟨h.hz, h.lr.later l, l.blk h.box, l.blk h.res, h.bl.trans (l.b.mono h.bl.size)⟩
theorem Dec1.next {w X X' : World} {mz : Nat} {cs : Array Value} {r r' : Bys} (h : Dec1 w X mz cs r) (l : Lr X' w.heap.size (w.heap.size + 1) r') (m : Mod (fun k => k = w.heap.size + 1) X X') : Dec1 w X' mz cs r' :=
  ⟨h.hz, l, h.box.mod m (by have := h.hz; omega), h.res.mod m (by omega), h.bl.trans ⟨m.os, m.tape, m.output, m.size, fun k hk => m.block k (Nat.lt_of_lt_of_le hk h.bl.size) (by omega)⟩⟩
theorem Dec1.boxed {w X X' : World} {mz : Nat} {cs cs' : Array Value} {r : Bys} (h : Dec1 w X mz cs r) (m : Mod (fun k => k = mz) X X') (k : Blk X' mz 147 cs') : Dec1 w X' mz cs' r := by
  have hz := h.hz
  exact ⟨hz, h.lr.mod m (by omega) (fun k hk => by have h1 : k = mz := hk; omega), k, h.res.mod m (by omega), h.bl.trans ⟨m.os, m.tape, m.output, m.size, fun k hk => m.block k (Nat.lt_of_lt_of_le hk h.bl.size) (by omega)⟩⟩
theorem Dec1.set {w X : World} {mz : Nat} {cs : Array Value} {r : Bys} (h : Dec1 w X mz cs r) (i : Nat) (u : Value) : Dec1 w (X.setCell ⟨mz, i, none⟩ u) mz (cs.setIfInBounds i u) r :=
  h.boxed (mod_set X mz i u) (h.box.set_ i u)
theorem Dec1.num {w X : World} {mz : Nat} {cs : Array Value} {x : Nat} {r : Bys} (most : Int) (h : Dec1 w X mz cs (Vi.enc x ++ r)) (hm : (x : Int) ≤ most) (h2 : most ≤ 1000000000000) :
    Calls Tryz.prog 119 #[P (w.heap.size + 1), .int .i64 most] X fun e w' => e = .returned (.int .i64 (x : Int)) ∧ Dec1 w w' mz cs r ∧ Mod (fun k => k = w.heap.size + 1) X w' :=
  (lnum119 h.lr hm h2).mono fun _ _ q => ⟨q.1, h.next q.2.1 q.2.2, q.2.2⟩
theorem Dec1.start {w : World} {A : Option Addr} {b : Bys} {c : Nat} (h : Rd w w.heap.size 1 A b.length (bts b)) (hc : b.length ≤ c) (hm : c ≤ maxLen) :
    Lr ((w.alloc (.cells (msgc 0 0 0 0 nils 0 0 nils) 147)).alloc (.cells #[.slice A b.length c, .bool false] 196)) w.heap.size (w.heap.size + 1) b ∧
    Blk ((w.alloc (.cells (msgc 0 0 0 0 nils 0 0 nils) 147)).alloc (.cells #[.slice A b.length c, .bool false] 196)) w.heap.size 147 (msgc 0 0 0 0 nils 0 0 nils) ∧
    Lat w ((w.alloc (.cells (msgc 0 0 0 0 nils 0 0 nils) 147)).alloc (.cells #[.slice A b.length c, .bool false] 196)) := by
  have l : Lat w ((w.alloc (.cells (msgc 0 0 0 0 nils 0 0 nils) 147)).alloc (.cells #[.slice A b.length c, .bool false] 196)) := ((Lat.refl w).alloc _).alloc _
  refine ⟨⟨Nat.le_succ _, A, c, ?_, hc, hm, (RdF.of_rd h (fun k hk => hk)).mv (bmv l.b _)⟩, (Blk.new w 147 _).alloc _, l⟩
  have := Blk.new (w.alloc (.cells (msgc 0 0 0 0 nils 0 0 nils) 147)) 196 #[.slice A b.length c, .bool false]
  rwa [World.size_alloc] at this
theorem Dec1.box_ {w W w2 : World} {r : Bys} (cs : Array Value) (hq : Blk W w.heap.size 147 (msgc 0 0 0 0 nils 0 0 nils)) (hl : Lat w W) (hs : W.heap.size = w.heap.size + 2) (h : Lr w2 w.heap.size (w.heap.size + 1) r) (m : Mod (fun k => k = w.heap.size + 1) W w2) : Dec1 w (w2.alloc (.cells cs 147)) w2.heap.size cs r := by
  have l : Lat w2 (w2.alloc (.cells cs 147)) := (Lat.refl w2).alloc _
  have h1 := m.size
  have h2 := hl.size
  exact ⟨by omega, h.later l, Blk.new w2 147 cs, l.blk (hq.mod m (by omega)), (hl.b.trans ⟨m.os, m.tape, m.output, m.size, fun k hk => m.block k (Nat.lt_of_lt_of_le hk h2) (by omega)⟩).trans (l.b.mono (Nat.le_trans h2 h1))⟩
theorem Dec1.fin {w X : World} {mz : Nat} {cs : Array Value} (h : Dec1 w X mz cs []) : ∃ A c, X.cell? ⟨w.heap.size + 1, 0, none⟩ = some (.slice A 0 c) ∧ X.cell? ⟨w.heap.size + 1, 1, none⟩ = some (.bool false) := by
  obtain ⟨A, c, h1, _⟩ := h.lr.is_
  exact ⟨A, c, h1.cell 0, h1.cell 1⟩
theorem mod_setc {X Y : World} {z : Nat} (m : Mod (fun i => i = z) X Y) (i : Nat) (v : Value) : Mod (fun i => i = z) X (Y.setCell ⟨z, i, none⟩ v) := m.trans_ (mod_set Y z i v)
abbrev setm (X : World) (z : Nat) (k ep ro en : Int) (vS : Value) (fr pv : Int) (vC : Value) : World :=
  (((((((X.setCell ⟨z, 0, none⟩ (.int .i64 k)).setCell ⟨z, 1, none⟩ (.int .i64 ep)).setCell ⟨z, 2, none⟩ (.int .u8 ro)).setCell ⟨z, 3, none⟩ (.int .i64 en)).setCell ⟨z, 4, none⟩ vS).setCell ⟨z, 5, none⟩ (.int .i64 fr)).setCell ⟨z, 6, none⟩ (.int .i64 pv)).setCell ⟨z, 7, none⟩ vC
theorem res_set {w X : World} (k ep ro en fr pv : Int) (vS vC : Value) (q : Blk X w.heap.size 147 (msgc 0 0 0 0 nils 0 0 nils)) (hb : Below w.heap.size w X) :
    Blk (setm X w.heap.size k ep ro en vS fr pv vC) w.heap.size 147 (msgc k ep ro en vS fr pv vC) ∧ Below w.heap.size w (setm X w.heap.size k ep ro en vS fr pv vC) ∧ Mod (fun i => i = w.heap.size) X (setm X w.heap.size k ep ro en vS fr pv vC) := by
  have hm : Mod (fun i => i = w.heap.size) X (setm X w.heap.size k ep ro en vS fr pv vC) := mod_setc (mod_setc (mod_setc (mod_setc (mod_setc (mod_setc (mod_setc (mod_setc (Mod.refl _ _) 0 _) 1 _) 2 _) 3 _) 4 _) 5 _) 6 _) 7 _
  have q0 : Blk _ w.heap.size 147 (msgc k 0 0 0 nils 0 0 nils) := q.set_ 0 (.int .i64 k)
  have q1 : Blk _ w.heap.size 147 (msgc k ep 0 0 nils 0 0 nils) := q0.set_ 1 (.int .i64 ep)
  have q2 : Blk _ w.heap.size 147 (msgc k ep ro 0 nils 0 0 nils) := q1.set_ 2 (.int .u8 ro)
  have q3 : Blk _ w.heap.size 147 (msgc k ep ro en nils 0 0 nils) := q2.set_ 3 (.int .i64 en)
  have q4 : Blk _ w.heap.size 147 (msgc k ep ro en vS 0 0 nils) := q3.set_ 4 vS
  have q5 : Blk _ w.heap.size 147 (msgc k ep ro en vS fr 0 nils) := q4.set_ 5 (.int .i64 fr)
  have q6 : Blk _ w.heap.size 147 (msgc k ep ro en vS fr pv nils) := q5.set_ 6 (.int .i64 pv)
  have q7 : Blk _ w.heap.size 147 (msgc k ep ro en vS fr pv vC) := q6.set_ 7 vC
  refine ⟨q7, hb.trans ⟨hm.os, hm.tape, hm.output, hm.size, fun k hk => hm.block k (Nat.lt_of_lt_of_le hk hb.size) (by omega)⟩, hm⟩
theorem mfroz {w : World} {z : Nat} {cs : Array Value} (h : Blk w z 147 cs) : w.frozen? ⟨z, 0, none⟩ = false ∧ w.frozen? ⟨z, 1, none⟩ = false ∧ w.frozen? ⟨z, 2, none⟩ = false ∧ w.frozen? ⟨z, 3, none⟩ = false ∧ w.frozen? ⟨z, 4, none⟩ = false ∧ w.frozen? ⟨z, 5, none⟩ = false ∧ w.frozen? ⟨z, 6, none⟩ = false ∧ w.frozen? ⟨z, 7, none⟩ = false :=
  ⟨h.frozen 0, h.frozen 1, h.frozen 2, h.frozen 3, h.frozen 4, h.frozen 5, h.frozen 6, h.frozen 7⟩
set_option maxHeartbeats 4000000 in
set_option maxRecDepth 100000 in
theorem decode_ack {w : World} {A : Option Addr} {c ep en : Nat} (h : Rd w w.heap.size 1 A (Msg.ack ep en).enc.length (bts (Msg.ack ep en).enc)) (hc : (Msg.ack ep en).enc.length ≤ c) (hcm : c ≤ maxLen) (h2 : en ≤ 1048576) (e1 : 1 ≤ ep) (e2 : ep ≤ 1048576) :
    Calls Tryz.prog 77 #[.slice A (Msg.ack ep en).enc.length c] w fun e w' => e = .returned (.tuple #[.agg (msgc 3 ep 0 en nils 0 0 nils), .int .i64 0]) ∧ Below w.heap.size w w' := by
  obtain ⟨b, hb⟩ : ∃ b, b = (Msg.ack ep en).enc := ⟨_, rfl⟩
  rw [← hb] at h hc ⊢
  obtain ⟨hl0, hq0, ll0⟩ := Dec1.start h hc hcm
  have hb' : b = Vi.enc 3 ++ (Vi.enc ep ++ (Vi.enc en ++ [])) := by rw [hb]; simp [Msg.enc, Pp.encN]
  obtain ⟨W, hW⟩ : ∃ W, W = (w.alloc (.cells (msgc 0 0 0 0 nils 0 0 nils) 147)).alloc (.cells #[.slice A b.length c, .bool false] 196) := ⟨_, rfl⟩
  have hsz : W.heap.size = w.heap.size + 2 := by rw [hW]; simp
  rw [← hW] at hl0 hq0 ll0
  rw [hb'] at hl0
  have HL0 := hid hl0
  have HQ0 := hid hq0
  have HLL := hid ll0
  have HB := hid hb'
  clear hl0 hq0 ll0 h hb hb'
  go_enter Tryz.func77, Tryz.ntmps77
  go_upto_region 2 with fail
  rw [← hW]
  clear hW
  have HN1 := hid (lnum119 (most := 3) HL0.out (by omega) (by omega))
  go_upto_region 3 with (first
    | (go_at_call 119; (with_reducible refine HN1.out.mono ?_); rintro e' w1 ⟨rfl, hr1, hm1⟩; have HN2 := hid (lnum119 (most := 1048576) hr1 (by omega) (by omega)); have HM1 := hid hm1; clear hr1 hm1)
    | (go_at_call 119; (with_reducible refine HN2.out.mono ?_); rintro e' w2 ⟨rfl, hr2, hm2⟩))
  have hD := Dec1.box_ (msgc 3 ep 0 0 nils 0 0 nils) HQ0.out HLL.out hsz hr2 (HM1.out.trans_ hm2)
  obtain ⟨w3, hw3⟩ : ∃ w3, w3 = w2.alloc (.cells (msgc 3 ep 0 0 nils 0 0 nils) 147) := ⟨_, rfl⟩
  rw [← hw3] at hD ⊢
  obtain ⟨mz, hmz⟩ : ∃ mz, mz = w2.heap.size := ⟨_, rfl⟩
  rw [← hmz] at hD ⊢
  clear hw3 hmz hr2 hm2
  obtain ⟨c0, c1, c2, c3, c4, c5, c6, c7⟩ := mcells hD.box
  have HN3 := hid (hD.num 1048576 (x := en) (r := []) (by omega) (by omega))
  have HD := hid hD
  clear hD
  go_upto_region 18 with ((go_at_call 119; (with_reducible refine HN3.out.mono ?_); rintro e' w4 ⟨rfl, hd4, hm4⟩; have k4 := hd4.box; have g4 : w4.frozen? ⟨mz, 3, none⟩ = false := k4.frozen 3; obtain ⟨d0, d1, d2, d3, d4, d5, d6, d7⟩ := mcells k4))
  have hD5 := hd4.set 3 (.int .i64 en)
  obtain ⟨X, hX⟩ : ∃ X, X = w4.setCell ⟨mz, 3, none⟩ (.int .i64 en) := ⟨_, rfl⟩
  rw [← hX] at hD5 ⊢
  have hD5 : Dec1 w X mz (msgc 3 ep 0 en nils 0 0 nils) [] := hD5
  have hck := lcheck121 (w := X) (Mok.ack (w := X) (B := X.heap.size) ep en (by omega) (by omega) (by omega) (by omega))
  obtain ⟨Ar, cr, r0, r1⟩ := hD5.fin
  clear hX c0 c1 c2 c3 c4 c5 c6 c7 d0 d1 d2 d3 d4 d5 d6 d7 g4 k4 hm4 hd4
  obtain ⟨c0, c1, c2, c3, c4, c5, c6, c7⟩ := mcells hD5.box
  have HD5 := hid hD5
  clear hD5
  go_upto_region 20 with ((go_at_call 121; (with_reducible refine hck.mono ?_); rintro e' w6 ⟨rfl, hb6⟩))
  have hD6 := HD5.out.later ⟨hb6⟩
  obtain ⟨q0, q1, q2, q3, q4, q5, q6, q7⟩ := mcells hD6.res
  obtain ⟨f0, f1, f2, f3, f4, f5, f6, f7⟩ := mfroz hD6.res
  obtain ⟨hk, hb, hm⟩ := res_set 3 ep 0 en 0 0 nils nils hD6.res hD6.bl
  clear r0 r1 c0 c1 c2 c3 c4 c5 c6 c7
  obtain ⟨c0, c1, c2, c3, c4, c5, c6, c7⟩ := mcells hD6.box
  obtain ⟨p0, p1, p2, p3, p4, p5, p6, p7⟩ := mcells hk
  have HBB := hid hb
  clear hk hb hm hb6 hck hD6
  go_wp2_with fail
  refine bodyPost_ret (by simp [results, Tryz.results77, go_sem, p0, p1, p2, p3, p4, p5, p6, p7]; try rfl) rfl ?_
  exact ⟨rfl, HBB.out⟩
end Go.Proofs.YtbpnbcjgkbpmgaaGreat
namespace Go.Proofs.YtbpnbcjgkbpmgaaGreat
open Go.RowKit Go.Lg Ds St
set_option linter.unusedVariables false
set_option linter.unusedSimpArgs false
def HelloIs (ep ro en : Nat) (l : List (Nat × Nat)) (w : World) (e : Ending) (w' : World) : Prop :=
  ∃ A c, e = .returned (.tuple #[.agg (msgc 1 ep ro en (.slice A l.length c) 0 0 nils), .int .i64 0]) ∧ Sl w' (fun k => w.heap.size ≤ k) 198 2 (.slice A l.length c) l.length (sts (si l)) ∧ Below w.heap.size w w'
theorem encS_drop {l : List (Nat × Nat)} {j : Nat} {p : Nat × Nat} (h : l[j]? = some p) : encS (l.drop j) = Vi.enc p.1 ++ (Vi.enc p.2 ++ encS (l.drop (j + 1))) := by
  obtain ⟨hj, rfl⟩ := List.getElem?_eq_some_iff.1 h
  rw [List.drop_eq_getElem_cons hj]
  simp only [encS, Pp.encN, List.flatMap_cons, List.flatMap_nil, List.append_nil, List.append_assoc]
theorem Dec1.keep {w X X' : World} {mz : Nat} {cs : Array Value} {r : Bys} {F : Fp} (h : Dec1 w X mz cs r) (m : Mod F X X') (hF : ∀ k, F k → mz < k) : Dec1 w X' mz cs r := by
  have hz := h.hz
  have n1 : ¬F mz := fun f => Nat.lt_irrefl _ (hF _ f)
  have n2 : ¬F w.heap.size := fun f => by have := hF _ f; omega
  have n3 : ¬F (w.heap.size + 1) := fun f => by have := hF _ f; omega
  exact ⟨hz, h.lr.mod m n3 (fun k f => by have := hF _ f; omega), h.box.mod m n1, h.res.mod m n2, h.bl.trans ⟨m.os, m.tape, m.output, m.size, fun k hk => m.block k (Nat.lt_of_lt_of_le hk h.bl.size) (fun f => by have := hF _ f; omega)⟩⟩
theorem Dec1.num_ {w X : World} {mz : Nat} {cs : Array Value} {x : Nat} {r : Bys} (most : Int) (h : Dec1 w X mz cs (Vi.enc x ++ r)) (hm : (x : Int) ≤ most) (h2 : most ≤ 1000000000000) (X' : World) (l : Lat X X') :
    Calls Tryz.prog 119 #[P (w.heap.size + 1), .int .i64 most] X' fun e w' => e = .returned (.int .i64 (x : Int)) ∧ Dec1 w w' mz cs r ∧ Mod (fun k => k = w.heap.size + 1) X w' :=
  ((h.later l).num most hm h2).mono fun _ _ q => ⟨q.1, q.2.1, (l.mod _).trans_ q.2.2⟩
theorem Dec1.snoc {w X w8 : World} {mz i e sz n n8 : Nat} {cs cs' : Array Value} {r : Bys} {o : Obj} {v v8 : Value} {xs xs8 : List Value} (h : Dec1 w X mz cs r) (hs : Sl X (fun k => mz < k) e sz v n xs) (hv : Sl w8 (fun k => mz < k ∨ (X.alloc o).heap.size ≤ k) e sz v8 n8 xs8) (hg : (X.alloc o).grownBy w8 v.ownBlock)
    (he : e ≠ 147) (hcs : cs.setIfInBounds i v8 = cs') :
    Blk w8 mz 147 cs ∧ Dec1 w (w8.setCell ⟨mz, i, none⟩ v8) mz cs' r ∧ Sl (w8.setCell ⟨mz, i, none⟩ v8) (fun k => mz < k) e sz v8 n8 xs8 := by
  have m8 : Mod (fun k => mz < k) X w8 := (Mod.alloc _ X o).trans_ (Mod.grown hg fun g hg => (hs.lt g hg).1)
  have d8 := h.keep m8 fun k hk => hk
  refine ⟨d8.box, by rw [← hcs]; exact d8.set i v8, (Sl.setz hv d8.box he i v8).to fun k hk => ?_⟩
  rcases hk with h1 | h1
  · exact h1
  · have := h.box.lt
    have h2 := (Lat.alloc (Lat.refl X) o).size
    show mz < k
    omega
set_option maxHeartbeats 4000000 in
set_option maxRecDepth 100000 in
theorem decode_hello {w : World} {A : Option Addr} {c ep ro en : Nat} {l : List (Nat × Nat)} (h : Rd w w.heap.size 1 A (Msg.hello ep ro en l).enc.length (bts (Msg.hello ep ro en l).enc)) (hc : (Msg.hello ep ro en l).enc.length ≤ c) (hcm : c ≤ maxLen)
    (hok : Sl.ok (si l) en) (r1 : 1 ≤ ro) (r2 : ro ≤ 3) (hlast : 0 < l.length → Sl.E (si l) (l.length - 1) ≤ ep) (hn : l.length ≤ 100000) (h2 : en ≤ 1048576) (e1 : 1 ≤ ep) (e2 : ep ≤ 1048576) (hsm : ∀ p ∈ l, p.1 ≤ 1048576 ∧ p.2 ≤ 1048576) :
    Calls Tryz.prog 77 #[.slice A (Msg.hello ep ro en l).enc.length c] w (HelloIs ep ro en l w) := by
  obtain ⟨b, hb⟩ : ∃ b, b = (Msg.hello ep ro en l).enc := ⟨_, rfl⟩
  rw [← hb] at h hc ⊢
  obtain ⟨hl0, hq0, ll0⟩ := Dec1.start h hc hcm
  obtain ⟨n, hnn⟩ : ∃ n, n = l.length := ⟨_, rfl⟩
  have hb' : b = Vi.enc 1 ++ (Vi.enc ep ++ (Vi.enc ro ++ (Vi.enc en ++ (Vi.enc n ++ encS l)))) := by rw [hb, hnn]; simp [Msg.enc, Pp.encN]
  obtain ⟨W, hW⟩ : ∃ W, W = (w.alloc (.cells (msgc 0 0 0 0 nils 0 0 nils) 147)).alloc (.cells #[.slice A b.length c, .bool false] 196) := ⟨_, rfl⟩
  have hsz : W.heap.size = w.heap.size + 2 := by rw [hW]; simp
  rw [← hW] at hl0 hq0 ll0
  rw [hb'] at hl0
  rw [← hnn] at hn hlast
  have HL0 := hid hl0
  have HQ0 := hid hq0
  have HLL := hid ll0
  have HSM := hid hsm
  have HN := hid hnn
  have HOK := hid hok
  have HLA := hid hlast
  have hwr : IntKind.u8.wrap (ro : Int) = (ro : Int) := IntWalk.u8_in _ (by omega)
  clear hl0 hq0 ll0 h hb hb' hsm hnn hok hlast
  go_enter Tryz.func77, Tryz.ntmps77
  go_upto_region 2 with fail
  rw [← hW]
  clear hW
  have HN1 := hid (lnum119 (most := 3) HL0.out (by omega) (by omega))
  go_upto_region 3 with (first
    | (go_at_call 119; (with_reducible refine HN1.out.mono ?_); rintro e' w1 ⟨rfl, hr1, hm1⟩; have HN2 := hid (lnum119 (most := 1048576) hr1 (by omega) (by omega)); have HM1 := hid hm1; clear hr1 hm1)
    | (go_at_call 119; (with_reducible refine HN2.out.mono ?_); rintro e' w2 ⟨rfl, hr2, hm2⟩))
  have hD := Dec1.box_ (msgc 1 ep 0 0 nils 0 0 nils) HQ0.out HLL.out hsz hr2 (HM1.out.trans_ hm2)
  obtain ⟨w3, hw3⟩ : ∃ w3, w3 = w2.alloc (.cells (msgc 1 ep 0 0 nils 0 0 nils) 147) := ⟨_, rfl⟩
  rw [← hw3] at hD ⊢
  obtain ⟨mz, hmz⟩ : ∃ mz, mz = w2.heap.size := ⟨_, rfl⟩
  rw [← hmz] at hD ⊢
  clear hw3 hmz hr2 hm2
  obtain ⟨c0, c1, c2, c3, c4, c5, c6, c7⟩ := mcells hD.box
  have HN3 := hid (hD.num 3 (by omega) (by omega))
  have HD := hid hD
  clear hD
  go_upto_region 6 with (first
    | (go_at_call 119; (with_reducible refine HN3.out.mono ?_); rintro e' w4 ⟨rfl, hd4, hm4⟩; have HN4 := hid (hd4.num 1048576 (by omega) (by omega)); clear hd4 hm4)
    | (go_at_call 119; (with_reducible refine HN4.out.mono ?_); rintro e' w5 ⟨rfl, hd5, hm5⟩; obtain ⟨f0, f1, f2, f3, f4, f5, f6, f7⟩ := mfroz hd5.box; clear c0 c1 c2 c3 c4 c5 c6 c7; obtain ⟨c0, c1, c2, c3, c4, c5, c6, c7⟩ := mcells hd5.box))
  have hD6 := (hd5.set 2 (.int .u8 ro)).set 3 (.int .i64 en)
  obtain ⟨w6, hw6⟩ : ∃ w6, w6 = (w5.setCell ⟨mz, 2, none⟩ (.int .u8 ro)).setCell ⟨mz, 3, none⟩ (.int .i64 en) := ⟨_, rfl⟩
  rw [← hw6] at hD6 ⊢
  have hD6 : Dec1 w w6 mz (msgc 1 ep ro en nils 0 0 nils) (Vi.enc n ++ encS l) := hD6
  clear hw6 c0 c1 c2 c3 c4 c5 c6 c7 f0 f1 f2 f3 f4 f5 f6 f7 hd5 hm5 HN3 HN4
  have HN5 := hid (hD6.num 1048576 (by omega) (by omega))
  clear hD6
  go_wp2_with ((go_at_call 119; (with_reducible refine HN5.out.mono ?_); rintro e' w7 ⟨rfl, hd7, hm7⟩; have HD7 := hid hd7; clear hd7 hm7))
  clear HN5 HN1 HN2
  go_loopg [6] n (fun g i wr => ∃ (j : Nat) (vS : Value), j ≤ n ∧ g = n - j ∧ i = .int .i64 ((n - j : Nat) : Int) ∧ Hid (Dec1 w wr mz (msgc 1 ep ro en vS 0 0 nils) (encS (l.drop j))) ∧ Hid (Sl wr (fun k => mz < k) 198 2 vS j (sts (si (l.take j)))))
  case atStart => exact ⟨0, nils, by omega, rfl, by rw [Nat.sub_zero], by rw [List.drop_zero]; exact HD7, hid (by rw [List.take_zero]; exact Sl.nil_ _ _ _ _)⟩
  case round =>
    obtain ⟨j, vS, hj, rfl, rfl, hd, hs⟩ := hrel
    obtain ⟨A4, c4, rfl, _, _⟩ := hs.out.slice_
    by_cases hlt : j < n
    · obtain ⟨p, hp⟩ : ∃ p, l[j]? = some p := ⟨l[j]'(by rw [← HN.out]; omega), List.getElem?_eq_getElem _⟩
      have hps := HSM.out p (List.mem_of_getElem? hp)
      have hd' := hd.out
      rw [encS_drop hp] at hd'
      obtain ⟨Ar, cr, hkr, _⟩ := hd'.lr.is_
      have r1 : wr.cell? ⟨w.heap.size + 1, 1, none⟩ = some (.bool false) := hkr.cell 1
      have hpos : (0 : Int) < ((n - j : Nat) : Int) := by omega
      have hw1 : IntKind.i64.wrap (((n - j : Nat) : Int) - 1) = ((n - (j + 1) : Nat) : Int) := by rw [IntWalk.i64_in _ (by omega)]; omega
      have HD' := hid hd'
      have HPS := hid hps
      clear hkr hd' hps
      go_upto_region 9 with fail
      have hp1 : (p.1 : Int) ≤ 1048576 := by have := HPS.out; omega
      have hp2 : (p.2 : Int) ≤ 1048576 := by have := HPS.out; omega
      have HNA := hid (HD'.out.num_ 1048576 hp1 (by omega))
      have y4 : wr.cell? ⟨mz, 4, none⟩ = some (.slice A4 j c4) := HD'.out.box.cell 4
      have HSL := hid hs.out
      have hz9 := HD'.out.hz
      have djz : Dj (fun k => mz < k) (fun k => k = w.heap.size + 1) := fun k a b => by have h1 : mz < k := a; have h2 : k = w.heap.size + 1 := b; omega
      have HDJ := hid djz
      clear djz
      go_region_law
        (first
        | (refine step_appS (c := 1) St.T22 (.tmp 41) (.tmp 47) rfl (by rfl) (HSB.out.alloc (.cells #[.int .i64 p.1, .int .i64 p.2] 198)) (by go_simp) (RdF.lit wB #[.int .i64 p.1, .int .i64 p.2] 198 1 2 rfl) (by go_simp) (by simp [Value.oneCell']) (by omega) ?_; intro v8 w8 hv8 hg8 hat8; obtain ⟨A8, c8, rfl, _, _⟩ := hv8.slice_; obtain ⟨k8, hd8, hs8⟩ := HDB.out.snoc (i := 4) (cs' := msgc 1 ep ro en (.slice A8 (j + 1) c8) 0 0 nils) HSB.out hv8 hg8 (by decide) rfl; have y8 : w8.cell? ⟨mz, 4, none⟩ = some (.slice A4 j c4) := k8.cell 4; have g8 : w8.frozen? ⟨mz, 4, none⟩ = false := k8.frozen 4; have HD8 := hid hd8; have HS8 := hid hs8; clear hd8 hs8 k8 hv8 hg8 hat8)
        | (go_simp; go_at_call 119; (with_reducible refine (HNB.out _ (by repeat (first | exact Lat.refl _ | refine Lat.drew ?_ | refine Lat.drewN ?_ _))).mono ?_); rintro e' wB ⟨rfl, hdB, hmB⟩; have yB : wB.cell? ⟨mz, 4, none⟩ = some (.slice A4 j c4) := hdB.box.cell 4; have yC : (wB.alloc (.cells #[.int .i64 p.1, .int .i64 p.2] 198)).cell? ⟨mz, 4, none⟩ = some (.slice A4 j c4) := (hdB.box.alloc _).cell 4; have HDB := hid hdB; have HSB := hid ((HSL.out.mv (HMA.out.mv HDJ.out)).mv (hmB.mv HDJ.out)); clear hdB hmB)
        | (go_simp; go_at_call 119; (with_reducible refine (HNA.out _ (by repeat (first | exact Lat.refl _ | refine Lat.drew ?_ | refine Lat.drewN ?_ _))).mono ?_); rintro e' wA ⟨rfl, hdA, hmA⟩; have yA : wA.cell? ⟨mz, 4, none⟩ = some (.slice A4 j c4) := hdA.box.cell 4; have HNB := hid (hdA.num_ 1048576 hp2 (by omega)); have HMA := hid hmA; clear hdA hmA))
      all_goals
        obtain ⟨W9, hW9⟩ : ∃ W9, W9 = w8.setCell ⟨mz, 4, none⟩ (.slice A8 (j + 1) c8) := ⟨_, rfl⟩
        rw [← hW9] at HD8 HS8 ⊢
        clear hW9 y8 g8
        go_wp2_with fail
        go_roundg (n - (j + 1))
        case measure => omega
        case rel => exact ⟨j + 1, _, by omega, rfl, by go_num, HD8, hid (by rw [take_succ_get? hp]; simpa [si, sts] using HS8.out)⟩
    · obtain rfl : j = n := by omega
      have hd' := hd.out
      rw [List.drop_of_length_le (by rw [← HN.out]; exact Nat.le_refl _), show encS [] = [] from rfl] at hd'
      have hs' := hs.out
      rw [List.take_of_length_le (by rw [← HN.out]; exact Nat.le_refl _)] at hs'
      have hssX : SS wr wr.heap.size A4 j (si l) := ⟨hs'.rdf.rd (by decide), by rw [si_length, ← HN.out]⟩
      have hck := lcheck121 (w := wr) (Mok.hello (w := wr) (B := wr.heap.size) ep ro en A4 j c4 (si l) hssX HOK.out (by omega) (by omega) HLA.out hn (by omega) (by omega))
      obtain ⟨Ar, cr, r0, r1⟩ := hd'.fin
      obtain ⟨c0, c1, c2, c3, c4', c5, c6, c7⟩ := mcells hd'.box
      have HD5 := hid hd'
      have HS5 := hid hs'
      clear hd' hs' hssX
      go_upto_region 20 with ((go_at_call 121; (with_reducible refine hck.mono ?_); rintro e' w6 ⟨rfl, hb6⟩))
      have hD6 := HD5.out.later ⟨hb6⟩
      obtain ⟨q0, q1, q2, q3, q4, q5, q6, q7⟩ := mcells hD6.res
      obtain ⟨f0, f1, f2, f3, f4, f5, f6, f7⟩ := mfroz hD6.res
      obtain ⟨hk, hb, hm⟩ := res_set 1 ep ro en 0 0 (.slice A4 j c4) nils hD6.res hD6.bl
      clear r0 r1 c0 c1 c2 c3 c4' c5 c6 c7
      obtain ⟨c0, c1, c2, c3, c4', c5, c6, c7⟩ := mcells hD6.box
      obtain ⟨p0, p1, p2, p3, p4, p5, p6, p7⟩ := mcells hk
      have HBB := hid hb
      have hzz := hD6.hz
      have HS6 := hid (((HS5.out.later hb6).mv (hm.mv fun k a b => by have h1 : mz < k := a; have h2 : k = w.heap.size := b; omega)).to (G := fun k => w.heap.size ≤ k) fun k a => by have h1 : mz < k := a; show w.heap.size ≤ k; omega)
      clear hk hb hm hb6 hck hD6
      go_wp2_with fail
      refine bodyPost_ret (by simp [results, Tryz.results77, go_sem, p0, p1, p2, p3, p4, p5, p6, p7]; try rfl) rfl ?_
      refine ⟨A4, c4, ?_, ?_, HBB.out⟩
      · rw [← HN.out]
      · rw [← HN.out]; exact HS6.out
end Go.Proofs.YtbpnbcjgkbpmgaaGreat
