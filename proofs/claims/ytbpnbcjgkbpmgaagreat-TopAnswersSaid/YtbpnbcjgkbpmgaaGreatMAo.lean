/- A primary answers without waiting for the other site, as many times as its leash allows: of any acts. No condition. (part 15) -/
import Derived.Test.YtbpnbcjgkbpmgaaGreatMAm
import Derived.Test.YtbpnbcjgkbpmgaaGreatMAn
namespace Go.Proofs.YtbpnbcjgkbpmgaaGreat
open Go.RowKit Go.Lg Go.Shelf St Ea
set_option linter.unusedVariables false
set_option linter.unusedSimpArgs false
attribute [local go_sem] Oper.semAt_some
theorem name_tmps {g : Operand} {ps : Array Tmp} {assign body : Code} {F : Fence} {n : Nat} {P : Program} {Q : Exit → Act → World → Prop} {T0 : Array Value} {d : List Deferred} {W : World} (h : ∀ T, T = T0 → (Code.rangeFunc g ps assign body).wpIn F n P Q { tmps := T, defers := d } W) :
    (Code.rangeFunc g ps assign body).wpIn F n P Q { tmps := T0, defers := d } W := h _ rfl
def ScIs (b : Bys) (w : World) (e : Ending) (w' : World) : Prop :=
  ∃ vC vE ms, e = .returned (.tuple #[vC, vE]) ∧ ms.map Cm.p = (wscan b).1 ∧ Cl w' (fun k => w.heap.size ≤ k) vC ms ∧ Sl w' (fun k => w.heap.size ≤ k) 3 1 vE (wscan b).2.length (ic (wscan b).2) ∧ Below w.heap.size w w'
theorem sc_of_si {b : Bys} {w : World} {L : Nat} {A : Option Addr} {n c : Nat} {s : List Cmt × List Nat} {vC vE : Value} {ms : List Cm} {W : World} {q D : Nat} (h : SI w L A n c s vC vE ms W) (hL : w.heap.size ≤ L) (hs : wscan b = s) (hK : W.heap[D]? = some (.deferred (some []))) (hD : w.heap.size ≤ D) : ScIs b w (.returned (.tuple #[vC, vE])) ((W.drewN q).putObj D (.deferred none)) := by
  have h1 : SI w L A n c s vC vE ms (W.drewN q) := h.notc (gb_below (drewN_below W q) none) (fun r e => by cases e) (fun r e => by cases e)
  have h2 : SI w L A n c s vC vE ms ((W.drewN q).putObj D (.deferred none)) := h1.notc (grownBy_putObj' _ D _) (fun r e => by cases e; exact ⟨_, hK, rfl⟩) (fun r e => by cases e; exact hD)
  subst hs
  exact ⟨vC, vE, ms, rfl, h2.hms, h2.cl.to (fun k hk => by have : L ≤ k := hk; show w.heap.size ≤ k; omega), h2.en.to (fun k hk => by have : L ≤ k := hk; show w.heap.size ≤ k; omega), h2.bl⟩
theorem field190 (a b : Int) (w : World) : Sem.run Tryz.prog (Instr.field 190 (.agg #[.int .i64 a, .int .i64 b]) 0) w = .ok (.int .i64 a) w := by kernel_rfl
attribute [local go_sem] field190
theorem cs_one {W : World} {F : Fp} {me mn : Int} {A : Option Addr} {c : Nat} {mo : List Op3} (h : Sl W F 77 3 (.slice A mo.length c) mo.length (opc mo)) (hn : mo.length ≤ 9223372036854775807) :
    CS (W.alloc (.cells #[.int .i64 me, .int .i64 mn, .slice A mo.length c] 88)) (W.alloc (.cells #[.int .i64 me, .int .i64 mn, .slice A mo.length c] 88)).heap.size (some ⟨W.heap.size, 0, none⟩) 1 [⟨me, mn, A, mo.length, c, mo⟩] := by
  refine ⟨?_, rfl, fun m hm => ?_⟩
  · have := Rd.lit W #[.int .i64 me, .int .i64 mn, .slice A mo.length c] 88 (0, 0) (sz := 3) 1 rfl
    rw [World.size_alloc]
    exact this
  · obtain rfl := List.mem_singleton.1 hm
    exact ⟨⟨(h.alloc _).rdf.rd (by decide), rfl⟩, hn⟩
theorem Sl.lo {w : World} {L : Nat} {e : TypeId} {sz n : Nat} {v : Value} {xs : List Value} {p : Addr} (h : Sl w (fun k => L ≤ k) e sz v n xs) (hp : p.block < L) (u : Value) : Sl (w.setCell p u) (fun k => L ≤ k) e sz v n xs :=
  h.mv fun k _ hf => ⟨hf, Below.heap_setCell _ _ _ _ (by have : L ≤ k := hf; omega)⟩
theorem Cl.lo {w : World} {L : Nat} {v : Value} {ms : List Cm} {p : Addr} (h : Cl w (fun k => L ≤ k) v ms) (hp : p.block < L) (u : Value) : Cl (w.setCell p u) (fun k => L ≤ k) v ms := ⟨Sl.lo h.row hp u, fun m hm => ⟨Sl.lo (h.ops m hm).1 hp u, (h.ops m hm).2⟩⟩
theorem ic_snoc (l : List Nat) (n : Nat) : ic (l ++ [n]) = ic l ++ [.int .i64 (n : Int)] := by simp [ic]
theorem lastEp_snoc (l : List Cmt) (c : Cmt) : lastEp (l ++ [c]) = c.ep := by simp [lastEp]
theorem scan_fin {w w6 y : World} {L : Nat} {A : Option Addr} {n c : Nat} {s : List Cmt × List Nat} {v1 v2 u1 u2 : Value} {ms : List Cm} {me mn : Int} {mo : List Op3} {Ao : Option Addr} {co e : Nat}
    (hsi : SI w L A n c s v1 v2 ms w6) (hL : w.heap.size + 4 ≤ L)
    (hA : Ap2 w6.drew y (fun k => L ≤ k) v1 v2 88 3 3 1 u1 (ms.length + 1) (cmc ms ++ [.int .i64 me, .int .i64 mn, .slice Ao mo.length co]) u2 (s.2.length + 1) (ic s.2 ++ [.int .i64 (e : Int)]))
    (ho : Sl w6 (fun k => L ≤ k) 77 3 (.slice Ao mo.length co) mo.length (opc mo)) :
    SI w L A n c (s.1 ++ [⟨me, mn, mo⟩], s.2 ++ [e]) u1 u2 (ms ++ [⟨me, mn, Ao, mo.length, co, mo⟩]) (((y.setCell ⟨w.heap.size + 1, 0, none⟩ u1).setCell ⟨w.heap.size + 2, 0, none⟩ u2).setCell ⟨w.heap.size + 3, 0, none⟩ (.int .i64 me)) := by
  have m6 : Lg.Mod (rows2 v1 v2) w6 y := ⟨hA.m.os, hA.m.tape, hA.m.output, hA.m.size, hA.m.block⟩
  have hL6 := hsi.sz
  have nr : ∀ k, rows2 v1 v2 k → L ≤ k := fun k h => by
    rcases h with h | h
    · exact (hsi.cl.row.lt k h).1
    · exact (hsi.en.lt k h).1
  have nb : ∀ k, k < L → ¬rows2 v1 v2 k := fun k hk h => by have := nr k h; omega
  have hops : ∀ {v : Value} {k : Nat} {os : List Op3}, Sl w6 (fun k => L ≤ k) 77 3 v k (opc os) → Sl y (fun k => L ≤ k) 77 3 v k (opc os) := fun h => h.mod m6 fun g hg hr => by
    rcases hr with hr | hr
    · exact h.ne_sl hsi.cl.row (by decide) g hg hr
    · exact h.ne_sl hsi.en (by decide) g hg hr
  have hF : ∀ k, (L ≤ k ∨ w6.drew.heap.size ≤ k) → L ≤ k := fun k hk => by
    rcases hk with hk | hk
    · exact hk
    · have : w6.heap.size ≤ k := hk
      omega
  have cy : Cl y (fun k => L ≤ k) u1 (ms ++ [⟨me, mn, Ao, mo.length, co, mo⟩]) := by
    refine ⟨?_, fun m hm => ?_⟩
    · rw [List.length_append, List.length_singleton, show cmc (ms ++ [⟨me, mn, Ao, mo.length, co, mo⟩]) = cmc ms ++ [.int .i64 me, .int .i64 mn, .slice Ao mo.length co] from by simp [cmc]]
      exact hA.r1.to hF
    · rcases List.mem_append.1 hm with hm | hm
      · exact ⟨hops (hsi.cl.ops m hm).1, (hsi.cl.ops m hm).2⟩
      · obtain rfl := List.mem_singleton.1 hm
        exact ⟨hops ho, rfl⟩
  have ey : Sl y (fun k => L ≤ k) 3 1 u2 (s.2 ++ [e]).length (ic (s.2 ++ [e])) := by
    rw [List.length_append, List.length_singleton, ic_snoc]
    exact hA.r2.to hF
  have y0 := m6.blk hsi.b0 (nb _ (by omega))
  have y1 := m6.blk hsi.b1 (nb _ (by omega))
  have y2 := m6.blk hsi.b2 (nb _ (by omega))
  have y3 := m6.blk hsi.b3 (nb _ (by omega))
  refine ⟨?_, ?_, ?_, ?_, ?_, ?_, ?_, ?_, ?_⟩
  · simp [hsi.hms, Cm.p]
  · exact ((y0.far (by dsimp only; omega) _).far (by dsimp only; omega) _).far (by dsimp only; omega) _
  · exact ((y1.set_ 0 u1).far (by dsimp only; omega) _).far (by dsimp only; omega) _
  · exact ((y2.far (by dsimp only; omega) _).set_ 0 u2).far (by dsimp only; omega) _
  · rw [lastEp_snoc]
    exact ((y3.far (by dsimp only; omega) _).far (by dsimp only; omega) _).set_ 0 _
  · exact Cl.lo (Cl.lo (Cl.lo cy (by dsimp only; omega) _) (by dsimp only; omega) _) (by dsimp only; omega) _
  · exact Sl.lo (Sl.lo (Sl.lo ey (by dsimp only; omega) _) (by dsimp only; omega) _) (by dsimp only; omega) _
  · have hb : Below w.heap.size w y := ⟨m6.os.trans hsi.bl.os, m6.tape.trans hsi.bl.tape, m6.output.trans hsi.bl.output, Nat.le_trans hsi.bl.size m6.size, fun k hk => (m6.block k (Nat.lt_of_lt_of_le hk hsi.bl.size) (nb k (by omega))).trans (hsi.bl.block k hk)⟩
    exact ((hb.setCell (by dsimp only; omega) _).setCell (by dsimp only; omega) _).setCell (by dsimp only; omega) _
  · have h1 := m6.size
    simp only [World.setCell, World.size_setCell] at *
    simp
    omega
theorem scan_keeps {W y : World} {lo hi b4 b5 b6 : Nat} {R : Fp} {u4 u5 u6 : Value} {t4 t5 t6 : TypeId} {c4 c5 c6 : Array Value} (hm : Lg.Mod R W y) (hR : ∀ k, R k → hi ≤ k ∧ ∃ c e l, W.heap[k]? = some (.cells c e l))
    (hhi : hi ≤ W.heap.size) (h4 : b4 < lo) (h5 : b5 < lo) (h6 : b6 < lo) (k4 : Blk W b4 t4 c4) (k5 : Blk W b5 t5 c5) (k6 : Blk W b6 t6 c6) :
    KeepsFrom hi W (((y.setCell ⟨b4, 0, none⟩ u4).setCell ⟨b5, 0, none⟩ u5).setCell ⟨b6, 0, none⟩ u6) ∧ Kp lo hi W (((y.setCell ⟨b4, 0, none⟩ u4).setCell ⟨b5, 0, none⟩ u5).setCell ⟨b6, 0, none⟩ u6) := by
  have hset : ∀ (Z : World) (p : Addr) (u : Value) (k : Nat), k ≠ p.block → (Z.setCell p u).heap[k]? = Z.heap[k]? := fun Z p u k hk => Below.heap_setCell _ _ _ _ hk
  have h3 : ∀ k, k ≠ b4 → k ≠ b5 → k ≠ b6 → (((y.setCell ⟨b4, 0, none⟩ u4).setCell ⟨b5, 0, none⟩ u5).setCell ⟨b6, 0, none⟩ u6).heap[k]? = y.heap[k]? := fun k h4 h5 h6 => by
    rw [hset _ _ _ k h6, hset _ _ _ k h5, hset _ _ _ k h4]
  have hsz : W.heap.size ≤ (((y.setCell ⟨b4, 0, none⟩ u4).setCell ⟨b5, 0, none⟩ u5).setCell ⟨b6, 0, none⟩ u6).heap.size := by
    simp [World.setCell]; exact hm.size
  refine ⟨⟨hsz, fun k o hk ho hc => ?_⟩, ⟨hsz, fun k h1 h2 => ?_⟩⟩
  · have hne : ∀ {b : Nat} {t : TypeId} {c : Array Value}, Blk W b t c → k ≠ b := fun hb e => by
      subst e
      unfold Blk at hb
      rw [hb] at ho
      cases ho
      cases hc
    rw [h3 k (hne k4) (hne k5) (hne k6), hm.block k (Array.getElem?_eq_some_iff.1 ho).1 fun hr => ?_]
    · exact ho
    · obtain ⟨_, c, e, l, h⟩ := hR k hr
      rw [h] at ho
      cases ho
      cases hc
  · have hkW : k < W.heap.size ∨ W.heap.size ≤ k := Nat.lt_or_ge _ _
    rw [h3 k (by omega) (by omega) (by omega)]
    rcases hkW with h | h
    · exact hm.block k h fun hr => by have := (hR k hr).1; omega
    · omega
theorem wstep_len {b : Bys} {s t : List Cmt × List Nat} {x : Nat × Bys} (h : wstep b s x = some t) : t.1.length = s.1.length + 1 ∧ t.2.length = s.2.length + 1 := by
  unfold wstep at h
  split at h
  · cases h
  · split at h
    · cases h
    · cases h
      simp
theorem wall_len {b : Bys} : ∀ {s : List Cmt × List Nat} {l : List (Nat × Bys)} {t : List Cmt × List Nat}, wall b s l = some t → t.1.length = s.1.length + l.length ∧ t.2.length = s.2.length + l.length
  | s, [], t, h => by cases h; simp
  | s, x :: l, t, h => by
    unfold wall at h
    split at h
    · cases h
    · rename_i u hu
      have h1 := wstep_len hu
      have h2 := wall_len h
      simp only [List.length_cons]
      omega
theorem sl_cells {w : World} {F : Fp} {e : TypeId} {sz n : Nat} {v : Value} {xs : List Value} (h : Sl w F e sz v n xs) (k : Nat) (hk : v.ownBlock = some k) : ∃ c e l, w.heap[k]? = some (.cells c e l) := by
  rcases h.2 with ⟨rfl, _⟩ | ⟨g, off, cap, cur, rfl, _, hg, _⟩
  · cases hk
  · simp only [Value.ownBlock, Option.some.injEq] at hk
    subst hk
    exact ⟨_, _, _, hg⟩
structure S10 (b4 b5 b9 : Nat) (v4 v5 : Value) (cs : Array Value) (L : Array Bool) (w : World) : Prop where
  a : L.getD 12 false = false → w.cell? ⟨b4, 0, none⟩ = some v4
  b : L.getD 13 false = false → w.cell? ⟨b5, 0, none⟩ = some v5
  c : Blk w b9 88 cs
theorem S10.set {b4 b5 b9 i : Nat} {v4 v5 : Value} {cs : Array Value} (h1 : i ≠ 12) (h2 : i ≠ 13) : ∀ (L : Array Bool) (w : World), S10 b4 b5 b9 v4 v5 cs (L.setIfInBounds i true) w ↔ S10 b4 b5 b9 v4 v5 cs L w := fun L w =>
  ⟨fun h => ⟨fun q => h.a (by rw [getD_set_ne false h1]; exact q), fun q => h.b (by rw [getD_set_ne false h2]; exact q), h.c⟩, fun h => ⟨fun q => h.a (by rw [getD_set_ne false h1] at q; exact q), fun q => h.b (by rw [getD_set_ne false h2] at q; exact q), h.c⟩⟩
theorem boxes {W : World} {g : Nat} {t : TypeId} {x : Value} (h : Blk W g t #[x]) : W.cell? ⟨g, 0, none⟩ = some x ∧ W.frozen? ⟨g, 0, none⟩ = false := ⟨h.cell 0, h.frozen 0⟩
set_option maxHeartbeats 4000000 in
set_option maxRecDepth 100000 in
theorem scan67 {w : World} {A : Option Addr} {n c : Nat} {b : Bys} (h : Rd w w.heap.size 1 A n (bts b)) (hn : n ≤ 2000000) (hc : n ≤ c) (hcm : c ≤ maxLen) : Calls Tryz.prog 67 #[.slice A n c] w (ScIs b w) := by
  refine (callsIn_wide (n := 3)).1 ?_
  have hro : Fence.wide.round = none := rfl
  have h1 : 1 ≤ 3 := by omega
  have hbl : b.length = n := by have := h.1; rw [bts_length] at this; omega
  obtain ⟨W, hW⟩ : ∃ W, W = (((w.alloc (.cells #[.slice A n c] 80)).alloc (.cells #[.slice none 0 0] 46)).alloc (.cells #[.slice none 0 0] 32)).alloc (.cells #[.int .i64 0] 3) := ⟨_, rfl⟩
  have hsz : W.heap.size = w.heap.size + 4 := by rw [hW]; simp
  have hb0 : Below w.heap.size w W := by rw [hW]; exact ((((Below.refl _ _).alloc (Nat.le_refl _) _).alloc (by simp) _).alloc (by simp; omega) _).alloc (by simp; omega) _
  have hsi : SI w (w.heap.size + 4) A n c ([], []) (.slice none 0 0) (.slice none 0 0) [] W := by
    refine ⟨rfl, ?_, ?_, ?_, ?_, Cl.nil_ _ _, Sl.nil_ _ _ _ _, hb0, by omega⟩
    · rw [hW]; exact (((Blk.new w 80 #[.slice A n c]).alloc _).alloc _).alloc _
    · have := ((Blk.new (w.alloc (.cells #[.slice A n c] 80)) 46 #[.slice none 0 0]).alloc (.cells #[.slice none 0 0] 32)).alloc (.cells #[.int .i64 0] 3)
      rw [World.size_alloc] at this
      rw [hW]; exact this
    · have := (Blk.new ((w.alloc (.cells #[.slice A n c] 80)).alloc (.cells #[.slice none 0 0] 46)) 32 #[.slice none 0 0]).alloc (.cells #[.int .i64 0] 3)
      rw [World.size_alloc, World.size_alloc] at this
      rw [hW]; exact this
    · have := Blk.new (((w.alloc (.cells #[.slice A n c] 80)).alloc (.cells #[.slice none 0 0] 46)).alloc (.cells #[.slice none 0 0] 32)) 3 #[.int .i64 0]
      rw [World.size_alloc, World.size_alloc, World.size_alloc] at this
      rw [hW]; exact this
  have HE := hid (each37 A n c b W ((h.below hb0).more (by omega)) (by omega))
  have HH := hid (And.intro h (And.intro hc (And.intro hcm hbl)))
  have HSI := hid hsi
  have HSZ := hid hsz
  obtain ⟨c0, f0⟩ := boxes hsi.b0
  clear h hcm hbl hsi hsz hb0
  refine callsIn_of_wp_marks Tryz.func67 rfl trivial ?_ hro
  simp only [Tryz.ntmps67, List.size_toArray, List.length_cons, List.length_nil, Nat.reduceAdd, Nat.reduceSub, Array.replicate_succ, Array.replicate_zero, List.push_toArray, List.append_toArray, List.nil_append, List.cons_append]
  refine wpIn_wide.2 ?_
  go_upto_region 4 with fail
  rw [← hW]
  clear hW
  go_wp2_with (go_at_call 110; refine stop_ (fun Ps hPs => ?_))
  refine hPs ?_
  clear hPs Ps
  refine HE.out.mono ?_
  rintro e' w1 ⟨Bo, A1, c1, rfl, hBo1, hBo2, hcell, hrd, hl1, hl2, hb1⟩
  have HZ := hid (And.intro hBo1 (And.intro hBo2 (And.intro hcell (And.intro hrd (And.intro hl1 (And.intro hl2 hb1))))))
  clear hBo1 hBo2 hcell hrd hl1 hl2 hb1 HE
  go_wp2_with fail
  obtain ⟨hBo1, hBo2, hcell, hrd, hl1, hl2, hb1⟩ := HZ.out
  have hsz1 : w.heap.size + 4 ≤ w1.heap.size := by have := hb1.size; have := HSZ.out; omega
  have hszW := HSZ.out
  have hbn : b.length = n := HH.out.2.2.2
  have hsi1 : SI w w1.heap.size A n c ([], []) (.slice none 0 0) (.slice none 0 0) [] w1 := by
    have h := HSI.out
    exact ⟨h.hms, h.b0.later hb1, h.b1.later hb1, h.b2.later hb1, h.b3.later hb1, Cl.nil_ _ _, Sl.nil_ _ _ _ _, bl_trans h.bl hb1 h.bl.size, Nat.le_refl _⟩
  refine (wpIn_wide (n := 3)).1 ?_
  refine name_tmps (fun T hT => ?_)
  have HT := hid hT
  clear hT
  refine range_hands hro h1 (gf := 159) (lb := #[.pointer (some ⟨Bo, 0, none⟩)]) (by have hT := HT.out; subst hT; rfl) trivial (enters_of Tryz.func159 (by kernel_rfl) rfl)
    (each_hands 2 (by omega) Bo (w.heap.size + 4) w1.heap.size b.length c1 A1 b rfl (by omega) w1 ⟨by omega, hBo2⟩ (Nat.le_refl _) hcell (hrd.to (fun k hk => ⟨by have := hk.1; omega, hk.2⟩)) hl1 hl2) Kp.trans (Kp.put (Nat.le_refl _)) (fun _ => rfl)
    (fun pre W => ∃ s, wall b ([], []) (pre.map El.p) = some s ∧ SJ w w1.heap.size A n c s W)
    (fun c' pre W => c' = .exit 0 ∧ ∃ ini x s, pre = ini ++ [x] ∧ wall b ([], []) (ini.map El.p) = some s ∧ wstep b s x.p = none ∧ SJ w w1.heap.size A n c s W)
    (own_sj b (by omega))
    (fun c' => own_sx b (by omega) c')
    (fun x => rx_own b _ x)
    ⟨_, rfl, _, _, _, hsi1⟩
    (fun x => { tmps := (((T.setIfInBounds 16 (.int .i64 (x.at_ : Int))).setIfInBounds 17 x.v).setIfInBounds 7 (.int .i64 (x.at_ : Int))).setIfInBounds 8 x.v, defers := [] })
    ?assign1 ?body1 ?done1 ?stop1
  case assign1 =>
    intro l x W K hK
    have hT := HT.out
    subst hT
    simp only [List.setIfInBounds_toArray, List.set_cons_succ, List.set_cons_zero] at hK
    gi_wp2
    exact hK
  case body1 =>
    rintro l pre ⟨xa, xr, xv⟩ W ⟨s, hs, vC, vE, ms, hsi⟩ ⟨hmem, Ax, cx, hxv, hxr, hx13, hxc, hxm⟩ hlt
    simp only at hxv hxr hx13 hxc
    subst hxv
    obtain ⟨i, m, hi, hfr, hfit⟩ := sq_mem (b.length + 1) 0 b (by omega) _ hmem
    obtain rfl : xa = i := by simpa [El.p] using hi
    have hfr' : Vi.fread (b.drop xa) = some (xr, m) := hfr
    have HFR := hid hfr'
    have HS := hid hs
    obtain ⟨Ae, ce, rfl, hce1, hce2⟩ := hsi.en.slice_
    have HSI1 := hid hsi
    have hsi1r := hsi.cl
    have HM := hid hmem
    have HXR := hid hxr
    have hT := HT.out
    subst hT
    simp only [List.setIfInBounds_toArray, List.set_cons_succ, List.set_cons_zero]
    have HLT := hid hlt
    clear hs hsi hmem hxr hfr hfr' hi hlt
    unfold maxLen at hxm
    have HDC := hid (decode111 (w := W) (b := xr) (RdF.of_rd HXR.out (F := fun _ => True) (fun _ _ => trivial)) hxc hxm (by omega))
    have t111 : Fence.wide.fn 111 := trivial
    gi_wp2_with (gi_at_call 111; refine stop_ (fun Ps hPs => ?_))
    refine hPs ?_
    clear hPs Ps
    refine (CallsIn.inRound l (callsIn_wide.2 HDC.out)).mono ?_
    cases hd : decC xr with
    | none =>
      rintro e' w2 ⟨rfl, hb2⟩
      have hst : wstep b s (xa, xr) = none := by unfold wstep; rw [show (xa, xr).2 = xr from rfl, hd]
      have HST := hid hst
      have HB2 := hid hb2
      clear hd hst hb2
      gi_wp2
      refine ⟨trivial, ?_⟩
      gi_wp2
      have hb3 : Below W.heap.size W (w2.alloc (.cells #[.int .i64 0, .int .i64 0, .slice none 0 0] 88)) := HB2.out.alloc HB2.out.size _
      exact ⟨(keeps_below hb3).from _, rfl, pre, _, s, rfl, HS.out, HST.out, vC, _, ms, HSI1.out.later hb3⟩
    | some m' =>
      obtain ⟨me, mn, mo⟩ := m'
      rintro e' w2 ⟨Ao, co, rfl, hso, hb2⟩
      have hmk := decC_k hd
      obtain ⟨Av, cv, rfl, hcv1, hcv2⟩ := hsi1r.row.slice_
      have HSO := hid hso
      have HB2 := hid hb2
      have HD := hid hd
      obtain ⟨W3, hW3⟩ : ∃ W3, W3 = w2.alloc (.cells #[.int .i64 me, .int .i64 mn, .slice Ao mo.length co] 88) := ⟨_, rfl⟩
      have hb3 : Below W.heap.size W W3 := by rw [hW3]; exact hb2.alloc hb2.size _
      have hk3 : Blk W3 w2.heap.size 88 #[.int .i64 me, .int .i64 mn, .slice Ao mo.length co] := by rw [hW3]; exact Blk.new _ _ _
      have hs3 : Sl W3 (fun k => W.heap.size ≤ k) 77 3 (.slice Ao mo.length co) mo.length (opc mo) := by rw [hW3]; exact hso.alloc _
      have hsi3 := HSI1.out.later hb3
      have HSI3 := hid hsi3
      have HK3 := hid hk3
      have HS3 := hid hs3
      have HB3 := hid hb3
      obtain ⟨z0, z1, z2, y0, y1, y2⟩ := ccells hk3
      obtain ⟨c1', f1'⟩ := boxes hsi3.b1
      obtain ⟨c3', f3'⟩ := boxes hsi3.b3
      have c3'' : W3.cell? ⟨w.heap.size + 1 + 1 + 1, 0, none⟩ = some (.int .i64 (lastEp s.1)) := c3'
      clear hso hb2 hd hk3 hs3 hsi3 hb3
      subst hW3
      have t112 : Fence.wide.fn 112 := trivial
      gi_wp2_with (gi_at_call 112; refine stop_ (fun Ps hPs => ?_))
      refine hPs ?_
      clear hPs Ps
      refine (CallsIn.inRound l (callsIn_wide.2 (follows37 (some ⟨w2.heap.size + 1, 0, none⟩) 1 1 [⟨me, mn, Ao, mo.length, co, mo⟩] (lastEp s.1) ms.length _ (by have := cs_one (me := me) (mn := mn) HS3.out (by have := HS3.out.cap; unfold maxLen at this; omega); rw [World.size_alloc w2] at this; exact this) (by omega)))).mono ?_
      rw [fol_one (x := ⟨me, mn, Ao, mo.length, co, mo⟩) (show Cm.k ⟨me, mn, Ao, mo.length, co, mo⟩ = 0 from hmk)]
      simp only
      have hml : ms.length = s.1.length := by rw [← HSI3.out.hms, List.length_map]
      by_cases hbad : mn - 1 ≠ ms.length ∨ me < lastEp s.1
      · rw [if_pos hbad]
        rintro e' w5 ⟨rfl, hb5⟩
        have hst : wstep b s (xa, xr) = none := by unfold wstep; rw [show (xa, xr).2 = xr from rfl, HD.out]; exact if_pos (by rw [← hml]; exact hbad)
        have HST := hid hst
        have HB5 := hid hb5
        clear hst hb5 hbad
        gi_wp2
        have hb6 : Below W.heap.size W w5 := bl_trans (HB3.out.alloc HB3.out.size _) HB5.out (by have := HB3.out.size; simp only [World.size_alloc] at *; omega)
        exact ⟨(keeps_below hb6).from _, rfl, pre, _, s, rfl, HS.out, HST.out, _, _, ms, HSI1.out.later hb6⟩
      · rw [if_neg hbad]
        rintro e' w5 ⟨rfl, hb5⟩
        have hst : wstep b s (xa, xr) = some (s.1 ++ [⟨me, mn, mo⟩], s.2 ++ [xa + m]) := by
          unfold wstep
          rw [show (xa, xr).2 = xr from rfl, HD.out]
          show (if _ then _ else _) = _
          rw [if_neg (by rw [← hml]; exact hbad)]
          show some (_, s.2 ++ [xa + flen b xa]) = _
          rw [flen, HFR.out]
        have HST := hid hst
        have hb6 : Below W.heap.size W w5 := bl_trans (HB3.out.alloc HB3.out.size _) hb5 (by have := HB3.out.size; simp only [World.size_alloc] at *; omega)
        have hsi5 := HSI1.out.later hb6
        have hk5 : Blk w5 w2.heap.size 88 #[.int .i64 me, .int .i64 mn, .slice Ao mo.length co] := (HK3.out.alloc _).later hb5
        have hs5 : Sl w5 (fun k => W.heap.size ≤ k) 77 3 (.slice Ao mo.length co) mo.length (opc mo) := (HS3.out.alloc _).later hb5
        obtain ⟨x0, x1, x2, _⟩ := ccells hk5
        obtain ⟨d0, e0⟩ := boxes hsi5.b0
        have hxn : xa + m ≤ n := by have := HH.out.2.2.2; omega
        have hm0 : 0 < m := by have := Vi.fread_fits HFR.out; omega
        have hrd5 := ((HH.out.1.below hsi5.bl).more hsi5.bl.size).drop (k := xa) (cap := c) (by omega) hc
        rw [if_neg (by omega), Nat.mul_one, bts_drop] at hrd5
        have HC63 := hid (fRead_some _ (n - xa) (c - xa) _ xr m w5 hrd5 (by omega) (by omega) (by have := HH.out.2.2.1; omega) HFR.out)
        have HSI5 := hid hsi5
        have HB6 := hid hb6
        have HK5 := hid hk5
        have HS5 := hid hs5
        have xai : (xa : Int) ≤ (n : Int) := by omega
        have xac : (n : Int) ≤ (c : Int) := by omega
        have t63 : Fence.wide.fn 63 := trivial
        clear hst hb5 hbad hb6 hsi5 hk5 hs5 hrd5 z0 z1 z2 y0 y1 y2 c1' f1' c3' f3' c3''
        gi_wp2_with (gi_at_call 63; refine stop_ (fun Ps hPs => ?_))
        refine hPs ?_
        clear hPs Ps
        refine (CallsIn.inRound l (callsIn_wide.2 HC63.out)).mono ?_
        rintro e' w6 ⟨v6, rfl, ho6, hb7⟩
        have hb6 := bl_trans HB6.out hb7 HB6.out.size
        have hsi6 := HSI5.out.later hb7
        have hk6 := HK5.out.later hb7
        have hs6 := HS5.out.later hb7
        have HSI6 := hid hsi6
        have HB7 := hid hb6
        have HK6 := hid hk6
        have HS6 := hid hs6
        clear ho6 hb7 hb6 hsi6 hk6 hs6 d0 e0 x0 x1 x2
        gi_wp2
        refine region_round (by kernel_rfl) (by simp) ?_
        obtain ⟨k0, g0⟩ := boxes HSI6.out.b1
        obtain ⟨k1, g1⟩ := boxes HSI6.out.b2
        obtain ⟨k2, g2⟩ := boxes HSI6.out.b3
        obtain ⟨x0, x1, x2, _⟩ := ccells HK6.out
        have R1 : Hid (Sl w6.drew (fun k => w1.heap.size ≤ k) 88 3 (.slice Av ms.length cv) ms.length (cmc ms)) := hid (HSI6.out.cl.row.later (below_drew w6))
        have R2 : Hid (Sl w6.drew (fun k => w1.heap.size ≤ k) 3 1 (.slice Ae s.2.length ce) s.2.length (ic s.2)) := hid (HSI6.out.en.later (below_drew w6))
        clear hml
        have HMS : Hid (ms.length = s.1.length) := by rw [← HSI6.out.hms, List.length_map]; exact hid rfl
        have q1 : ∀ g, (Value.slice Av ms.length cv).ownBlock = some g → w1.heap.size ≤ g ∧ g < W.heap.size := fun g hg => HSI1.out.cl.row.lt g hg
        have q2 : ∀ g, (Value.slice Ae s.2.length ce).ownBlock = some g → w1.heap.size ≤ g ∧ g < W.heap.size := fun g hg => HSI1.out.en.lt g hg
        have h2W : W.heap.size ≤ w2.heap.size := HB2.out.size
        have h3W := HSI1.out.b3.lt
        have hsW := HSI1.out.sz
        have h6W : w2.heap.size < w6.heap.size := HK6.out.lt
        have nr : ∀ k, (k < w1.heap.size ∨ W.heap.size ≤ k) → ¬rows2 (.slice Av ms.length cv) (.slice Ae s.2.length ce) k := fun k hk h => by
          rcases h with h | h
          · have := q1 _ h; omega
          · have := q2 _ h; omega
        have hxm2 : IntKind.i64.wrap ((xa : Int) + (m : Int)) = (xa : Int) + (m : Int) := IntWalk.i64_in _ (by omega)
        have HA : Hid (Ap2 w6.drew w6.drew (fun k => w1.heap.size ≤ k) (.slice Av ms.length cv) (.slice Ae s.2.length ce) 88 3 3 1 (.slice Av ms.length cv) ms.length (cmc ms) (.slice Ae s.2.length ce) s.2.length (ic s.2)) := hid (Ap2.start R1.out R2.out)
        have HB4 : Hid (∀ w', Lg.Mod (rows2 (.slice Av ms.length cv) (.slice Ae s.2.length ce)) w6.drew w' → Blk w' (w.heap.size + 1) 46 #[(.slice Av ms.length cv)]) := hid fun w' h => h.blk (w := w6.drew) HSI6.out.b1 (nr _ (by omega))
        have HB5 : Hid (∀ w', Lg.Mod (rows2 (.slice Av ms.length cv) (.slice Ae s.2.length ce)) w6.drew w' → Blk w' (w.heap.size + 1 + 1) 32 #[(.slice Ae s.2.length ce)]) := hid fun w' h => h.blk (w := w6.drew) HSI6.out.b2 (nr _ (by omega))
        have HB6 : Hid (∀ w', Lg.Mod (rows2 (.slice Av ms.length cv) (.slice Ae s.2.length ce)) w6.drew w' → Blk w' (w.heap.size + 1 + 1 + 1) 3 #[.int .i64 (lastEp s.1)]) := hid fun w' h => h.blk (w := w6.drew) HSI6.out.b3 (nr _ (by omega))
        have HB9 : Hid (∀ w', Lg.Mod (rows2 (.slice Av ms.length cv) (.slice Ae s.2.length ce)) w6.drew w' → Blk w' w2.heap.size 88 (cmcs me mn Ao mo.length co)) := hid fun w' h => h.blk (w := w6.drew) HK6.out (nr _ (by omega))
        have hS0 : S10 (w.heap.size + 1) (w.heap.size + 1 + 1) w2.heap.size (.slice Av ms.length cv) (.slice Ae s.2.length ce) (cmcs me mn Ao mo.length co) (Array.replicate 15 false) w6.drew := ⟨fun _ => (HB4.out _ HA.out.m).cell 0, fun _ => (HB5.out _ HA.out.m).cell 0, HB9.out _ HA.out.m⟩
        rw [HMS.out] at hS0
        have hcl0 : ClosedL .any _ (Array.replicate 15 false) := ClosedL.start (ops := #[{ dst := some 43, op := Op.load 46 (Operand.tmp 4), type := 46, pos := "wal.go:31", after := #[], guard := none }, { dst := some 44, op := Op.load 88 (Operand.tmp 9), type := 88, pos := "wal.go:31", after := #[], guard := none }, { dst := some 45, op := Op.buildSlice 46 1 #[(0, Operand.tmp 44)], type := 46, pos := "wal.go:31", after := #[{ on := 1, ground := Ground.data }], guard := none }, { dst := some 46, op := Op.call { callee := Callee.builtin Builtin.append, args := #[Operand.tmp 43, Operand.tmp 45], argTypes := #[46, 46] }, type := 46, pos := "wal.go:31", after := #[{ on := 0, ground := Ground.data }, { on := 2, ground := Ground.data }], guard := none }, { dst := some 47, op := Op.load 32 (Operand.tmp 5), type := 32, pos := "wal.go:31", after := #[], guard := none }, { dst := some 48, op := Op.move (Operand.tmp 7), type := 3, pos := "wal.go:31", after := #[], guard := none }, { dst := some 49, op := Op.move (Operand.tmp 12), type := 3, pos := "wal.go:31", after := #[], guard := none }, { dst := some 50, op := Op.binOp BinOp.add 3 (Operand.tmp 48) (Operand.tmp 49) 3, type := 3, pos := "wal.go:31", after := #[{ on := 5, ground := Ground.data }, { on := 6, ground := Ground.data }], guard := none }, { dst := some 51, op := Op.buildSlice 32 1 #[(0, Operand.tmp 50)], type := 32, pos := "wal.go:31", after := #[{ on := 7, ground := Ground.data }], guard := none }, { dst := some 52, op := Op.call { callee := Callee.builtin Builtin.append, args := #[Operand.tmp 47, Operand.tmp 51], argTypes := #[32, 32] }, type := 32, pos := "wal.go:31", after := #[{ on := 4, ground := Ground.data }, { on := 8, ground := Ground.data }, { on := 3, ground := Ground.chain }], guard := none }, { dst := some 53, op := Op.fieldAddr 88 (Operand.tmp 9) 0, type := 0, pos := "wal.go:31", after := #[{ on := 13, ground := Ground.gcOnly Departure.lateStores }], guard := none }, { dst := some 54, op := Op.load 3 (Operand.tmp 53), type := 3, pos := "wal.go:31", after := #[{ on := 10, ground := Ground.data }, { on := 13, ground := Ground.gcOnly Departure.lateStores }], guard := none }, { dst := none, op := Op.store 46 (Operand.tmp 4) (Operand.tmp 46), type := 0, pos := "wal.go:31", after := #[{ on := 3, ground := Ground.data }, { on := 9, ground := Ground.chain }, { on := 0, ground := Ground.phase }, { on := 1, ground := Ground.phase }, { on := 2, ground := Ground.phase }, { on := 3, ground := Ground.phase }, { on := 4, ground := Ground.textOnly Departure.inlinedCapture }, { on := 5, ground := Ground.textOnly Departure.lateStores }, { on := 6, ground := Ground.textOnly Departure.lateStores }, { on := 7, ground := Ground.textOnly Departure.lateStores }, { on := 8, ground := Ground.textOnly Departure.inlinedCapture }, { on := 9, ground := Ground.textOnly Departure.lateStoresUnsure }, { on := 10, ground := Ground.textOnly Departure.lateStores }, { on := 11, ground := Ground.textOnly Departure.lateStores }], guard := none }, { dst := none, op := Op.store 32 (Operand.tmp 5) (Operand.tmp 52), type := 0, pos := "wal.go:31", after := #[{ on := 9, ground := Ground.data }, { on := 12, ground := Ground.chain }, { on := 0, ground := Ground.phase }, { on := 1, ground := Ground.phase }, { on := 2, ground := Ground.phase }, { on := 3, ground := Ground.phase }, { on := 4, ground := Ground.phase }, { on := 5, ground := Ground.phase }, { on := 6, ground := Ground.phase }, { on := 7, ground := Ground.phase }, { on := 8, ground := Ground.phase }, { on := 9, ground := Ground.phase }, { on := 10, ground := Ground.textOnly Departure.lateStores }, { on := 11, ground := Ground.textOnly Departure.lateStores }, { on := 12, ground := Ground.phase }], guard := none }, { dst := none, op := Op.store 3 (Operand.tmp 6) (Operand.tmp 54), type := 0, pos := "wal.go:31", after := #[{ on := 11, ground := Ground.data }, { on := 13, ground := Ground.chain }, { on := 0, ground := Ground.phase }, { on := 1, ground := Ground.phase }, { on := 2, ground := Ground.phase }, { on := 3, ground := Ground.phase }, { on := 4, ground := Ground.phase }, { on := 5, ground := Ground.phase }, { on := 6, ground := Ground.phase }, { on := 7, ground := Ground.phase }, { on := 8, ground := Ground.phase }, { on := 9, ground := Ground.phase }, { on := 10, ground := Ground.phase }, { on := 11, ground := Ground.phase }, { on := 12, ground := Ground.phase }, { on := 13, ground := Ground.phase }], guard := none }]) 15
        clear k0 g0 k1 g1 k2 g2 x0 x1 x2
        refine anyT_wp (S := S10 (w.heap.size + 1) (w.heap.size + 1 + 1) w2.heap.size (.slice Av s.1.length cv) (.slice Ae s.2.length ce) (cmcs me mn Ao mo.length co)) _ _ _ _ ?_
        refine anyT_take 0 (.slice Av s.1.length cv) (fun w' => w'.cell? ⟨w.heap.size + 1, 0, none⟩ = some (.slice Av s.1.length cv)) (oi := { dst := some 43, op := Op.load 46 (Operand.tmp 4), type := 46, pos := "wal.go:31", after := #[], guard := none }) rfl (by kernel_rfl) (by kernel_rfl) (by kernel_rfl) (fun _ _ _ h => h) (S10.set (by decide) (by decide)) (fun L w hcl h hS => hS.a (hcl.un (by kernel_rfl) h)) hcl0 hS0 rfl ?_ (fun hcl1 hS1 => ?_)
        · intro w' hC
          go_simp
        try simp only [Act.put, List.setIfInBounds_toArray, List.set_cons_zero, List.set_cons_succ]
        refine anyT_take 1 (.agg #[.int .i64 me, .int .i64 mn, .slice Ao mo.length co]) (fun w' => Blk w' w2.heap.size 88 (cmcs me mn Ao mo.length co)) (oi := { dst := some 44, op := Op.load 88 (Operand.tmp 9), type := 88, pos := "wal.go:31", after := #[], guard := none }) rfl (by kernel_rfl) (by kernel_rfl) (by kernel_rfl) (fun _ _ _ h => h) (S10.set (by decide) (by decide)) (fun L w hcl h hS => hS.c) hcl1 hS1 rfl ?_ (fun hcl2 hS2 => ?_)
        · intro w' hC
          obtain ⟨x0, x1, x2, _⟩ := ccells hC
          go_simp
        try simp only [Act.put, List.setIfInBounds_toArray, List.set_cons_zero, List.set_cons_succ]
        refine anyT_take 4 (.slice Ae s.2.length ce) (fun w' => w'.cell? ⟨w.heap.size + 1 + 1, 0, none⟩ = some (.slice Ae s.2.length ce)) (oi := { dst := some 47, op := Op.load 32 (Operand.tmp 5), type := 32, pos := "wal.go:31", after := #[], guard := none }) rfl (by kernel_rfl) (by kernel_rfl) (by kernel_rfl) (fun _ _ _ h => h) (S10.set (by decide) (by decide)) (fun L w hcl h hS => hS.b (hcl.un (by kernel_rfl) h)) hcl2 hS2 rfl ?_ (fun hcl3 hS3 => ?_)
        · intro w' hC
          go_simp
        try simp only [Act.put, List.setIfInBounds_toArray, List.set_cons_zero, List.set_cons_succ]
        refine anyT_take 5 (.int .i64 (xa : Int)) (fun _ => True) (oi := { dst := some 48, op := Op.move (Operand.tmp 7), type := 3, pos := "wal.go:31", after := #[], guard := none }) rfl (by kernel_rfl) (by kernel_rfl) (by kernel_rfl) (fun _ _ _ h => h) (S10.set (by decide) (by decide)) (fun _ _ _ _ _ => trivial) hcl3 hS3 rfl ?_ (fun hcl4 hS4 => ?_)
        · intro w' hC
          go_simp
        try simp only [Act.put, List.setIfInBounds_toArray, List.set_cons_zero, List.set_cons_succ]
        refine anyT_take 6 (.int .i64 (m : Int)) (fun _ => True) (oi := { dst := some 49, op := Op.move (Operand.tmp 12), type := 3, pos := "wal.go:31", after := #[], guard := none }) rfl (by kernel_rfl) (by kernel_rfl) (by kernel_rfl) (fun _ _ _ h => h) (S10.set (by decide) (by decide)) (fun _ _ _ _ _ => trivial) hcl4 hS4 rfl ?_ (fun hcl5 hS5 => ?_)
        · intro w' hC
          go_simp
        try simp only [Act.put, List.setIfInBounds_toArray, List.set_cons_zero, List.set_cons_succ]
        refine anyT_take 7 (.int .i64 ((xa : Int) + (m : Int))) (fun _ => True) (oi := { dst := some 50, op := Op.binOp BinOp.add 3 (Operand.tmp 48) (Operand.tmp 49) 3, type := 3, pos := "wal.go:31", after := #[{ on := 5, ground := Ground.data }, { on := 6, ground := Ground.data }], guard := none }) rfl (by kernel_rfl) (by kernel_rfl) (by kernel_rfl) (fun _ _ _ h => h) (S10.set (by decide) (by decide)) (fun _ _ _ _ _ => trivial) hcl5 hS5 rfl ?_ (fun hcl6 hS6 => ?_)
        · intro w' hC
          go_simp
        try simp only [Act.put, List.setIfInBounds_toArray, List.set_cons_zero, List.set_cons_succ]
        refine anyT_take 10 (.pointer (some ⟨w2.heap.size, 0, none⟩)) (fun _ => True) (oi := { dst := some 53, op := Op.fieldAddr 88 (Operand.tmp 9) 0, type := 0, pos := "wal.go:31", after := #[{ on := 13, ground := Ground.gcOnly Departure.lateStores }], guard := none }) rfl (by kernel_rfl) (by kernel_rfl) (by kernel_rfl) (fun _ _ _ h => h) (S10.set (by decide) (by decide)) (fun _ _ _ _ _ => trivial) hcl6 hS6 rfl ?_ (fun hcl7 hS7 => ?_)
        · intro w' hC
          go_simp
        try simp only [Act.put, List.setIfInBounds_toArray, List.set_cons_zero, List.set_cons_succ]
        refine anyT_take 11 (.int .i64 me) (fun w' => Blk w' w2.heap.size 88 (cmcs me mn Ao mo.length co)) (oi := { dst := some 54, op := Op.load 3 (Operand.tmp 53), type := 3, pos := "wal.go:31", after := #[{ on := 10, ground := Ground.data }, { on := 13, ground := Ground.gcOnly Departure.lateStores }], guard := none }) rfl (by kernel_rfl) (by kernel_rfl) (by kernel_rfl) (fun _ _ _ h => h) (S10.set (by decide) (by decide)) (fun L w hcl h hS => hS.c) hcl7 hS7 rfl ?_ (fun hcl8 hS8 => ?_)
        · intro w' hC
          obtain ⟨x0, x1, x2, _⟩ := ccells hC
          go_simp
        try simp only [Act.put, List.setIfInBounds_toArray, List.set_cons_zero, List.set_cons_succ]
        rw [HMS.out] at HA
        rw [HMS.out] at HB4
        rw [HMS.out] at HB5
        rw [HMS.out] at HB6
        rw [HMS.out] at HB9
        rw [HMS.out] at q1
        have n54 : w.heap.size + 1 + 1 ≠ w.heap.size + 1 := by omega
        have n64 : w.heap.size + 1 + 1 + 1 ≠ w.heap.size + 1 := by omega
        have n65 : w.heap.size + 1 + 1 + 1 ≠ w.heap.size + 1 + 1 := by omega
        have n94 : w2.heap.size ≠ w.heap.size + 1 := by omega
        have n95 : w2.heap.size ≠ w.heap.size + 1 + 1 := by omega
        have n96 : w2.heap.size ≠ w.heap.size + 1 + 1 + 1 := by omega
        have HSZ6 : Hid (w6.drew.heap.size = w6.heap.size) := hid rfl
        have HSL : Hid (s.1.length ≤ 2000000 ∧ s.2.length ≤ 2000000) := hid ?slen
        have FIN : Hid (∀ u1 u2 y, Ap2 w6.drew y (fun k => w1.heap.size ≤ k) (.slice Av ms.length cv) (.slice Ae s.2.length ce) 88 3 3 1 u1 (ms.length + 1) (cmc ms ++ [.int .i64 me, .int .i64 mn, .slice Ao mo.length co]) u2 (s.2.length + 1) (ic s.2 ++ [.int .i64 ((xa : Int) + (m : Int))]) → ownPostG w1.heap.size (Kp (w.heap.size + 4) w1.heap.size) (fun pre W => ∃ s, wall b ([], []) (pre.map El.p) = some s ∧ SJ w w1.heap.size A n c s W) (fun c' pre W => c' = .exit 0 ∧ ∃ ini x s, pre = ini ++ [x] ∧ wall b ([], []) (ini.map El.p) = some s ∧ wstep b s x.p = none ∧ SJ w w1.heap.size A n c s W) (pre ++ [⟨xa, xr, .slice Ax xr.length cx⟩]) W .normal { tmps := #[], defers := [] } (((y.setCell ⟨w.heap.size + 1, 0, none⟩ u1).setCell ⟨w.heap.size + 1 + 1, 0, none⟩ u2).setCell ⟨w.heap.size + 1 + 1 + 1, 0, none⟩ (.int .i64 me))) := by
          refine hid fun u1 u2 y hA => ?_
          have hb6 := HB7.out
          have hm : Lg.Mod (rows2 (.slice Av ms.length cv) (.slice Ae s.2.length ce)) W y := (Mod.of_below hb6).trans_ ⟨hA.m.os, hA.m.tape, hA.m.output, hA.m.size, hA.m.block⟩
          obtain ⟨r1, r2⟩ := scan_keeps (lo := w.heap.size + 4) (hi := w1.heap.size) (u4 := u1) (u5 := u2) (u6 := .int .i64 me) hm (fun k hk => by
            rcases hk with hk | hk
            · exact ⟨(HSI1.out.cl.row.lt k hk).1, sl_cells HSI1.out.cl.row k hk⟩
            · exact ⟨(HSI1.out.en.lt k hk).1, sl_cells HSI1.out.en k hk⟩) HSI1.out.sz (by omega) (by omega) (by omega) HSI1.out.b1 HSI1.out.b2 HSI1.out.b3
          refine ⟨r1, r2, _, ?_, _, _, _, scan_fin (e := xa + m) HSI6.out (by omega) (by rw [Int.natCast_add]; exact hA) (HS6.out.to (fun k hk => by have : W.heap.size ≤ k := hk; omega))⟩
          rw [List.map_append, List.map_cons, List.map_nil, wall_snoc HS.out]
          exact HST.out
        refine anyT_ready [2, 8] (by kernel_rfl) (by simp) ?_
        intro i hi
        rcases List.mem_cons.1 hi with rfl | hi
        · skip
          refine op_step (i := 2) (o := { dst := some 45, op := Op.buildSlice 46 1 #[(0, Operand.tmp 44)], type := 46, pos := "wal.go:31", after := #[{ on := 1, ground := Ground.data }], guard := none }) rfl rfl (fun K hK => ?_)
          go_simp
          have HA1 := hid (HA.out.alloc (.cells #[.int .i64 me, .int .i64 mn, .slice Ao mo.length co] 88))
          have KB1 : Hid (Blk ((w6.drew).alloc (.cells #[.int .i64 me, .int .i64 mn, .slice Ao mo.length co] 88)) (w6.heap.size) 88 #[.int .i64 me, .int .i64 mn, .slice Ao mo.length co]) := hid (by have h := Blk.new (w6.drew) 88 #[.int .i64 me, .int .i64 mn, .slice Ao mo.length co]; first | exact h | (rw [World.size_alloc] at h; exact h))
          refine hK.out _ _ ⟨⟨fun _ => (HB4.out _ HA1.out.m).cell 0, fun _ => (HB5.out _ HA1.out.m).cell 0, HB9.out _ HA1.out.m⟩, ?_⟩
          clear hK K
          try simp only [Act.put, List.setIfInBounds_toArray, List.set_cons_zero, List.set_cons_succ]
          refine anyT_ready [3, 8] (by kernel_rfl) (by simp) ?_
          intro i hi
          rcases List.mem_cons.1 hi with rfl | hi
          · skip
            refine op_step (i := 3) (o := { dst := some 46, op := Op.call { callee := Callee.builtin Builtin.append, args := #[Operand.tmp 43, Operand.tmp 45], argTypes := #[46, 46] }, type := 46, pos := "wal.go:31", after := #[{ on := 0, ground := Ground.data }, { on := 2, ground := Ground.data }], guard := none }) rfl rfl (fun K hK => ?_)
            refine wp_append_sl _ T46 (.tmp 43) (.tmp 45) rfl (by rfl) HA1.out.r1 (A := some ⟨w6.heap.size, 0, none⟩) (m := 1) (c := 1) (by rfl) (RdF.of_blk KB1.out 1 3 rfl) (by simp [Value.oneCell']) (by have := HSL.out; omega) ?_
            intro u2 y2 hs2 hg2 ho2
            obtain ⟨U2, C2, rfl, _, _⟩ := hs2.slice_
            have HA2 := hid (HA1.out.one (by decide) hs2 hg2 ho2)
            refine hK.out _ _ ⟨⟨fun _ => (HB4.out _ HA2.out.m).cell 0, fun _ => (HB5.out _ HA2.out.m).cell 0, HB9.out _ HA2.out.m⟩, ?_⟩
            clear hK K hs2 hg2 ho2
            try simp only [Act.put, List.setIfInBounds_toArray, List.set_cons_zero, List.set_cons_succ]
            refine anyT_ready [8] (by kernel_rfl) (by simp) ?_
            intro i hi
            obtain rfl := List.mem_singleton.1 hi
            clear hi
            refine op_step (i := 8) (o := { dst := some 51, op := Op.buildSlice 32 1 #[(0, Operand.tmp 50)], type := 32, pos := "wal.go:31", after := #[{ on := 7, ground := Ground.data }], guard := none }) rfl rfl (fun K hK => ?_)
            go_simp
            have HA3 := hid (HA2.out.alloc (.cells #[.int .i64 ((xa : Int) + (m : Int))] 3))
            have KB3 : Hid (Blk ((y2).alloc (.cells #[.int .i64 ((xa : Int) + (m : Int))] 3)) (y2.heap.size) 3 #[.int .i64 ((xa : Int) + (m : Int))]) := hid (by have h := Blk.new (y2) 3 #[.int .i64 ((xa : Int) + (m : Int))]; first | exact h | (rw [World.size_alloc] at h; exact h))
            refine hK.out _ _ ⟨⟨fun _ => (HB4.out _ HA3.out.m).cell 0, fun _ => (HB5.out _ HA3.out.m).cell 0, HB9.out _ HA3.out.m⟩, ?_⟩
            clear hK K
            try simp only [Act.put, List.setIfInBounds_toArray, List.set_cons_zero, List.set_cons_succ]
            refine anyT_ready [9] (by kernel_rfl) (by simp) ?_
            intro i hi
            obtain rfl := List.mem_singleton.1 hi
            clear hi
            refine op_step (i := 9) (o := { dst := some 52, op := Op.call { callee := Callee.builtin Builtin.append, args := #[Operand.tmp 47, Operand.tmp 51], argTypes := #[32, 32] }, type := 32, pos := "wal.go:31", after := #[{ on := 4, ground := Ground.data }, { on := 8, ground := Ground.data }, { on := 3, ground := Ground.chain }], guard := none }) rfl rfl (fun K hK => ?_)
            refine wp_append_sl _ T32 (.tmp 47) (.tmp 51) rfl (by rfl) HA3.out.r2 (A := some ⟨y2.heap.size, 0, none⟩) (m := 1) (c := 1) (by rfl) (RdF.of_blk KB3.out 1 1 rfl) (by simp [Value.oneCell']) (by have := HSL.out; omega) ?_
            intro u4 y4 hs4 hg4 ho4
            obtain ⟨U4, C4, rfl, _, _⟩ := hs4.slice_
            have HA4 := hid (HA3.out.two (by decide) hs4 hg4 ho4)
            refine hK.out _ _ ⟨⟨fun _ => (HB4.out _ HA4.out.m).cell 0, fun _ => (HB5.out _ HA4.out.m).cell 0, HB9.out _ HA4.out.m⟩, ?_⟩
            clear hK K hs4 hg4 ho4
            try simp only [Act.put, List.setIfInBounds_toArray, List.set_cons_zero, List.set_cons_succ]
            obtain ⟨g4, f4⟩ := boxes (HB4.out _ HA4.out.m)
            obtain ⟨g5, f5⟩ := boxes (HB5.out _ HA4.out.m)
            obtain ⟨g6, f6⟩ := boxes (HB6.out _ HA4.out.m)
            have k5 := (HB5.out _ HA4.out.m).far (p := ⟨w.heap.size + 1, 0, none⟩) n54 (.slice U2 (s.1.length + 1) C2)
            have k6 := ((HB6.out _ HA4.out.m).far (p := ⟨w.heap.size + 1, 0, none⟩) n64 (.slice U2 (s.1.length + 1) C2)).far (p := ⟨w.heap.size + 1 + 1, 0, none⟩) n65 (.slice U4 (s.2.length + 1) C4)
            have k9 := (HB9.out _ HA4.out.m).far (p := ⟨w.heap.size + 1, 0, none⟩) n94 (.slice U2 (s.1.length + 1) C2)
            have k99 := k9.far (p := ⟨w.heap.size + 1 + 1, 0, none⟩) n95 (.slice U4 (s.2.length + 1) C4)
            have k999 := k99.far (p := ⟨w.heap.size + 1 + 1 + 1, 0, none⟩) n96 (.int .i64 me)
            have K9 := hid k9
            have K99 := hid k99
            have K999 := hid k999
            obtain ⟨g5b, f5b⟩ := boxes k5
            obtain ⟨g6b, f6b⟩ := boxes k6
            have K5 := hid k5
            clear k5 k6 k9 k99 k999
            refine anyT_ready [12] (by kernel_rfl) (by simp) ?_
            intro i hi
            obtain rfl := List.mem_singleton.1 hi
            clear hi
            refine op_step (i := 12) (o := { dst := none, op := Op.store 46 (Operand.tmp 4) (Operand.tmp 46), type := 0, pos := "wal.go:31", after := #[{ on := 3, ground := Ground.data }, { on := 9, ground := Ground.chain }, { on := 0, ground := Ground.phase }, { on := 1, ground := Ground.phase }, { on := 2, ground := Ground.phase }, { on := 3, ground := Ground.phase }, { on := 4, ground := Ground.textOnly Departure.inlinedCapture }, { on := 5, ground := Ground.textOnly Departure.lateStores }, { on := 6, ground := Ground.textOnly Departure.lateStores }, { on := 7, ground := Ground.textOnly Departure.lateStores }, { on := 8, ground := Ground.textOnly Departure.inlinedCapture }, { on := 9, ground := Ground.textOnly Departure.lateStoresUnsure }, { on := 10, ground := Ground.textOnly Departure.lateStores }, { on := 11, ground := Ground.textOnly Departure.lateStores }], guard := none }) rfl rfl (fun K hK => ?_)
            go_simp
            refine hK.out _ _ ⟨⟨fun h => by simp at h, fun _ => K5.out.cell 0, K9.out⟩, ?_⟩
            clear hK K
            try simp only [Act.put, List.setIfInBounds_toArray, List.set_cons_zero, List.set_cons_succ]
            refine anyT_ready [13] (by kernel_rfl) (by simp) ?_
            intro i hi
            obtain rfl := List.mem_singleton.1 hi
            clear hi
            refine op_step (i := 13) (o := { dst := none, op := Op.store 32 (Operand.tmp 5) (Operand.tmp 52), type := 0, pos := "wal.go:31", after := #[{ on := 9, ground := Ground.data }, { on := 12, ground := Ground.chain }, { on := 0, ground := Ground.phase }, { on := 1, ground := Ground.phase }, { on := 2, ground := Ground.phase }, { on := 3, ground := Ground.phase }, { on := 4, ground := Ground.phase }, { on := 5, ground := Ground.phase }, { on := 6, ground := Ground.phase }, { on := 7, ground := Ground.phase }, { on := 8, ground := Ground.phase }, { on := 9, ground := Ground.phase }, { on := 10, ground := Ground.textOnly Departure.lateStores }, { on := 11, ground := Ground.textOnly Departure.lateStores }, { on := 12, ground := Ground.phase }], guard := none }) rfl rfl (fun K hK => ?_)
            go_simp
            refine hK.out _ _ ⟨⟨fun h => by simp at h, fun h => by simp at h, K99.out⟩, ?_⟩
            clear hK K
            try simp only [Act.put, List.setIfInBounds_toArray, List.set_cons_zero, List.set_cons_succ]
            refine anyT_ready [14] (by kernel_rfl) (by simp) ?_
            intro i hi
            obtain rfl := List.mem_singleton.1 hi
            clear hi
            refine op_step (i := 14) (o := { dst := none, op := Op.store 3 (Operand.tmp 6) (Operand.tmp 54), type := 0, pos := "wal.go:31", after := #[{ on := 11, ground := Ground.data }, { on := 13, ground := Ground.chain }, { on := 0, ground := Ground.phase }, { on := 1, ground := Ground.phase }, { on := 2, ground := Ground.phase }, { on := 3, ground := Ground.phase }, { on := 4, ground := Ground.phase }, { on := 5, ground := Ground.phase }, { on := 6, ground := Ground.phase }, { on := 7, ground := Ground.phase }, { on := 8, ground := Ground.phase }, { on := 9, ground := Ground.phase }, { on := 10, ground := Ground.phase }, { on := 11, ground := Ground.phase }, { on := 12, ground := Ground.phase }, { on := 13, ground := Ground.phase }], guard := none }) rfl rfl (fun K hK => ?_)
            go_simp
            refine hK.out _ _ ⟨⟨fun h => by simp at h, fun h => by simp at h, K999.out⟩, ?_⟩
            clear hK K
            try simp only [Act.put, List.setIfInBounds_toArray, List.set_cons_zero, List.set_cons_succ]
            refine anyT_done (by kernel_rfl) ?_
            exact FIN.out _ _ _ (by rw [HMS.out]; exact HA4.out)
          · obtain rfl := List.mem_singleton.1 hi
            clear hi
            refine op_step (i := 8) (o := { dst := some 51, op := Op.buildSlice 32 1 #[(0, Operand.tmp 50)], type := 32, pos := "wal.go:31", after := #[{ on := 7, ground := Ground.data }], guard := none }) rfl rfl (fun K hK => ?_)
            go_simp
            have HA5 := hid (HA1.out.alloc (.cells #[.int .i64 ((xa : Int) + (m : Int))] 3))
            have KB5 : Hid (Blk (((w6.drew).alloc (.cells #[.int .i64 me, .int .i64 mn, .slice Ao mo.length co] 88)).alloc (.cells #[.int .i64 ((xa : Int) + (m : Int))] 3)) (w6.heap.size + 1) 3 #[.int .i64 ((xa : Int) + (m : Int))]) := hid (by have h := Blk.new ((w6.drew).alloc (.cells #[.int .i64 me, .int .i64 mn, .slice Ao mo.length co] 88)) 3 #[.int .i64 ((xa : Int) + (m : Int))]; first | exact h | (rw [World.size_alloc] at h; exact h))
            refine hK.out _ _ ⟨⟨fun _ => (HB4.out _ HA5.out.m).cell 0, fun _ => (HB5.out _ HA5.out.m).cell 0, HB9.out _ HA5.out.m⟩, ?_⟩
            clear hK K
            try simp only [Act.put, List.setIfInBounds_toArray, List.set_cons_zero, List.set_cons_succ]
            have KB6 := hid (KB1.out.alloc (.cells #[.int .i64 ((xa : Int) + (m : Int))] 3))
            refine anyT_ready [3] (by kernel_rfl) (by simp) ?_
            intro i hi
            obtain rfl := List.mem_singleton.1 hi
            clear hi
            refine op_step (i := 3) (o := { dst := some 46, op := Op.call { callee := Callee.builtin Builtin.append, args := #[Operand.tmp 43, Operand.tmp 45], argTypes := #[46, 46] }, type := 46, pos := "wal.go:31", after := #[{ on := 0, ground := Ground.data }, { on := 2, ground := Ground.data }], guard := none }) rfl rfl (fun K hK => ?_)
            refine wp_append_sl _ T46 (.tmp 43) (.tmp 45) rfl (by rfl) HA5.out.r1 (A := some ⟨w6.heap.size, 0, none⟩) (m := 1) (c := 1) (by rfl) (RdF.of_blk KB6.out 1 3 rfl) (by simp [Value.oneCell']) (by have := HSL.out; omega) ?_
            intro u7 y7 hs7 hg7 ho7
            obtain ⟨U7, C7, rfl, _, _⟩ := hs7.slice_
            have HA7 := hid (HA5.out.one (by decide) hs7 hg7 ho7)
            have KB7 := hid (KB5.out.gb hg7 (fun e => by have := q1 _ e.symm; have := HSZ6.out; simp only [World.size_alloc] at *; omega))
            refine hK.out _ _ ⟨⟨fun _ => (HB4.out _ HA7.out.m).cell 0, fun _ => (HB5.out _ HA7.out.m).cell 0, HB9.out _ HA7.out.m⟩, ?_⟩
            clear hK K hs7 hg7 ho7
            try simp only [Act.put, List.setIfInBounds_toArray, List.set_cons_zero, List.set_cons_succ]
            refine anyT_ready [9] (by kernel_rfl) (by simp) ?_
            intro i hi
            obtain rfl := List.mem_singleton.1 hi
            clear hi
            refine op_step (i := 9) (o := { dst := some 52, op := Op.call { callee := Callee.builtin Builtin.append, args := #[Operand.tmp 47, Operand.tmp 51], argTypes := #[32, 32] }, type := 32, pos := "wal.go:31", after := #[{ on := 4, ground := Ground.data }, { on := 8, ground := Ground.data }, { on := 3, ground := Ground.chain }], guard := none }) rfl rfl (fun K hK => ?_)
            refine wp_append_sl _ T32 (.tmp 47) (.tmp 51) rfl (by rfl) HA7.out.r2 (A := some ⟨w6.heap.size + 1, 0, none⟩) (m := 1) (c := 1) (by rfl) (RdF.of_blk KB7.out 1 1 rfl) (by simp [Value.oneCell']) (by have := HSL.out; omega) ?_
            intro u8 y8 hs8 hg8 ho8
            obtain ⟨U8, C8, rfl, _, _⟩ := hs8.slice_
            have HA8 := hid (HA7.out.two (by decide) hs8 hg8 ho8)
            refine hK.out _ _ ⟨⟨fun _ => (HB4.out _ HA8.out.m).cell 0, fun _ => (HB5.out _ HA8.out.m).cell 0, HB9.out _ HA8.out.m⟩, ?_⟩
            clear hK K hs8 hg8 ho8
            try simp only [Act.put, List.setIfInBounds_toArray, List.set_cons_zero, List.set_cons_succ]
            obtain ⟨g4, f4⟩ := boxes (HB4.out _ HA8.out.m)
            obtain ⟨g5, f5⟩ := boxes (HB5.out _ HA8.out.m)
            obtain ⟨g6, f6⟩ := boxes (HB6.out _ HA8.out.m)
            have k5 := (HB5.out _ HA8.out.m).far (p := ⟨w.heap.size + 1, 0, none⟩) n54 (.slice U7 (s.1.length + 1) C7)
            have k6 := ((HB6.out _ HA8.out.m).far (p := ⟨w.heap.size + 1, 0, none⟩) n64 (.slice U7 (s.1.length + 1) C7)).far (p := ⟨w.heap.size + 1 + 1, 0, none⟩) n65 (.slice U8 (s.2.length + 1) C8)
            have k9 := (HB9.out _ HA8.out.m).far (p := ⟨w.heap.size + 1, 0, none⟩) n94 (.slice U7 (s.1.length + 1) C7)
            have k99 := k9.far (p := ⟨w.heap.size + 1 + 1, 0, none⟩) n95 (.slice U8 (s.2.length + 1) C8)
            have k999 := k99.far (p := ⟨w.heap.size + 1 + 1 + 1, 0, none⟩) n96 (.int .i64 me)
            have K9 := hid k9
            have K99 := hid k99
            have K999 := hid k999
            obtain ⟨g5b, f5b⟩ := boxes k5
            obtain ⟨g6b, f6b⟩ := boxes k6
            have K5 := hid k5
            clear k5 k6 k9 k99 k999
            refine anyT_ready [12] (by kernel_rfl) (by simp) ?_
            intro i hi
            obtain rfl := List.mem_singleton.1 hi
            clear hi
            refine op_step (i := 12) (o := { dst := none, op := Op.store 46 (Operand.tmp 4) (Operand.tmp 46), type := 0, pos := "wal.go:31", after := #[{ on := 3, ground := Ground.data }, { on := 9, ground := Ground.chain }, { on := 0, ground := Ground.phase }, { on := 1, ground := Ground.phase }, { on := 2, ground := Ground.phase }, { on := 3, ground := Ground.phase }, { on := 4, ground := Ground.textOnly Departure.inlinedCapture }, { on := 5, ground := Ground.textOnly Departure.lateStores }, { on := 6, ground := Ground.textOnly Departure.lateStores }, { on := 7, ground := Ground.textOnly Departure.lateStores }, { on := 8, ground := Ground.textOnly Departure.inlinedCapture }, { on := 9, ground := Ground.textOnly Departure.lateStoresUnsure }, { on := 10, ground := Ground.textOnly Departure.lateStores }, { on := 11, ground := Ground.textOnly Departure.lateStores }], guard := none }) rfl rfl (fun K hK => ?_)
            go_simp
            refine hK.out _ _ ⟨⟨fun h => by simp at h, fun _ => K5.out.cell 0, K9.out⟩, ?_⟩
            clear hK K
            try simp only [Act.put, List.setIfInBounds_toArray, List.set_cons_zero, List.set_cons_succ]
            refine anyT_ready [13] (by kernel_rfl) (by simp) ?_
            intro i hi
            obtain rfl := List.mem_singleton.1 hi
            clear hi
            refine op_step (i := 13) (o := { dst := none, op := Op.store 32 (Operand.tmp 5) (Operand.tmp 52), type := 0, pos := "wal.go:31", after := #[{ on := 9, ground := Ground.data }, { on := 12, ground := Ground.chain }, { on := 0, ground := Ground.phase }, { on := 1, ground := Ground.phase }, { on := 2, ground := Ground.phase }, { on := 3, ground := Ground.phase }, { on := 4, ground := Ground.phase }, { on := 5, ground := Ground.phase }, { on := 6, ground := Ground.phase }, { on := 7, ground := Ground.phase }, { on := 8, ground := Ground.phase }, { on := 9, ground := Ground.phase }, { on := 10, ground := Ground.textOnly Departure.lateStores }, { on := 11, ground := Ground.textOnly Departure.lateStores }, { on := 12, ground := Ground.phase }], guard := none }) rfl rfl (fun K hK => ?_)
            go_simp
            refine hK.out _ _ ⟨⟨fun h => by simp at h, fun h => by simp at h, K99.out⟩, ?_⟩
            clear hK K
            try simp only [Act.put, List.setIfInBounds_toArray, List.set_cons_zero, List.set_cons_succ]
            refine anyT_ready [14] (by kernel_rfl) (by simp) ?_
            intro i hi
            obtain rfl := List.mem_singleton.1 hi
            clear hi
            refine op_step (i := 14) (o := { dst := none, op := Op.store 3 (Operand.tmp 6) (Operand.tmp 54), type := 0, pos := "wal.go:31", after := #[{ on := 11, ground := Ground.data }, { on := 13, ground := Ground.chain }, { on := 0, ground := Ground.phase }, { on := 1, ground := Ground.phase }, { on := 2, ground := Ground.phase }, { on := 3, ground := Ground.phase }, { on := 4, ground := Ground.phase }, { on := 5, ground := Ground.phase }, { on := 6, ground := Ground.phase }, { on := 7, ground := Ground.phase }, { on := 8, ground := Ground.phase }, { on := 9, ground := Ground.phase }, { on := 10, ground := Ground.phase }, { on := 11, ground := Ground.phase }, { on := 12, ground := Ground.phase }, { on := 13, ground := Ground.phase }], guard := none }) rfl rfl (fun K hK => ?_)
            go_simp
            refine hK.out _ _ ⟨⟨fun h => by simp at h, fun h => by simp at h, K999.out⟩, ?_⟩
            clear hK K
            try simp only [Act.put, List.setIfInBounds_toArray, List.set_cons_zero, List.set_cons_succ]
            refine anyT_done (by kernel_rfl) ?_
            exact FIN.out _ _ _ (by rw [HMS.out]; exact HA8.out)
        · obtain rfl := List.mem_singleton.1 hi
          clear hi
          refine op_step (i := 8) (o := { dst := some 51, op := Op.buildSlice 32 1 #[(0, Operand.tmp 50)], type := 32, pos := "wal.go:31", after := #[{ on := 7, ground := Ground.data }], guard := none }) rfl rfl (fun K hK => ?_)
          go_simp
          have HA9 := hid (HA.out.alloc (.cells #[.int .i64 ((xa : Int) + (m : Int))] 3))
          have KB9 : Hid (Blk ((w6.drew).alloc (.cells #[.int .i64 ((xa : Int) + (m : Int))] 3)) (w6.heap.size) 3 #[.int .i64 ((xa : Int) + (m : Int))]) := hid (by have h := Blk.new (w6.drew) 3 #[.int .i64 ((xa : Int) + (m : Int))]; first | exact h | (rw [World.size_alloc] at h; exact h))
          refine hK.out _ _ ⟨⟨fun _ => (HB4.out _ HA9.out.m).cell 0, fun _ => (HB5.out _ HA9.out.m).cell 0, HB9.out _ HA9.out.m⟩, ?_⟩
          clear hK K
          try simp only [Act.put, List.setIfInBounds_toArray, List.set_cons_zero, List.set_cons_succ]
          refine anyT_ready [2] (by kernel_rfl) (by simp) ?_
          intro i hi
          obtain rfl := List.mem_singleton.1 hi
          clear hi
          refine op_step (i := 2) (o := { dst := some 45, op := Op.buildSlice 46 1 #[(0, Operand.tmp 44)], type := 46, pos := "wal.go:31", after := #[{ on := 1, ground := Ground.data }], guard := none }) rfl rfl (fun K hK => ?_)
          go_simp
          have HA10 := hid (HA9.out.alloc (.cells #[.int .i64 me, .int .i64 mn, .slice Ao mo.length co] 88))
          have KB10 : Hid (Blk (((w6.drew).alloc (.cells #[.int .i64 ((xa : Int) + (m : Int))] 3)).alloc (.cells #[.int .i64 me, .int .i64 mn, .slice Ao mo.length co] 88)) (w6.heap.size + 1) 88 #[.int .i64 me, .int .i64 mn, .slice Ao mo.length co]) := hid (by have h := Blk.new ((w6.drew).alloc (.cells #[.int .i64 ((xa : Int) + (m : Int))] 3)) 88 #[.int .i64 me, .int .i64 mn, .slice Ao mo.length co]; first | exact h | (rw [World.size_alloc] at h; exact h))
          refine hK.out _ _ ⟨⟨fun _ => (HB4.out _ HA10.out.m).cell 0, fun _ => (HB5.out _ HA10.out.m).cell 0, HB9.out _ HA10.out.m⟩, ?_⟩
          clear hK K
          try simp only [Act.put, List.setIfInBounds_toArray, List.set_cons_zero, List.set_cons_succ]
          have KB11 := hid (KB9.out.alloc (.cells #[.int .i64 me, .int .i64 mn, .slice Ao mo.length co] 88))
          refine anyT_ready [3] (by kernel_rfl) (by simp) ?_
          intro i hi
          obtain rfl := List.mem_singleton.1 hi
          clear hi
          refine op_step (i := 3) (o := { dst := some 46, op := Op.call { callee := Callee.builtin Builtin.append, args := #[Operand.tmp 43, Operand.tmp 45], argTypes := #[46, 46] }, type := 46, pos := "wal.go:31", after := #[{ on := 0, ground := Ground.data }, { on := 2, ground := Ground.data }], guard := none }) rfl rfl (fun K hK => ?_)
          refine wp_append_sl _ T46 (.tmp 43) (.tmp 45) rfl (by rfl) HA10.out.r1 (A := some ⟨w6.heap.size + 1, 0, none⟩) (m := 1) (c := 1) (by rfl) (RdF.of_blk KB10.out 1 3 rfl) (by simp [Value.oneCell']) (by have := HSL.out; omega) ?_
          intro u12 y12 hs12 hg12 ho12
          obtain ⟨U12, C12, rfl, _, _⟩ := hs12.slice_
          have HA12 := hid (HA10.out.one (by decide) hs12 hg12 ho12)
          have KB12 := hid (KB11.out.gb hg12 (fun e => by have := q1 _ e.symm; have := HSZ6.out; simp only [World.size_alloc] at *; omega))
          refine hK.out _ _ ⟨⟨fun _ => (HB4.out _ HA12.out.m).cell 0, fun _ => (HB5.out _ HA12.out.m).cell 0, HB9.out _ HA12.out.m⟩, ?_⟩
          clear hK K hs12 hg12 ho12
          try simp only [Act.put, List.setIfInBounds_toArray, List.set_cons_zero, List.set_cons_succ]
          refine anyT_ready [9] (by kernel_rfl) (by simp) ?_
          intro i hi
          obtain rfl := List.mem_singleton.1 hi
          clear hi
          refine op_step (i := 9) (o := { dst := some 52, op := Op.call { callee := Callee.builtin Builtin.append, args := #[Operand.tmp 47, Operand.tmp 51], argTypes := #[32, 32] }, type := 32, pos := "wal.go:31", after := #[{ on := 4, ground := Ground.data }, { on := 8, ground := Ground.data }, { on := 3, ground := Ground.chain }], guard := none }) rfl rfl (fun K hK => ?_)
          refine wp_append_sl _ T32 (.tmp 47) (.tmp 51) rfl (by rfl) HA12.out.r2 (A := some ⟨w6.heap.size, 0, none⟩) (m := 1) (c := 1) (by rfl) (RdF.of_blk KB12.out 1 1 rfl) (by simp [Value.oneCell']) (by have := HSL.out; omega) ?_
          intro u13 y13 hs13 hg13 ho13
          obtain ⟨U13, C13, rfl, _, _⟩ := hs13.slice_
          have HA13 := hid (HA12.out.two (by decide) hs13 hg13 ho13)
          refine hK.out _ _ ⟨⟨fun _ => (HB4.out _ HA13.out.m).cell 0, fun _ => (HB5.out _ HA13.out.m).cell 0, HB9.out _ HA13.out.m⟩, ?_⟩
          clear hK K hs13 hg13 ho13
          try simp only [Act.put, List.setIfInBounds_toArray, List.set_cons_zero, List.set_cons_succ]
          obtain ⟨g4, f4⟩ := boxes (HB4.out _ HA13.out.m)
          obtain ⟨g5, f5⟩ := boxes (HB5.out _ HA13.out.m)
          obtain ⟨g6, f6⟩ := boxes (HB6.out _ HA13.out.m)
          have k5 := (HB5.out _ HA13.out.m).far (p := ⟨w.heap.size + 1, 0, none⟩) n54 (.slice U12 (s.1.length + 1) C12)
          have k6 := ((HB6.out _ HA13.out.m).far (p := ⟨w.heap.size + 1, 0, none⟩) n64 (.slice U12 (s.1.length + 1) C12)).far (p := ⟨w.heap.size + 1 + 1, 0, none⟩) n65 (.slice U13 (s.2.length + 1) C13)
          have k9 := (HB9.out _ HA13.out.m).far (p := ⟨w.heap.size + 1, 0, none⟩) n94 (.slice U12 (s.1.length + 1) C12)
          have k99 := k9.far (p := ⟨w.heap.size + 1 + 1, 0, none⟩) n95 (.slice U13 (s.2.length + 1) C13)
          have k999 := k99.far (p := ⟨w.heap.size + 1 + 1 + 1, 0, none⟩) n96 (.int .i64 me)
          have K9 := hid k9
          have K99 := hid k99
          have K999 := hid k999
          obtain ⟨g5b, f5b⟩ := boxes k5
          obtain ⟨g6b, f6b⟩ := boxes k6
          have K5 := hid k5
          clear k5 k6 k9 k99 k999
          refine anyT_ready [12] (by kernel_rfl) (by simp) ?_
          intro i hi
          obtain rfl := List.mem_singleton.1 hi
          clear hi
          refine op_step (i := 12) (o := { dst := none, op := Op.store 46 (Operand.tmp 4) (Operand.tmp 46), type := 0, pos := "wal.go:31", after := #[{ on := 3, ground := Ground.data }, { on := 9, ground := Ground.chain }, { on := 0, ground := Ground.phase }, { on := 1, ground := Ground.phase }, { on := 2, ground := Ground.phase }, { on := 3, ground := Ground.phase }, { on := 4, ground := Ground.textOnly Departure.inlinedCapture }, { on := 5, ground := Ground.textOnly Departure.lateStores }, { on := 6, ground := Ground.textOnly Departure.lateStores }, { on := 7, ground := Ground.textOnly Departure.lateStores }, { on := 8, ground := Ground.textOnly Departure.inlinedCapture }, { on := 9, ground := Ground.textOnly Departure.lateStoresUnsure }, { on := 10, ground := Ground.textOnly Departure.lateStores }, { on := 11, ground := Ground.textOnly Departure.lateStores }], guard := none }) rfl rfl (fun K hK => ?_)
          go_simp
          refine hK.out _ _ ⟨⟨fun h => by simp at h, fun _ => K5.out.cell 0, K9.out⟩, ?_⟩
          clear hK K
          try simp only [Act.put, List.setIfInBounds_toArray, List.set_cons_zero, List.set_cons_succ]
          refine anyT_ready [13] (by kernel_rfl) (by simp) ?_
          intro i hi
          obtain rfl := List.mem_singleton.1 hi
          clear hi
          refine op_step (i := 13) (o := { dst := none, op := Op.store 32 (Operand.tmp 5) (Operand.tmp 52), type := 0, pos := "wal.go:31", after := #[{ on := 9, ground := Ground.data }, { on := 12, ground := Ground.chain }, { on := 0, ground := Ground.phase }, { on := 1, ground := Ground.phase }, { on := 2, ground := Ground.phase }, { on := 3, ground := Ground.phase }, { on := 4, ground := Ground.phase }, { on := 5, ground := Ground.phase }, { on := 6, ground := Ground.phase }, { on := 7, ground := Ground.phase }, { on := 8, ground := Ground.phase }, { on := 9, ground := Ground.phase }, { on := 10, ground := Ground.textOnly Departure.lateStores }, { on := 11, ground := Ground.textOnly Departure.lateStores }, { on := 12, ground := Ground.phase }], guard := none }) rfl rfl (fun K hK => ?_)
          go_simp
          refine hK.out _ _ ⟨⟨fun h => by simp at h, fun h => by simp at h, K99.out⟩, ?_⟩
          clear hK K
          try simp only [Act.put, List.setIfInBounds_toArray, List.set_cons_zero, List.set_cons_succ]
          refine anyT_ready [14] (by kernel_rfl) (by simp) ?_
          intro i hi
          obtain rfl := List.mem_singleton.1 hi
          clear hi
          refine op_step (i := 14) (o := { dst := none, op := Op.store 3 (Operand.tmp 6) (Operand.tmp 54), type := 0, pos := "wal.go:31", after := #[{ on := 11, ground := Ground.data }, { on := 13, ground := Ground.chain }, { on := 0, ground := Ground.phase }, { on := 1, ground := Ground.phase }, { on := 2, ground := Ground.phase }, { on := 3, ground := Ground.phase }, { on := 4, ground := Ground.phase }, { on := 5, ground := Ground.phase }, { on := 6, ground := Ground.phase }, { on := 7, ground := Ground.phase }, { on := 8, ground := Ground.phase }, { on := 9, ground := Ground.phase }, { on := 10, ground := Ground.phase }, { on := 11, ground := Ground.phase }, { on := 12, ground := Ground.phase }, { on := 13, ground := Ground.phase }], guard := none }) rfl rfl (fun K hK => ?_)
          go_simp
          refine hK.out _ _ ⟨⟨fun h => by simp at h, fun h => by simp at h, K999.out⟩, ?_⟩
          clear hK K
          try simp only [Act.put, List.setIfInBounds_toArray, List.set_cons_zero, List.set_cons_succ]
          refine anyT_done (by kernel_rfl) ?_
          exact FIN.out _ _ _ (by rw [HMS.out]; exact HA13.out)
        case slen =>
          have h1 := wall_len HS.out
          have h2 := HLT.out
          have h3 := Vi.sq_len (b.length + 1) 0 b (by omega)
          simp only [List.length_nil, Nat.zero_add, List.length_map] at h1
          omega
  case done1 =>
    rintro D1 ys Wq hD hys ⟨s, hs, vC, vE, ms, hsi⟩ hK
    have hT := HT.out
    subst hT
    have hsc : wscan b = s := by
      rw [wscan, ← hys, ← List.append_nil (ys.map El.p), wgo_all hs]; rfl
    have HSC := hid hsc
    have HSI2 := hid hsi
    have HK2 := hid hK
    obtain ⟨c1', f1'⟩ := boxes hsi.b1
    obtain ⟨c2', f2'⟩ := boxes hsi.b2
    have c2'' : Wq.cell? ⟨w.heap.size + 1 + 1, 0, none⟩ = some vE := c2'
    clear hsi hK hs hys hsc
    go_wp2_with fail
    go_quiet (fail)
    all_goals go_wp2_with fail
    all_goals
      refine ⟨by simp, .inl ⟨_, _, rfl, run_takeDeferred (by exact HK2.out), ?_⟩⟩
      refine ⟨_, ?_, sc_of_si HSI2.out (by omega) HSC.out HK2.out (by omega)⟩
      simp [results, Tryz.results67, Tryz.f67, go_sem]
  case stop1 =>
    rintro D c' pre W hD hpre ⟨rfl, ini, x, s, rfl, hs, hst, vC, vE, ms, hsi⟩ hK
    have hT := HT.out
    subst hT
    have hsc : wscan b = s := by
      obtain ⟨k, hk, hpk⟩ := hpre
      rw [wscan, ← List.take_append_drop k (Vi.sq 0 b), ← hpk, List.map_append, List.map_cons, List.map_nil, List.append_assoc, wgo_all hs]
      show wgo b s (x.p :: _) = s
      rw [wgo, hst]
    have HSC := hid hsc
    have HSI2 := hid hsi
    have HK2 := hid hK
    obtain ⟨c1', f1'⟩ := boxes hsi.b1
    obtain ⟨c2', f2'⟩ := boxes hsi.b2
    have c2'' : W.cell? ⟨w.heap.size + 1 + 1, 0, none⟩ = some vE := c2'
    clear hsi hK hs hst hpre hsc
    gi_wp2
    go_wp2_with fail
    go_quiet (fail)
    all_goals go_wp2_with fail
    all_goals
      refine ⟨by simp, .inl ⟨_, _, rfl, run_takeDeferred (by exact HK2.out), ?_⟩⟩
      refine ⟨_, ?_, sc_of_si HSI2.out (by omega) HSC.out HK2.out (by omega)⟩
      simp [results, Tryz.results67, Tryz.f67, go_sem]
end Go.Proofs.YtbpnbcjgkbpmgaaGreat
